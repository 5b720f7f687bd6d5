/-
  Walks through the functions that the law reaches: each answers as its plain definition does.
  Conditions: none.
-/
import Derived.KernelRfl
import Derived.Shelf.Strings.Builder1
import Derived.Shelf.Strings.SlTrimAscii
import Derived.Shelf.Small.Strs
import Derived.Test.YtgamijfefbhklaaGreatDoorDf
import Derived.Test.YtgamijfefbhklaaGreatDoorProg
import Derived.Test.YtgamijfefbhklaaGreatDoorPvCx
open Go Go.PV Go.Proofs
set_option linter.all false
namespace Go.PV
attribute [local irreducible] pvC pvL pvD sOp seqQ blockQ Meets MeetsB Ok OkL RegOk agree endQ seqL blockL loopQ endL endLB
theorem Tryz_mixed : Tryz.prog.follows .mixedOrders = true := by kernel_rfl
theorem Tryz_und5 : Tryz.prog.underlying 5 = some (.int .u8) := by kernel_rfl
theorem Tryz_und3 : Tryz.prog.underlying 3 = some (.int .i64) := by kernel_rfl
theorem Tryz_und55 : Tryz.prog.underlying 55 = some (.int .u64) := by kernel_rfl
theorem wk_laws_big {a0 : (List Int)} {a1 : (List Int)}  {r : Bool} (h : laws_big a0 a1 = some r) : Meets Tryz.prog 8 [.d false [.sl none (a0.map (eU .u8))], .d false [.sl none (a1.map (eU .u8))]] { vals := [.p (.bool r)] } := by
 refine mo Tryz.func8 [(0, .d false [.sl none (a0.map (eU .u8))]), (1, .d false [.sl none (a1.map (eU .u8))])] ?_
 unfold laws_big at h
 refine k_sreg (r_gq [(0, .d false [.sl none (a0.map (eU .u8))]), (1, .d false [.sl none (a1.map (eU .u8))])] [] trivial) ?_
 refine k_sreg (l1 := [(4, .p (.bool ((decide ((a0.length : Int) > 1048576)) || (decide ((a1.length : Int) > (w64 (1048576 - (a0.length : Int))))))))]) ?_ ?_
 ·rcases ft (decide ((a0.length : Int) > 1048576)) with ha0 | ha0
  ·exact RegOk.of_eq (l2 := [(4, .p (.bool ((decide ((a0.length : Int) > 1048576)) || (decide ((a1.length : Int) > (w64 (1048576 - (a0.length : Int))))))))]) (r_gq [(4, .p (.bool true))] [(1, {n := some a0.length}), (4, gT), (5, gT), (6, gT), (7, gT), (8, gT), (9, gT), (10, bT)] (B6 (show (a0.map (eU .u8)).length = a0.length from (List.length_map ..)) ha0 ha0 ha0 ha0 ha0 (A2 ha0 ha0))) (by simp [ha0])
  ·exact RegOk.of_eq (l2 := [(4, .p (.bool ((decide ((a0.length : Int) > 1048576)) || (decide ((a1.length : Int) > (w64 (1048576 - (a0.length : Int))))))))]) (r_gq [(4, .p (.bool (decide ((a1.length : Int) > (w64 (1048576 - (a0.length : Int)))))))] [(1, {n := some a0.length}), (4, gF), (5, {g := some false, n := some a1.length}), (6, gF), (7, {g := some false, n := some a0.length}), (8, gF), (9, gF), (10, bF)] (B6 (show (a0.map (eU .u8)).length = a0.length from (List.length_map ..)) ha0 ha0 (show (a1.map (eU .u8)).length = a1.length from (List.length_map ..)) ha0 ha0 (A4 (show (a0.map (eU .u8)).length = a0.length from (List.length_map ..)) ha0 ha0 ha0))) (by simp [ha0])
 ·refine k_ret ?_
  obtain rfl := oi h
  exact er [(.p (.bool ((decide ((a0.length : Int) > 1048576)) || (decide ((a1.length : Int) > (w64 (1048576 - (a0.length : Int))))))), 4)]
theorem wk_spec_l1Cur_next {a0 : Cu}  {r : (Int × Cu)} (h : spec_l1Cur_next a0 = some r) : MeetsB Tryz.prog 105 (.box (eCu a0)) [] [.p (iV r.1)] (.box (eCu r.2)) := by
 refine mob Tryz.func105 [(0, .box (eCu a0))] ?_
 unfold spec_l1Cur_next at h
 refine k_sreg (r_gq [(0, .box (eCu a0))] [] trivial) ?_
 refine k_sreg (r_gq [(0, .box (eCu a0)), (3, .p (iV 0))] [] trivial) ?_
 refine k_join (J := fun (x : Int) => [(0, .box (eCu a0)), (3, .p (iV x))]) (K := fun x => spec_l1Cur_next_k1 a0 x = some r) (fun x1 h => ?_) ?_
 ·unfold spec_l1Cur_next_k1 at h
  refine k_sreg (r_gq [(0, .box [.sl none (a0.1.map (eU .u8)), rI (w64 (a0.2.1 + 1)), .raw (.int .u64 a0.2.2)]), (3, .p (iV x1))] [] trivial) ?_
  refine k_sreg (r_gq [(0, .box [.sl none (a0.1.map (eU .u8)), rI (w64 (a0.2.1 + 1)), .raw (.int .u64 (IntKind.wrap .u64 ((IntKind.wrap .u64 ((IntKind.wrap .u64 (a0.2.2 * 6364136223846793005)) + (IntKind.wrap .u64 x1))) + 1442695040888963407)))]), (3, .p (iV x1))] [(7, {pv := some (.int .u64 (IntKind.wrap .u64 x1))})] (A1 (show PureAt Tryz.prog (.convert 3 55 (.tmp 38)) [.int .i64 x1] (.int .u64 (IntKind.wrap .u64 x1)) from (pure_conv Tryz_und3 Tryz_und55)))) ?_
  refine k_seq ?_
  refine k_sreg (r_dq Tryz_mixed 9 [] [(0, .box [.sl none (a0.1.map (eU .u8)), rI (w64 (a0.2.1 + 1)), .raw (.int .u64 (IntKind.wrap .u64 ((IntKind.wrap .u64 ((IntKind.wrap .u64 (a0.2.2 * 6364136223846793005)) + (IntKind.wrap .u64 x1))) + 1442695040888963407)))]), (3, .p (iV x1)), (53, .p (.bool (decide ((w64 (a0.2.1 + 1)) ≤ (a0.1.length : Int)))))] [(7, bT), (8, {n := some a0.1.length})] (A2 (show frR [.sl none (a0.1.map (eU .u8))] = true from (frR1 (frL_enc (fr_U .u8)) rfl)) (show (a0.1.map (eU .u8)).length = a0.1.length from (List.length_map ..)))) ?_
  refine kc (decide ((w64 (a0.2.1 + 1)) ≤ (a0.1.length : Int))) (fun hc2_1 => ?_) (fun hc2_1 => ?_)
  ·replace h := ite_t hc2_1 h
   refine k_sreg (r_gq [(0, .box [.sl none (a0.1.map (eU .u8)), rI (w64 (a0.2.1 + 1)), .raw (.int .u64 (IntKind.wrap .u64 ((IntKind.wrap .u64 ((IntKind.wrap .u64 (a0.2.2 * 6364136223846793005)) + (IntKind.wrap .u64 x1))) + 1442695040888963407)))]), (2, .p (iV x1))] [] trivial) ?_
   refine k_ret ?_
   refine q_r ?_
   obtain rfl := oi h
   exact ebr [(.p (iV x1), 2)]
  ·replace h := ite_f hc2_1 h
   refine k_skip ?_
   refine q_n ?_
   refine k_sreg (r_gq [(0, .box [.sl none (a0.1.map (eU .u8)), rI (w64 (a0.2.1 + 1)), .raw (.int .u64 (IntKind.wrap .u64 ((IntKind.wrap .u64 ((IntKind.wrap .u64 (a0.2.2 * 6364136223846793005)) + (IntKind.wrap .u64 x1))) + 1442695040888963407)))]), (2, .p (iV (IntKind.wrap .i64 (iand .u64 (ishr .u64 (IntKind.wrap .u64 ((IntKind.wrap .u64 ((IntKind.wrap .u64 (a0.2.2 * 6364136223846793005)) + (IntKind.wrap .u64 x1))) + 1442695040888963407)) 40) 255))))] [(4, {pv := some (.int .u64 (ishr .u64 (IntKind.wrap .u64 ((IntKind.wrap .u64 ((IntKind.wrap .u64 (a0.2.2 * 6364136223846793005)) + (IntKind.wrap .u64 x1))) + 1442695040888963407)) 40))}), (5, {pv := some (.int .u64 (iand .u64 (ishr .u64 (IntKind.wrap .u64 ((IntKind.wrap .u64 ((IntKind.wrap .u64 (a0.2.2 * 6364136223846793005)) + (IntKind.wrap .u64 x1))) + 1442695040888963407)) 40) 255))}), (6, {pv := some (iV (IntKind.wrap .i64 (iand .u64 (ishr .u64 (IntKind.wrap .u64 ((IntKind.wrap .u64 ((IntKind.wrap .u64 (a0.2.2 * 6364136223846793005)) + (IntKind.wrap .u64 x1))) + 1442695040888963407)) 40) 255)))})] (A3 (show PureAt Tryz.prog (.binOp .shr 55 (.tmp 58) (.const (.int .u64 40)) 121) [.int .u64 (IntKind.wrap .u64 ((IntKind.wrap .u64 ((IntKind.wrap .u64 (a0.2.2 * 6364136223846793005)) + (IntKind.wrap .u64 x1))) + 1442695040888963407)), .int .u64 40] (.int .u64 (ishr .u64 (IntKind.wrap .u64 ((IntKind.wrap .u64 ((IntKind.wrap .u64 (a0.2.2 * 6364136223846793005)) + (IntKind.wrap .u64 x1))) + 1442695040888963407)) 40)) from (pure_shr (by decide))) (show PureAt Tryz.prog (.binOp .and 55 (.tmp 59) (.const (.int .u64 255)) 55) [.int .u64 (ishr .u64 (IntKind.wrap .u64 ((IntKind.wrap .u64 ((IntKind.wrap .u64 (a0.2.2 * 6364136223846793005)) + (IntKind.wrap .u64 x1))) + 1442695040888963407)) 40), .int .u64 255] (.int .u64 (iand .u64 (ishr .u64 (IntKind.wrap .u64 ((IntKind.wrap .u64 ((IntKind.wrap .u64 (a0.2.2 * 6364136223846793005)) + (IntKind.wrap .u64 x1))) + 1442695040888963407)) 40) 255)) from (pure_and)) (show PureAt Tryz.prog (.convert 55 3 (.tmp 60)) [.int .u64 (iand .u64 (ishr .u64 (IntKind.wrap .u64 ((IntKind.wrap .u64 ((IntKind.wrap .u64 (a0.2.2 * 6364136223846793005)) + (IntKind.wrap .u64 x1))) + 1442695040888963407)) 40) 255)] (iV (IntKind.wrap .i64 (iand .u64 (ishr .u64 (IntKind.wrap .u64 ((IntKind.wrap .u64 ((IntKind.wrap .u64 (a0.2.2 * 6364136223846793005)) + (IntKind.wrap .u64 x1))) + 1442695040888963407)) 40) 255))) from (pure_conv Tryz_und55 Tryz_und3)))) ?_
   refine k_ret ?_
   obtain rfl := oi h
   exact ebr [(.p (iV (IntKind.wrap .i64 (iand .u64 (ishr .u64 (IntKind.wrap .u64 ((IntKind.wrap .u64 ((IntKind.wrap .u64 (a0.2.2 * 6364136223846793005)) + (IntKind.wrap .u64 x1))) + 1442695040888963407)) 40) 255))), 2)]
 ·refine k_sreg (r_dq Tryz_mixed 9 [] [(0, .box (eCu a0)), (3, .p (iV 0)), (13, .p (.bool (decide (a0.2.1 < (a0.1.length : Int)))))] [(7, bT), (8, {n := some a0.1.length})] (A2 (show frR [.sl none (a0.1.map (eU .u8))] = true from (frR1 (frL_enc (fr_U .u8)) rfl)) (show (a0.1.map (eU .u8)).length = a0.1.length from (List.length_map ..)))) ?_
  refine kc (decide (a0.2.1 < (a0.1.length : Int))) (fun hc2_2 => ?_) (fun hc2_2 => ?_)
  ·replace h := ite_t hc2_2 h
   replace h := bs h
   obtain ⟨v4, hv4, h⟩ := h
   refine k_reg (r_dq Tryz_mixed 8 [] [(0, .box (eCu a0)), (3, .p (iV (IntKind.wrap .i64 v4)))] [(3, bT), (8, {row := some [.raw (.int .u8 v4)]}), (10, {pv := some (iV (IntKind.wrap .i64 v4))})] (A4 (show frR [.sl none (a0.1.map (eU .u8))] = true from (frR1 (frL_enc (fr_U .u8)) rfl)) (idxO_some hv4).1 (map_get (eU .u8) (idxO_some hv4).2) (show PureAt Tryz.prog (.convert 5 3 (.tmp 23)) [.int .u8 v4] (iV (IntKind.wrap .i64 v4)) from (pure_conv Tryz_und5 Tryz_und3)))) ?_
   refine q_n ?_
   exact jx (IntKind.wrap .i64 v4) h
  ·replace h := ite_f hc2_2 h
   refine k_skip ?_
   refine q_n ?_
   exact jx 0 h
theorem wk_spec_l1Cur_pick {a0 : Cu} {a1 : Int}  {r : (Int × Cu)} (h : spec_l1Cur_pick a0 a1 = some r) : MeetsB Tryz.prog 75 (.box (eCu a0)) [wI a1] [.p (iV r.1)] (.box (eCu r.2)) := by
 refine mob Tryz.func75 [(0, .box (eCu a0)), (1, .p (iV a1))] ?_
 unfold spec_l1Cur_pick at h
 refine k_sreg (r_gq [(0, .box (eCu a0)), (1, .p (iV a1))] [] trivial) ?_
 refine k_seq ?_
 refine k_sreg (r_gq [(0, .box (eCu a0)), (1, .p (iV a1)), (7, .p (.bool (decide (a1 ≤ 1))))] [] trivial) ?_
 refine kc (decide (a1 ≤ 1)) (fun hc2_0 => ?_) (fun hc2_0 => ?_)
 ·replace h := ite_t hc2_0 h
  refine k_sreg (r_gq [(0, .box (eCu a0)), (4, .p (iV 0))] [] trivial) ?_
  refine k_ret ?_
  refine q_r ?_
  obtain rfl := oi h
  exact ebr [(.p (iV 0), 4)]
 ·replace h := ite_f hc2_0 h
  refine k_skip ?_
  refine q_n ?_
  replace h := bs h
  obtain ⟨v2, hv2, h⟩ := h
  refine k_sreg (r_gq [(0, .box (eCu v2.2)), (1, .p (iV a1)), (5, .p (iV v2.1))] [(1, {lend := some (none, [.p (iV v2.1)], .box (eCu v2.2), false)})] (A1 (wk_spec_l1Cur_next hv2))) ?_
  refine k_join (J := fun (x : ((List Int) × Int × Int × Int)) => [(0, .box (eCu (x.1, x.2.1, x.2.2.1))), (1, .p (iV a1)), (5, .p (iV x.2.2.2))]) (K := fun x => spec_l1Cur_pick_k1 a1 x = some r) (fun x3 h => ?_) ?_
  ·unfold spec_l1Cur_pick_k1 at h
   replace h := bs h
   obtain ⟨u4, hu4, h⟩ := h
   refine k_sreg (r_gq [(0, .box (eCu (x3.1, x3.2.1, x3.2.2.1))), (4, .p (iV (Int.tmod x3.2.2.2 a1)))] [] (A1 (guardO_some hu4))) ?_
   refine k_ret ?_
   obtain rfl := oi h
   exact ebr [(.p (iV (Int.tmod x3.2.2.2 a1)), 4)]
  ·refine k_sreg (r_gq [(0, .box (eCu v2.2)), (1, .p (iV a1)), (5, .p (iV v2.1)), (11, .p (.bool (decide (a1 > 200))))] [] trivial) ?_
   refine kc (decide (a1 > 200)) (fun hc2_4 => ?_) (fun hc2_4 => ?_)
   ·replace h := ite_t hc2_4 h
    replace h := bs h
    obtain ⟨v6, hv6, h⟩ := h
    refine k_reg (r_gq [(0, .box (eCu v6.2)), (1, .p (iV a1)), (5, .p (iV (w64 ((w64 (v2.1 * 256)) + v6.1))))] [(3, {lend := some (none, [.p (iV v6.1)], .box (eCu v6.2), false)})] (A1 (wk_spec_l1Cur_next hv6))) ?_
    refine q_n ?_
    exact jx (v6.2.1, v6.2.2.1, v6.2.2.2, (w64 ((w64 (v2.1 * 256)) + v6.1))) h
   ·replace h := ite_f hc2_4 h
    refine k_skip ?_
    refine q_n ?_
    exact jx (v2.2.1, v2.2.2.1, v2.2.2.2, v2.1) h
theorem wk_spec_l1Cur_one {a0 : Cu} {a1 : Int}  {r : (Bool × Cu)} (h : spec_l1Cur_one a0 a1 = some r) : MeetsB Tryz.prog 72 (.box (eCu a0)) [wI a1] [.p (.bool r.1)] (.box (eCu r.2)) := by
 refine mob Tryz.func72 [(0, .box (eCu a0)), (1, .p (iV a1))] ?_
 unfold spec_l1Cur_one at h
 refine k_sreg (r_gq [(0, .box (eCu a0)), (1, .p (iV a1))] [] trivial) ?_
 replace h := bs h
 obtain ⟨v1, hv1, h⟩ := h
 refine k_sreg (r_gq [(0, .box (eCu v1.2)), (4, .p (.bool (v1.1 == 0)))] [(2, {lend := some (none, [.p (iV v1.1)], .box (eCu v1.2), false)})] (A1 (wk_spec_l1Cur_pick hv1))) ?_
 refine k_ret ?_
 obtain rfl := oi h
 exact ebr [(.p (.bool (v1.1 == 0)), 4)]
theorem wk_spec_l1Cur_among {a0 : Cu} {a1 : (List Int)}  {r : (Int × Cu)} (h : spec_l1Cur_among a0 a1 = some r) : MeetsB Tryz.prog 37 (.box (eCu a0)) [.d false [.sl none (a1.map eI)]] [.p (iV r.1)] (.box (eCu r.2)) := by
 refine mob Tryz.func37 [(0, .box (eCu a0)), (1, .d false [.sl none (a1.map eI)])] ?_
 unfold spec_l1Cur_among at h
 refine k_sreg (r_gq [(0, .box (eCu a0)), (1, .d false [.sl none (a1.map eI)])] [] trivial) ?_
 replace h := bs h
 obtain ⟨v1, hv1, h⟩ := h
 replace h := bs h
 obtain ⟨v2, hv2, h⟩ := h
 refine k_sreg (r_gq [(0, .box (eCu v1.2)), (4, .p (iV v2))] [(3, {n := some a1.length}), (4, {lend := some (none, [.p (iV v1.1)], .box (eCu v1.2), false)}), (5, {row := some (eI v2)})] (A4 (show (a1.map eI).length = a1.length from (List.length_map ..)) (wk_spec_l1Cur_pick hv1) (idxO_some hv2).1 (map_get eI (idxO_some hv2).2))) ?_
 refine k_ret ?_
 obtain rfl := oi h
 exact ebr [(.p (iV v2), 4)]
theorem wk_spec_raInt {a0 : Int}  {r : Qr} (h : spec_raInt a0 = some r) : Meets Tryz.prog 62 [wI a0] { vals := [.p (vRt r)] } := by
 refine mo Tryz.func62 [(0, .p (iV a0))] ?_
 unfold spec_raInt at h
 refine k_sreg (r_gq [(0, .p (iV a0)), (2, .box [rI 0, rI 0])] [] trivial) ?_
 refine k_sreg (r_gq [(2, .box [rI a0, rI 1])] [] trivial) ?_
 refine k_ret ?_
 obtain rfl := oi h
 exact er [(.p (.agg #[.int .i64 a0, .int .i64 1]), 2)]
theorem wk_spec_l1Most {a0 : Int} {a1 : Int}  {r : Int} (h : spec_l1Most a0 a1 = some r) : Meets Tryz.prog 92 [wI a0, wI a1] { vals := [.p (iV r)] } := by
 refine mo Tryz.func92 [(0, .p (iV a0)), (1, .p (iV a1))] ?_
 unfold spec_l1Most at h
 refine k_sreg (r_gq [(0, .p (iV a0)), (1, .p (iV a1))] [] trivial) ?_
 refine k_seq ?_
 refine k_sreg (r_gq [(0, .p (iV a0)), (1, .p (iV a1)), (7, .p (.bool (decide (a0 > a1))))] [] trivial) ?_
 refine kc (decide (a0 > a1)) (fun hc2_0 => ?_) (fun hc2_0 => ?_)
 ·replace h := ite_t hc2_0 h
  refine k_sreg (r_gq [(4, .p (iV a0))] [] trivial) ?_
  refine k_ret ?_
  refine q_r ?_
  obtain rfl := oi h
  exact er [(.p (iV a0), 4)]
 ·replace h := ite_f hc2_0 h
  refine k_skip ?_
  refine q_n ?_
  refine k_sreg (r_gq [(4, .p (iV a1))] [] trivial) ?_
  refine k_ret ?_
  obtain rfl := oi h
  exact er [(.p (iV a1), 4)]
theorem wk_spec_l1Abs {a0 : Int}  {r : Int} (h : spec_l1Abs a0 = some r) : Meets Tryz.prog 58 [wI a0] { vals := [.p (iV r)] } := by
 refine mo Tryz.func58 [(0, .p (iV a0))] ?_
 unfold spec_l1Abs at h
 refine k_sreg (r_gq [(0, .p (iV a0))] [] trivial) ?_
 replace h := bs h
 obtain ⟨v1, hv1, h⟩ := h
 refine k_sreg (r_gq [(2, .p (iV v1))] [(3, {call := some (none, [.p (iV v1)], true)})] (A1 (wk_spec_l1Most hv1))) ?_
 refine k_ret ?_
 obtain rfl := oi h
 exact er [(.p (iV v1), 2)]
theorem wk_spec_raCommon {a0 : Int} {a1 : Int}  {r : Int} (h : spec_raCommon a0 a1 = some r) : Meets Tryz.prog 57 [wI a0, wI a1] { vals := [.p (iV r)] } := by
 refine mo Tryz.func57 [(0, .p (iV a0)), (1, .p (iV a1))] ?_
 unfold spec_raCommon at h
 refine k_sreg (r_gq [(0, .p (iV a0)), (1, .p (iV a1))] [] trivial) ?_
 refine k_join (J := fun (x : Int) => [(0, .p (iV x))]) (K := fun x => spec_raCommon_k1 x = some r) (fun x1 h => ?_) ?_
 ·unfold spec_raCommon_k1 at h
  refine k_sreg (r_gq [(4, .p (iV x1))] [] trivial) ?_
  refine k_ret ?_
  obtain rfl := oi h
  exact er [(.p (iV x1), 4)]
 ·refine k_block ?_
  obtain ⟨y3, hl_x2, hk_x2⟩ := bs h
  clear h
  refine k_loop (J := fun (x : Qr) => [(0, .p (iV x.1)), (1, .p (iV x.2))]) hl_x2 (wk_of (by kernel_rfl) (by kernel_rfl)) (fun x2 o_x2 h hy_x2 => ?_)
  unfold spec_raCommon_b1 at h
  refine k_seq ?_
  refine k_sreg (r_gq [(0, .p (iV x2.1)), (1, .p (iV x2.2)), (7, .p (.bool (decide (x2.2 > 0))))] [] trivial) ?_
  refine kc (decide (x2.2 > 0)) (fun hc5_3 => ?_) (fun hc5_3 => ?_)
  ·replace h := ite_t hc5_3 h
   refine k_skip ?_
   refine q_n ?_
   refine k_block ?_
   replace h := bs h
   obtain ⟨u5, hu5, h⟩ := h
   refine k_sreg (r_gq [(1, .p (iV x2.2)), (5, .p (iV (Int.tmod x2.1 x2.2)))] [] (A1 (guardO_some hu5))) ?_
   refine k_sreg (r_gq [(0, .p (iV x2.2)), (5, .p (iV (Int.tmod x2.1 x2.2)))] [] trivial) ?_
   refine k_reg (r_gq [(0, .p (iV x2.2)), (1, .p (iV (Int.tmod x2.1 x2.2)))] [] trivial) ?_
   refine b_n ?_
   exact lqn (x2.2, (Int.tmod x2.1 x2.2)) h
  ·replace h := ite_f hc5_3 h
   refine k_exit ?_
   refine q_x ?_
   refine lq_x ?_
   refine b_x ?_
   have hyy := hy_x2 _ (oi h).symm
   subst hyy
   have h := hk_x2
   refine q_n ?_
   exact jx x2.1 h
theorem wk_spec_l1In {a0 : Int} {a1 : Int} {a2 : Int}  {r : Bool} (h : spec_l1In a0 a1 a2 = some r) : Meets Tryz.prog 80 [wI a0, wI a1, wI a2] { vals := [.p (.bool r)] } := by
 refine mo Tryz.func80 [(0, .p (iV a0)), (1, .p (iV a1)), (2, .p (iV a2))] ?_
 unfold spec_l1In at h
 refine k_sreg (r_gq [(0, .p (iV a0)), (1, .p (iV a1)), (2, .p (iV a2))] [] trivial) ?_
 refine k_sreg (l1 := [(6, .p (.bool ((decide (a0 ≥ a1)) && (decide (a0 ≤ a2)))))]) ?_ ?_
 ·rcases ft (decide (a0 ≥ a1)) with ha0 | ha0
  ·exact RegOk.of_eq (l2 := [(6, .p (.bool ((decide (a0 ≥ a1)) && (decide (a0 ≤ a2)))))]) (r_gq [(6, .p (.bool (decide (a0 ≤ a2))))] [(4, gT), (5, gT), (6, gT), (7, bT)] (A4 ha0 ha0 ha0 ha0)) (by simp [ha0])
  ·exact RegOk.of_eq (l2 := [(6, .p (.bool ((decide (a0 ≥ a1)) && (decide (a0 ≤ a2)))))]) (r_gq [(6, .p (.bool false))] [(4, gF), (5, gF), (6, gF), (7, bF)] (A4 ha0 ha0 ha0 ha0)) (by simp [ha0])
 ·refine k_ret ?_
  obtain rfl := oi h
  exact er [(.p (.bool ((decide (a0 ≥ a1)) && (decide (a0 ≤ a2)))), 6)]
theorem wk_spec_raGood {a0 : Qr}  {r : Bool} (h : spec_raGood a0 = some r) : Meets Tryz.prog 59 [.v (vRt a0)] { vals := [.p (.bool r)] } := by
 refine mo Tryz.func59 [(0, .p (vRt a0))] ?_
 unfold spec_raGood at h
 refine k_sreg (r_gq [(1, .box (eRt a0))] [] trivial) ?_
 replace h := bs h
 obtain ⟨v1, hv1, h⟩ := h
 replace h := bs h
 obtain ⟨w5, hw5, h⟩ := h
 refine k_sreg (l1 := [(2, .p (.bool w5))]) ?_ ?_
 ·clear h
  rcases ft v1 with ha0 | ha0
  ·replace hw5 := ite_t ha0 hw5
   replace hw5 := bs hw5
   obtain ⟨v2, hv2, hw5⟩ := hw5
   rcases ft v2 with ha1 | ha1
   ·replace hw5 := ite_t ha1 hw5
    replace hw5 := bs hw5
    obtain ⟨v3, hv3, hw5⟩ := hw5
    replace hw5 := bs hw5
    obtain ⟨v4, hv4, hw5⟩ := hw5
    have hw5 := oi hw5
    subst hw5
    exact (r_dq Tryz_mixed 14 [] [(2, .p (.bool (v4 == 1)))] [(2, {call := some (none, [.p (.bool v1)], true)}), (4, gT), (5, gT), (6, {g := some true, call := some (none, [.p (.bool v2)], true)}), (7, bT), (9, gT), (10, gT), (11, {g := some true, call := some (none, [.p (iV v3)], true)}), (12, gT), (13, gT), (14, {g := some true, call := some (none, [.p (iV v4)], true)}), (15, gT), (16, bT)] (B6 (wk_spec_l1In hv1) ha0 ha0 ha0 (wk_spec_l1In hv2) ha0 (B6 ha1 ha1 ha1 (wk_spec_l1Abs hv3) ha1 ha1 (A4 ha1 (wk_spec_raCommon hv4) ha1 ha1))))
   ·replace hw5 := ite_f ha1 hw5
    have hw5 := oi hw5
    subst hw5
    exact (r_dq Tryz_mixed 14 [] [(2, .p (.bool false))] [(2, {call := some (none, [.p (.bool v1)], true)}), (4, gT), (5, gT), (6, {g := some true, call := some (none, [.p (.bool v2)], true)}), (7, bT), (9, gF), (10, gF), (11, gF), (12, gF), (13, gF), (14, gF), (15, gF), (16, bF)] (B6 (wk_spec_l1In hv1) ha0 ha0 ha0 (wk_spec_l1In hv2) ha0 (B6 ha1 ha1 ha1 ha1 ha1 ha1 (A2 ha1 ha1))))
  ·replace hw5 := ite_f ha0 hw5
   have hw5 := oi hw5
   subst hw5
   exact (r_dq Tryz_mixed 14 [] [(2, .p (.bool false))] [(2, {call := some (none, [.p (.bool v1)], true)}), (4, gF), (5, gF), (6, gF), (7, bF), (9, gF), (10, gF), (11, gF), (12, gF), (13, gF), (14, gF), (15, gF), (16, bF)] (B6 (wk_spec_l1In hv1) ha0 ha0 ha0 ha0 (show false = false from rfl) (B6 (show false = false from rfl) (show false = false from rfl) (show false = false from rfl) (show false = false from rfl) (show false = false from rfl) (show false = false from rfl) (A1 (show false = false from rfl)))))
 ·refine k_ret ?_
  obtain rfl := oi h
  exact er [(.p (.bool w5), 2)]
theorem wk_spec_raMake {a0 : Int} {a1 : Int}  {r : (Qr × Bool)} (h : spec_raMake a0 a1 = some r) : Meets Tryz.prog 28 [wI a0, wI a1] { vals := [.p (vRt r.1), .p (.bool r.2)] } := by
 refine mo Tryz.func28 [(0, .p (iV a0)), (1, .p (iV a1))] ?_
 unfold spec_raMake at h
 refine k_sreg (r_gq [(0, .p (iV a0)), (1, .p (iV a1)), (4, .box [rI 0, rI 0])] [] trivial) ?_
 refine k_seq ?_
 refine k_sreg (r_gq [(0, .p (iV a0)), (1, .p (iV a1)), (4, .box [rI 0, rI 0]), (9, .p (.bool (a1 == 0)))] [] trivial) ?_
 refine kc (a1 == 0) (fun hc2_0 => ?_) (fun hc2_0 => ?_)
 ·replace h := ite_t hc2_0 h
  refine k_sreg (r_gq [(4, .box [rI 0, rI 0]), (5, .p (.bool false))] [] trivial) ?_
  refine k_ret ?_
  refine q_r ?_
  obtain rfl := oi h
  exact er [(.p (.agg #[.int .i64 0, .int .i64 0]), 4), (.p (.bool false), 5)]
 ·replace h := ite_f hc2_0 h
  refine k_skip ?_
  refine q_n ?_
  replace h := bs h
  obtain ⟨v2, hv2, h⟩ := h
  replace h := bs h
  obtain ⟨v3, hv3, h⟩ := h
  replace h := bs h
  obtain ⟨v4, hv4, h⟩ := h
  refine k_sreg (r_gq [(0, .p (iV a0)), (1, .p (iV a1)), (4, .box [rI 0, rI 0]), (6, .p (iV v4))] [(1, {call := some (none, [.p (iV v2)], true)}), (3, {call := some (none, [.p (iV v3)], true)}), (4, {call := some (none, [.p (iV v4)], true)})] (A3 (wk_spec_l1Abs hv2) (wk_spec_l1Abs hv3) (wk_spec_raCommon hv4))) ?_
  refine k_join (J := fun (x : Int) => [(0, .p (iV a0)), (1, .p (iV a1)), (4, .box [rI 0, rI 0]), (6, .p (iV x))]) (K := fun x => spec_raMake_k1 a0 a1 x = some r) (fun x5 h => ?_) ?_
  ·unfold spec_raMake_k1 at h
   replace h := bs h
   obtain ⟨u6, hu6, h⟩ := h
   refine k_sreg (r_dq Tryz_mixed 8 [] [(4, .box [rI 0, rI 0]), (7, .box [rI (w64 (Int.tdiv a0 x5)), rI (w64 (Int.tdiv a1 x5))])] [] (A2 (guardO_some hu6) (guardO_some hu6))) ?_
   refine k_seq ?_
   replace h := bs h
   obtain ⟨v7, hv7, h⟩ := h
   refine k_sreg (r_gq [(4, .box [rI 0, rI 0]), (7, .box [rI (w64 (Int.tdiv a0 x5)), rI (w64 (Int.tdiv a1 x5))]), (29, .p (.bool (!v7)))] [(1, {call := some (none, [.p (.bool v7)], true)})] (A1 (wk_spec_raGood hv7))) ?_
   refine kc (!v7) (fun hc2_7 => ?_) (fun hc2_7 => ?_)
   ·replace h := ite_t hc2_7 h
    refine k_sreg (r_gq [(4, .box [rI 0, rI 0]), (5, .p (.bool false))] [] trivial) ?_
    refine k_ret ?_
    refine q_r ?_
    obtain rfl := oi h
    exact er [(.p (.agg #[.int .i64 0, .int .i64 0]), 4), (.p (.bool false), 5)]
   ·replace h := ite_f hc2_7 h
    refine k_skip ?_
    refine q_n ?_
    refine k_sreg (r_gq [(4, .box [rI (w64 (Int.tdiv a0 x5)), rI (w64 (Int.tdiv a1 x5))]), (5, .p (.bool true))] [] trivial) ?_
    refine k_ret ?_
    obtain rfl := oi h
    exact er [(.p (.agg #[.int .i64 (w64 (Int.tdiv a0 x5)), .int .i64 (w64 (Int.tdiv a1 x5))]), 4), (.p (.bool true), 5)]
  ·refine k_sreg (r_gq [(0, .p (iV a0)), (1, .p (iV a1)), (4, .box [rI 0, rI 0]), (6, .p (iV v4)), (17, .p (.bool (decide (a1 < 0))))] [] trivial) ?_
   refine kc (decide (a1 < 0)) (fun hc2_8 => ?_) (fun hc2_8 => ?_)
   ·replace h := ite_t hc2_8 h
    refine k_reg (r_gq [(0, .p (iV a0)), (1, .p (iV a1)), (4, .box [rI 0, rI 0]), (6, .p (iV (w64 (0 - v4))))] [] trivial) ?_
    refine q_n ?_
    exact jx (w64 (0 - v4)) h
   ·replace h := ite_f hc2_8 h
    refine k_skip ?_
    refine q_n ?_
    exact jx v4 h
theorem wk_spec_l1Cur_gridRat {a0 : Cu} {a1 : Int}  {r : (Qr × Cu)} (h : spec_l1Cur_gridRat a0 a1 = some r) : MeetsB Tryz.prog 76 (.box (eCu a0)) [wI a1] [.p (vRt r.1)] (.box (eCu r.2)) := by
 refine mob Tryz.func76 [(0, .box (eCu a0)), (1, .p (iV a1))] ?_
 unfold spec_l1Cur_gridRat at h
 refine k_sreg (r_gq [(0, .box (eCu a0)), (1, .p (iV a1)), (4, .box [rI 0, rI 0])] [] trivial) ?_
 replace h := bs h
 obtain ⟨v1, hv1, h⟩ := h
 replace h := bs h
 obtain ⟨v2, hv2, h⟩ := h
 refine k_sreg (r_gq [(0, .box (eCu v1.2)), (4, .box [rI 0, rI 0]), (5, .box (eRt v2.1))] [(3, {lend := some (none, [.p (iV v1.1)], .box (eCu v1.2), false)}), (5, {call := some (none, [.p (vRt v2.1), .p (.bool v2.2)], true)})] (A2 (wk_spec_l1Cur_pick hv1) (wk_spec_raMake hv2))) ?_
 refine k_sreg (r_gq [(0, .box (eCu v1.2)), (4, .box (eRt v2.1))] [] trivial) ?_
 refine k_ret ?_
 obtain rfl := oi h
 exact ebr [(.p (vRt v2.1), 4)]
theorem wk_spec_l1Sign {a0 : Int}  {r : Int} (h : spec_l1Sign a0 = some r) : Meets Tryz.prog 64 [wI a0] { vals := [.p (iV r)] } := by
 refine mo Tryz.func64 [(0, .p (iV a0))] ?_
 unfold spec_l1Sign at h
 refine k_sreg (r_gq [(0, .p (iV a0))] [] trivial) ?_
 refine k_seq ?_
 refine k_block ?_
 refine k_sreg (r_gq [(0, .p (iV a0)), (3, .p (.bool (decide (a0 > 0))))] [] trivial) ?_
 refine kc (decide (a0 > 0)) (fun hc3_0 => ?_) (fun hc3_0 => ?_)
 ·replace h := ite_t hc3_0 h
  refine k_sreg (r_gq [(2, .p (iV 1))] [] trivial) ?_
  refine k_ret ?_
  refine b_r ?_
  refine q_r ?_
  obtain rfl := oi h
  exact er [(.p (iV 1), 2)]
 ·replace h := ite_f hc3_0 h
  refine k_sreg (r_gq [(6, .p (.bool (decide (a0 < 0))))] [] trivial) ?_
  refine kc (decide (a0 < 0)) (fun hc3_1 => ?_) (fun hc3_1 => ?_)
  ·replace h := ite_t hc3_1 h
   refine k_sreg (r_gq [(2, .p (iV (-1)))] [] trivial) ?_
   refine k_ret ?_
   refine b_r ?_
   refine q_r ?_
   obtain rfl := oi h
   exact er [(.p (iV (-1)), 2)]
  ·replace h := ite_f hc3_1 h
   refine k_skip ?_
   refine b_n ?_
   refine q_n ?_
   refine k_sreg (r_gq [(2, .p (iV 0))] [] trivial) ?_
   refine k_ret ?_
   obtain rfl := oi h
   exact er [(.p (iV 0), 2)]
theorem wk_spec_raCmp {a0 : Qr} {a1 : Qr}  {r : Int} (h : spec_raCmp a0 a1 = some r) : Meets Tryz.prog 60 [.v (vRt a0), .v (vRt a1)] { vals := [.p (iV r)] } := by
 refine mo Tryz.func60 [(0, .p (vRt a0)), (1, .p (vRt a1))] ?_
 unfold spec_raCmp at h
 refine k_sreg (r_gq [(2, .box (eRt a0)), (3, .box (eRt a1))] [] trivial) ?_
 replace h := bs h
 obtain ⟨v1, hv1, h⟩ := h
 refine k_sreg (r_gq [(4, .p (iV v1))] [(11, {call := some (none, [.p (iV v1)], true)})] (A1 (wk_spec_l1Sign hv1))) ?_
 refine k_ret ?_
 obtain rfl := oi h
 exact er [(.p (iV v1), 4)]
theorem wk_spec_imPut {a0 : (List Qr)} {a1 : Qr}  {r : (List Qr)} (h : spec_imPut a0 a1 = some r) : Meets Tryz.prog 146 [.d false [.sl none (a0.map eRt)], .v (vRt a1)] { vals := [.d false [.sl none (r.map eRt)]] } := by
 refine mo Tryz.func146 [(0, .d false [.sl none (a0.map eRt)]), (1, .p (vRt a1))] ?_
 unfold spec_imPut at h
 refine k_sreg (r_gq [(0, .d false [.sl none (a0.map eRt)]), (3, .box (eRt a1))] [] trivial) ?_
 refine k_sreg (r_gq [(0, .d false [.sl none (a0.map eRt)]), (3, .box (eRt a1)), (5, .p (iV 0))] [] trivial) ?_
 refine k_join (J := fun (x : Int) => [(0, .d false [.sl none (a0.map eRt)]), (3, .box (eRt a1)), (5, .p (iV x))]) (K := fun x => spec_imPut_k1 a0 a1 x = some r) (fun x1 h => ?_) ?_
 ·unfold spec_imPut_k1 at h
  refine k_seq ?_
  replace h := bs h
  obtain ⟨w3, hw3, h⟩ := h
  refine k_sreg (l1 := [(0, .d false [.sl none (a0.map eRt)]), (3, .box (eRt a1)), (5, .p (iV x1)), (32, .p (.bool w3))]) ?_ ?_
  ·clear h
   rcases ft (decide (x1 < (a0.length : Int))) with ha0 | ha0
   ·replace hw3 := ite_t ha0 hw3
    replace hw3 := bs hw3
    obtain ⟨v2, hv2, hw3⟩ := hw3
    have hw3 := oi hw3
    subst hw3
    exact (r_dq Tryz_mixed 10 [] [(0, .d false [.sl none (a0.map eRt)]), (3, .box (eRt a1)), (5, .p (iV x1)), (32, .p (.bool ((v2.1 == a1.1) && (v2.2 == a1.2))))] [(2, {n := some a0.length}), (5, gT), (6, gT), (7, {g := some true, row := some (eRt v2)}), (8, gT), (9, gT), (10, {g := some true, pv := some (.bool ((v2.1 == a1.1) && (v2.2 == a1.2)))}), (11, bT)] (B6 (show (a0.map eRt).length = a0.length from (List.length_map ..)) ha0 ha0 ha0 (idxO_some hv2).1 (map_get eRt (idxO_some hv2).2) (A5 ha0 ha0 ha0 (show PureAt Tryz.prog (.binOp .eql 23 (.tmp 29) (.tmp 30) 23) [vRt v2, vRt a1] (.bool ((v2.1 == a1.1) && (v2.2 == a1.2))) from (pure_eql2 (by kernel_rfl))) ha0)))
   ·replace hw3 := ite_f ha0 hw3
    have hw3 := oi hw3
    subst hw3
    exact (r_dq Tryz_mixed 10 [] [(0, .d false [.sl none (a0.map eRt)]), (3, .box (eRt a1)), (5, .p (iV x1)), (32, .p (.bool false))] [(2, {n := some a0.length}), (5, gF), (6, gF), (7, gF), (8, gF), (9, gF), (10, gF), (11, bF)] (B6 (show (a0.map eRt).length = a0.length from (List.length_map ..)) ha0 ha0 ha0 ha0 ha0 (A2 ha0 ha0)))
  ·refine kc w3 (fun hc2_3 => ?_) (fun hc2_3 => ?_)
   ·replace h := ite_t hc2_3 h
    refine k_sreg (r_gq [(4, .d false [.sl none (a0.map eRt)])] [] trivial) ?_
    refine k_ret ?_
    refine q_r ?_
    obtain rfl := oi h
    exact er [(.d false [.sl none (a0.map eRt)], 4)]
   ·replace h := ite_f hc2_3 h
    refine k_skip ?_
    refine q_n ?_
    replace h := bs h
    obtain ⟨u5, hu5, h⟩ := h
    replace h := bs h
    obtain ⟨u6, hu6, h⟩ := h
    replace h := bs h
    obtain ⟨u7, hu7, h⟩ := h
    replace h := bs h
    obtain ⟨u8, hu8, h⟩ := h
    refine k_sreg (r_dq Tryz_mixed 11 [(4, 34), (7, 38), (4096, 34), (4097, 38)] [(4, .d false [.sl none ((((a0.take (Int.toNat x1)) ++ [a1]) ++ (a0.drop (Int.toNat x1))).map eRt)])] [(3, {fix := some (37, .d false [.sl none ((a0.take (Int.toNat x1)).map eRt)])}), (6, {pre := some (0, .u), fix := some (40, .d false [.sl none (([a1]).map eRt)])}), (7, {fix := some (41, .ov false [.sl (some 23) (((a0.take (Int.toNat x1)) ++ [a1]).map eRt)])}), (10, {fix := some (44, .d false [.sl none ((a0.drop (Int.toNat x1)).map eRt)])}), (11, {fix := some (45, .ov false [.sl (some 23) ((((a0.take (Int.toNat x1)) ++ [a1]) ++ (a0.drop (Int.toNat x1))).map eRt)])}), (12, {pre := some (45, .d false [.sl none ((((a0.take (Int.toNat x1)) ++ [a1]) ++ (a0.drop (Int.toNat x1))).map eRt)])})] (B6 (show 0 ≤ (Int.toNat x1) from (by have hg := (guardO_some hu5); first | (simp only [List.length_map]; omega) | omega)) (show (Int.toNat x1) ≤ (a0.map eRt).length from (by have hg := (guardO_some hu5); first | (simp only [List.length_map]; omega) | omega)) (show ∀ row ∈ (a0.map eRt), row.length = 2 from (rows_len fun _ => rfl)) (show (0 : Int) ≤ x1 from (by have hg := (guardO_some hu5); omega)) (show (SV.d false [.sl none (((a0.map eRt).take (Int.toNat x1)).drop 0)] : SV) = .d false [.sl none ((a0.take (Int.toNat x1)).map eRt)] from (congrArg (fun z => SV.d false [.sl none z]) sl_hi)) (show List.length ([] : List (List C)) + List.length (((a0.take (Int.toNat x1)).map eRt) : List (List C)) ≤ 1099511627776 from (by have hg := (guardO_some hu6); simpa using hg)) (B6 (show ∀ row ∈ (((a0.take (Int.toNat x1)).map eRt) : List (List C)), row.length = 2 from (rows_len fun _ => rfl)) (show (SV.d false (eraR [.sl (some 23) (([a1]).map eRt)]) : SV) = .d false [.sl none (([a1]).map eRt)] from (congrArg (fun z => SV.d false z) (erc_sl (eraL_enc (era_P er_I er_I)) rfl))) (show List.length (((a0.take (Int.toNat x1)).map eRt) : List (List C)) + List.length ((([a1]).map eRt) : List (List C)) ≤ 1099511627776 from (by have hg := (guardO_some hu7); simpa using hg)) (show ∀ row ∈ ((([a1]).map eRt) : List (List C)), row.length = 2 from (rows_len fun _ => rfl)) (show (SV.ov false [.sl (some 23) (((a0.take (Int.toNat x1)).map eRt) ++ (([a1]).map eRt))] : SV) = .ov false [.sl (some 23) (((a0.take (Int.toNat x1)) ++ [a1]).map eRt)] from (congrArg (fun z => SV.ov false [.sl (some 23) z]) (List.map_append ..).symm)) (show (Int.toNat x1) ≤ (a0.map eRt).length from (by have hg := (guardO_some hu5); first | (simp only [List.length_map]; omega) | omega)) (B6 (show (a0.map eRt).length ≤ (a0.map eRt).length from (Nat.le_refl _)) (show ∀ row ∈ (a0.map eRt), row.length = 2 from (rows_len fun _ => rfl)) (show (0 : Int) ≤ x1 from (by have hg := (guardO_some hu5); omega)) (show (SV.d false [.sl none (((a0.map eRt).take (a0.map eRt).length).drop (Int.toNat x1))] : SV) = .d false [.sl none ((a0.drop (Int.toNat x1)).map eRt)] from (congrArg (fun z => SV.d false [.sl none z]) sl_lo)) (show List.length ((((a0.take (Int.toNat x1)) ++ [a1]).map eRt) : List (List C)) + List.length (((a0.drop (Int.toNat x1)).map eRt) : List (List C)) ≤ 1099511627776 from (by have hg := (guardO_some hu8); simpa using hg)) (show ∀ row ∈ (((a0.drop (Int.toNat x1)).map eRt) : List (List C)), row.length = 2 from (rows_len fun _ => rfl)) (A2 (show (SV.ov false [.sl (some 23) ((((a0.take (Int.toNat x1)) ++ [a1]).map eRt) ++ ((a0.drop (Int.toNat x1)).map eRt))] : SV) = .ov false [.sl (some 23) ((((a0.take (Int.toNat x1)) ++ [a1]) ++ (a0.drop (Int.toNat x1))).map eRt)] from (congrArg (fun z => SV.ov false [.sl (some 23) z]) (List.map_append ..).symm)) (show (SV.d false (eraR [.sl (some 23) ((((a0.take (Int.toNat x1)) ++ [a1]) ++ (a0.drop (Int.toNat x1))).map eRt)]) : SV) = .d false [.sl none ((((a0.take (Int.toNat x1)) ++ [a1]) ++ (a0.drop (Int.toNat x1))).map eRt)] from (congrArg (fun z => SV.d false z) (erc_sl (eraL_enc (era_P er_I er_I)) rfl)))))))) ?_
    refine k_ret ?_
    obtain rfl := oi h
    exact er [(.d false [.sl none ((((a0.take (Int.toNat x1)) ++ [a1]) ++ (a0.drop (Int.toNat x1))).map eRt)], 4)]
 ·refine k_block ?_
  obtain ⟨y10, hl_x9, hk_x9⟩ := bs h
  clear h
  refine k_loop (J := fun (x : Int) => [(0, .d false [.sl none (a0.map eRt)]), (3, .box (eRt a1)), (5, .p (iV x))]) hl_x9 (wk_of (by kernel_rfl) (by kernel_rfl)) (fun x9 o_x9 h hy_x9 => ?_)
  unfold spec_imPut_b1 at h
  refine k_seq ?_
  replace h := bs h
  obtain ⟨w13, hw13, h⟩ := h
  refine k_sreg (l1 := [(0, .d false [.sl none (a0.map eRt)]), (3, .box (eRt a1)), (5, .p (iV x9)), (18, .p (.bool w13))]) ?_ ?_
  ·clear h
   rcases ft (decide (x9 < (a0.length : Int))) with ha0 | ha0
   ·replace hw13 := ite_t ha0 hw13
    replace hw13 := bs hw13
    obtain ⟨v11, hv11, hw13⟩ := hw13
    replace hw13 := bs hw13
    obtain ⟨v12, hv12, hw13⟩ := hw13
    have hw13 := oi hw13
    subst hw13
    exact (r_dq Tryz_mixed 10 [] [(0, .d false [.sl none (a0.map eRt)]), (3, .box (eRt a1)), (5, .p (iV x9)), (18, .p (.bool (decide (v12 < 0))))] [(2, {n := some a0.length}), (5, gT), (6, gT), (7, {g := some true, row := some (eRt v11)}), (8, gT), (9, gT), (10, {g := some true, call := some (none, [.p (iV v12)], true)}), (11, gT), (12, bT)] (B6 (show (a0.map eRt).length = a0.length from (List.length_map ..)) ha0 ha0 ha0 (idxO_some hv11).1 (map_get eRt (idxO_some hv11).2) (A6 ha0 ha0 ha0 (wk_spec_raCmp hv12) ha0 ha0)))
   ·replace hw13 := ite_f ha0 hw13
    have hw13 := oi hw13
    subst hw13
    exact (r_dq Tryz_mixed 10 [] [(0, .d false [.sl none (a0.map eRt)]), (3, .box (eRt a1)), (5, .p (iV x9)), (18, .p (.bool false))] [(2, {n := some a0.length}), (5, gF), (6, gF), (7, gF), (8, gF), (9, gF), (10, gF), (11, gF), (12, bF)] (B6 (show (a0.map eRt).length = a0.length from (List.length_map ..)) ha0 ha0 ha0 ha0 ha0 (A3 ha0 ha0 ha0)))
  ·refine kc w13 (fun hc5_13 => ?_) (fun hc5_13 => ?_)
   ·replace h := ite_t hc5_13 h
    refine k_skip ?_
    refine q_n ?_
    refine k_block ?_
    refine k_reg (r_gq [(0, .d false [.sl none (a0.map eRt)]), (3, .box (eRt a1)), (5, .p (iV (w64 (x9 + 1))))] [] trivial) ?_
    refine b_n ?_
    exact lqn (w64 (x9 + 1)) h
   ·replace h := ite_f hc5_13 h
    refine k_exit ?_
    refine q_x ?_
    refine lq_x ?_
    refine b_x ?_
    have hyy := hy_x9 _ (oi h).symm
    subst hyy
    have h := hk_x9
    refine q_n ?_
    exact jx x9 h
theorem wk_spec_l1Cur_imGrid {a0 : Cu} {a1 : Int}  {r : ((List Qp) × Cu)} (h : spec_l1Cur_imGrid a0 a1 = some r) : MeetsB Tryz.prog 135 (.box (eCu a0)) [wI a1] [.ov false [.sl (some 78) (r.1.map ePt)]] (.box (eCu r.2)) := by
 refine mob Tryz.func135 [(0, .box (eCu a0)), (1, .p (iV a1))] ?_
 unfold spec_l1Cur_imGrid at h
 refine k_sreg (r_gq [(0, .box (eCu a0)), (1, .p (iV a1))] [] trivial) ?_
 replace h := bs h
 obtain ⟨v1, hv1, h⟩ := h
 refine k_sreg (r_gq [(0, .box (eCu v1.2)), (1, .p (iV a1)), (5, .p (iV v1.1))] [(2, {lend := some (some [.d false [.sl none (([0, 1, 1, 2, 3]).map eI)]], [.p (iV v1.1)], .box (eCu v1.2), false), fix := some (12, .d false [.sl none (([0, 1, 1, 2, 3]).map eI)])})] (A3 (show ([.d false [.sl none (eraL (([0, 1, 1, 2, 3]).map eI))]] : List Arg) = [.d false [.sl none (([0, 1, 1, 2, 3]).map eI)]] from (by simp only [eraL_enc (h := eI) er_I])) (wk_spec_l1Cur_among hv1) (show (SV.d false (eraR [.sl (some 3) (([0, 1, 1, 2, 3]).map eI)]) : SV) = .d false [.sl none (([0, 1, 1, 2, 3]).map eI)] from (congrArg (fun z => SV.d false z) (erc_sl (eraL_enc er_I) rfl))))) ?_
 refine k_join (J := fun (x : ((List Int) × Int × Int × Int)) => [(0, .box (eCu (x.1, x.2.1, x.2.2.1))), (1, .p (iV a1)), (5, .p (iV x.2.2.2))]) (K := fun x => spec_l1Cur_imGrid_k1 a1 x = some r) (fun x2 h => ?_) ?_
 ·unfold spec_l1Cur_imGrid_k1 at h
  replace h := bs h
  obtain ⟨v3, hv3, h⟩ := h
  replace h := bs h
  obtain ⟨v4, hv4, h⟩ := h
  refine k_sreg (r_gq [(0, .box (eCu (x2.1, x2.2.1, x2.2.2.1))), (1, .p (iV a1)), (5, .p (iV x2.2.2.2)), (6, .d false [.sl none (([v3, v4]).map eRt)])] [(0, {call := some (none, [.p (vRt v3)], true)}), (1, {call := some (none, [.p (vRt v4)], true)}), (3, {pre := some (18, .d false [.sl none (([v3, v4]).map eRt)])})] (A3 (wk_spec_raInt hv3) (wk_spec_raInt hv4) (show (SV.d false (eraR [.sl (some 23) (([v3, v4]).map eRt)]) : SV) = .d false [.sl none (([v3, v4]).map eRt)] from (congrArg (fun z => SV.d false z) (erc_sl (eraL_enc (era_P er_I er_I)) rfl))))) ?_
  refine k_join (J := fun (x : ((List Int) × Int × Int × (List Qr))) => [(0, .box (eCu (x.1, x.2.1, x.2.2.1))), (1, .p (iV a1)), (6, .d false [.sl none (x.2.2.2.map eRt)])]) (K := fun x => spec_l1Cur_imGrid_k2 a1 x = some r) (fun x5 h => ?_) ?_
  ·unfold spec_l1Cur_imGrid_k2 at h
   refine k_sreg (r_gq [(0, .box (eCu (x5.1, x5.2.1, x5.2.2.1))), (1, .p (iV a1)), (6, .d false [.sl none (x5.2.2.2.map eRt)]), (8, .ov false [.sl (some 78) []])] [] trivial) ?_
   refine k_join (J := fun (x : ((List Int) × Int × Int × (List Qp))) => [(0, .box (eCu (x.1, x.2.1, x.2.2.1))), (8, .ov false [.sl (some 78) (x.2.2.2.map ePt)])]) (K := fun x => spec_l1Cur_imGrid_k3 x = some r) (fun x6 h => ?_) ?_
   ·unfold spec_l1Cur_imGrid_k3 at h
    refine k_sreg (r_gq [(0, .box (eCu (x6.1, x6.2.1, x6.2.2.1))), (4, .ov false [.sl (some 78) (x6.2.2.2.map ePt)])] [] trivial) ?_
    refine k_ret ?_
    obtain rfl := oi h
    exact ebr [(.ov false [.sl (some 78) (x6.2.2.2.map ePt)], 4)]
   ·refine k_sreg (r_gq [(0, .box (eCu (x5.1, x5.2.1, x5.2.2.1))), (1, .p (iV a1)), (8, .ov false [.sl (some 78) []]), (35, .d false [.sl none (x5.2.2.2.map eRt)]), (36, .p (iV (x5.2.2.2.length : Int))), (37, .p (iV 0))] [(1, {n := some x5.2.2.2.length})] (A1 (show (x5.2.2.2.map eRt).length = x5.2.2.2.length from (List.length_map ..)))) ?_
    refine k_block ?_
    obtain ⟨y8, hl_x7, hk_x7⟩ := bs h
    clear h
    refine k_loop (J := fun (x : ((List Int) × Int × Int × (List Qp) × Int)) => [(0, .box (eCu (x.1, x.2.1, x.2.2.1))), (1, .p (iV a1)), (8, .ov false [.sl (some 78) (x.2.2.2.1.map ePt)]), (35, .d false [.sl none (x5.2.2.2.map eRt)]), (36, .p (iV (x5.2.2.2.length : Int))), (37, .p (iV x.2.2.2.2))]) hl_x7 (wk_of (by kernel_rfl) (by kernel_rfl)) (fun x7 o_x7 h hy_x7 => ?_)
    unfold spec_l1Cur_imGrid_b1 at h
    refine k_sreg (r_gq [(0, .box (eCu (x7.1, x7.2.1, x7.2.2.1))), (1, .p (iV a1)), (8, .ov false [.sl (some 78) (x7.2.2.2.1.map ePt)]), (35, .d false [.sl none (x5.2.2.2.map eRt)]), (36, .p (iV (x5.2.2.2.length : Int))), (37, .p (iV x7.2.2.2.2)), (38, .p (.bool (decide (x7.2.2.2.2 < (x5.2.2.2.length : Int)))))] [] trivial) ?_
    refine k_seq ?_
    refine kc (decide (x7.2.2.2.2 < (x5.2.2.2.length : Int))) (fun hc5_8 => ?_) (fun hc5_8 => ?_)
    ·replace h := ite_t hc5_8 h
     refine k_skip ?_
     refine q_n ?_
     refine k_seq ?_
     refine k_block ?_
     replace h := bs h
     obtain ⟨v10, hv10, h⟩ := h
     refine k_sreg (r_gq [(0, .box (eCu (x7.1, x7.2.1, x7.2.2.1))), (1, .p (iV a1)), (8, .ov false [.sl (some 78) (x7.2.2.2.1.map ePt)]), (10, .box (eRt v10)), (35, .d false [.sl none (x5.2.2.2.map eRt)]), (36, .p (iV (x5.2.2.2.length : Int))), (37, .p (iV x7.2.2.2.2))] [(0, {row := some (eRt v10)})] (A2 (idxO_some hv10).1 (map_get eRt (idxO_some hv10).2))) ?_
     replace h := bs h
     obtain ⟨v11, hv11, h⟩ := h
     replace h := bs h
     obtain ⟨u12, hu12, h⟩ := h
     refine k_reg (r_dq Tryz_mixed 7 [(4, 0)] [(0, .box (eCu v11.2)), (1, .p (iV a1)), (8, .ov false [.sl (some 78) ((x7.2.2.2.1 ++ [(v10, v11.1)]).map ePt)]), (35, .d false [.sl none (x5.2.2.2.map eRt)]), (36, .p (iV (x5.2.2.2.length : Int))), (37, .p (iV x7.2.2.2.2))] [(4, {lend := some (none, [.p (vRt v11.1)], .box (eCu v11.2), false)}), (7, {fix := some (48, .ov false [.sl (some 78) ((x7.2.2.2.1 ++ [(v10, v11.1)]).map ePt)])})] (A4 (wk_spec_l1Cur_gridRat hv11) (show List.length ((x7.2.2.2.1.map ePt) : List (List C)) + List.length ((([(v10, v11.1)]).map ePt) : List (List C)) ≤ 1099511627776 from (by have hg := (guardO_some hu12); simpa using hg)) (show ∀ row ∈ ((([(v10, v11.1)]).map ePt) : List (List C)), row.length = 4 from (rows_len fun _ => rfl)) (show (SV.ov false [.sl (some 78) ((x7.2.2.2.1.map ePt) ++ (([(v10, v11.1)]).map ePt))] : SV) = .ov false [.sl (some 78) ((x7.2.2.2.1 ++ [(v10, v11.1)]).map ePt)] from (congrArg (fun z => SV.ov false [.sl (some 78) z]) (List.map_append ..).symm)))) ?_
     refine b_n ?_
     refine q_n ?_
     refine k_reg (r_gq [(0, .box (eCu v11.2)), (1, .p (iV a1)), (8, .ov false [.sl (some 78) ((x7.2.2.2.1 ++ [(v10, v11.1)]).map ePt)]), (35, .d false [.sl none (x5.2.2.2.map eRt)]), (36, .p (iV (x5.2.2.2.length : Int))), (37, .p (iV (w64 (x7.2.2.2.2 + 1))))] [] trivial) ?_
     exact lqn (v11.2.1, v11.2.2.1, v11.2.2.2, (x7.2.2.2.1 ++ [(v10, v11.1)]), (w64 (x7.2.2.2.2 + 1))) h
    ·replace h := ite_f hc5_8 h
     refine k_exit ?_
     refine q_x ?_
     refine lq_x ?_
     refine b_x ?_
     have hyy := hy_x7 _ (oi h).symm
     subst hyy
     have h := hk_x7
     refine q_n ?_
     exact jx (x7.1, x7.2.1, x7.2.2.1, x7.2.2.2.1) h
  ·refine k_sreg (r_gq [(0, .box (eCu (x2.1, x2.2.1, x2.2.2.1))), (1, .p (iV a1)), (5, .p (iV x2.2.2.2)), (6, .d false [.sl none (([v3, v4]).map eRt)]), (7, .p (iV 0))] [] trivial) ?_
   refine k_block ?_
   obtain ⟨y14, hl_x13, hk_x13⟩ := bs h
   clear h
   refine k_loop (J := fun (x : ((List Int) × Int × Int × (List Qr) × Int)) => [(0, .box (eCu (x.1, x.2.1, x.2.2.1))), (1, .p (iV a1)), (5, .p (iV x2.2.2.2)), (6, .d false [.sl none (x.2.2.2.1.map eRt)]), (7, .p (iV x.2.2.2.2))]) hl_x13 (wk_of (by kernel_rfl) (by kernel_rfl)) (fun x13 o_x13 h hy_x13 => ?_)
   unfold spec_l1Cur_imGrid_b2 at h
   refine k_seq ?_
   refine k_sreg (l1 := [(0, .box (eCu (x13.1, x13.2.1, x13.2.2.1))), (1, .p (iV a1)), (5, .p (iV x2.2.2.2)), (6, .d false [.sl none (x13.2.2.2.1.map eRt)]), (7, .p (iV x13.2.2.2.2)), (27, .p (.bool ((decide ((x13.2.2.2.1.length : Int) < (w64 (x2.2.2.2 + 2)))) && (decide (x13.2.2.2.2 < 60)))))]) ?_ ?_
   ·rcases ft (decide ((x13.2.2.2.1.length : Int) < (w64 (x2.2.2.2 + 2)))) with ha0 | ha0
    ·exact RegOk.of_eq (l2 := [(0, .box (eCu (x13.1, x13.2.1, x13.2.2.1))), (1, .p (iV a1)), (5, .p (iV x2.2.2.2)), (6, .d false [.sl none (x13.2.2.2.1.map eRt)]), (7, .p (iV x13.2.2.2.2)), (27, .p (.bool ((decide ((x13.2.2.2.1.length : Int) < (w64 (x2.2.2.2 + 2)))) && (decide (x13.2.2.2.2 < 60)))))]) (r_gq [(0, .box (eCu (x13.1, x13.2.1, x13.2.2.1))), (1, .p (iV a1)), (5, .p (iV x2.2.2.2)), (6, .d false [.sl none (x13.2.2.2.1.map eRt)]), (7, .p (iV x13.2.2.2.2)), (27, .p (.bool (decide (x13.2.2.2.2 < 60))))] [(1, {n := some x13.2.2.2.1.length}), (6, gT), (7, gT), (8, bT)] (A4 (show (x13.2.2.2.1.map eRt).length = x13.2.2.2.1.length from (List.length_map ..)) ha0 ha0 ha0)) (by simp [ha0])
    ·exact RegOk.of_eq (l2 := [(0, .box (eCu (x13.1, x13.2.1, x13.2.2.1))), (1, .p (iV a1)), (5, .p (iV x2.2.2.2)), (6, .d false [.sl none (x13.2.2.2.1.map eRt)]), (7, .p (iV x13.2.2.2.2)), (27, .p (.bool ((decide ((x13.2.2.2.1.length : Int) < (w64 (x2.2.2.2 + 2)))) && (decide (x13.2.2.2.2 < 60)))))]) (r_gq [(0, .box (eCu (x13.1, x13.2.1, x13.2.2.1))), (1, .p (iV a1)), (5, .p (iV x2.2.2.2)), (6, .d false [.sl none (x13.2.2.2.1.map eRt)]), (7, .p (iV x13.2.2.2.2)), (27, .p (.bool false))] [(1, {n := some x13.2.2.2.1.length}), (6, gF), (7, gF), (8, bF)] (A4 (show (x13.2.2.2.1.map eRt).length = x13.2.2.2.1.length from (List.length_map ..)) ha0 ha0 ha0)) (by simp [ha0])
   ·refine kc ((decide ((x13.2.2.2.1.length : Int) < (w64 (x2.2.2.2 + 2)))) && (decide (x13.2.2.2.2 < 60))) (fun hc5_14 => ?_) (fun hc5_14 => ?_)
    ·replace h := ite_t hc5_14 h
     refine k_skip ?_
     refine q_n ?_
     refine k_seq ?_
     refine k_block ?_
     replace h := bs h
     obtain ⟨v16, hv16, h⟩ := h
     replace h := bs h
     obtain ⟨v17, hv17, h⟩ := h
     refine k_reg (r_gq [(0, .box (eCu v16.2)), (1, .p (iV a1)), (5, .p (iV x2.2.2.2)), (6, .d false [.sl none (v17.map eRt)]), (7, .p (iV x13.2.2.2.2))] [(3, {lend := some (none, [.p (vRt v16.1)], .box (eCu v16.2), false)}), (4, {call := some (none, [.d false [.sl none (v17.map eRt)]], false)})] (A2 (wk_spec_l1Cur_gridRat hv16) (wk_spec_imPut hv17))) ?_
     refine b_n ?_
     refine q_n ?_
     refine k_reg (r_gq [(0, .box (eCu v16.2)), (1, .p (iV a1)), (5, .p (iV x2.2.2.2)), (6, .d false [.sl none (v17.map eRt)]), (7, .p (iV (w64 (x13.2.2.2.2 + 1))))] [] trivial) ?_
     exact lqn (v16.2.1, v16.2.2.1, v16.2.2.2, v17, (w64 (x13.2.2.2.2 + 1))) h
    ·replace h := ite_f hc5_14 h
     refine k_exit ?_
     refine q_x ?_
     refine lq_x ?_
     refine b_x ?_
     have hyy := hy_x13 _ (oi h).symm
     subst hyy
     have h := hk_x13
     refine q_n ?_
     exact jx (x13.1, x13.2.1, x13.2.2.1, x13.2.2.2.1) h
 ·replace h := bs h
  obtain ⟨v18, hv18, h⟩ := h
  refine k_sreg (r_gq [(0, .box (eCu v18.2)), (1, .p (iV a1)), (5, .p (iV v1.1)), (15, .p (.bool v18.1))] [(1, {lend := some (none, [.p (.bool v18.1)], .box (eCu v18.2), false)})] (A1 (wk_spec_l1Cur_one hv18))) ?_
  refine kc v18.1 (fun hc2_18 => ?_) (fun hc2_18 => ?_)
  ·replace h := ite_t hc2_18 h
   refine k_reg (r_gq [(0, .box (eCu v18.2)), (1, .p (iV a1)), (5, .p (iV 10))] [] trivial) ?_
   refine q_n ?_
   exact jx (v18.2.1, v18.2.2.1, v18.2.2.2, 10) h
  ·replace h := ite_f hc2_18 h
   refine k_skip ?_
   refine q_n ?_
   exact jx (v18.2.1, v18.2.2.1, v18.2.2.2, v1.1) h
theorem wk_spec_l1Cur_im {a0 : Cu}  {r : ((List Qp) × Cu)} (h : spec_l1Cur_im a0 = some r) : MeetsB Tryz.prog 123 (.box (eCu a0)) [] [.ov false [.sl (some 78) (r.1.map ePt)]] (.box (eCu r.2)) := by
 refine mob Tryz.func123 [(0, .box (eCu a0))] ?_
 unfold spec_l1Cur_im at h
 refine k_sreg (r_gq [(0, .box (eCu a0))] [] trivial) ?_
 replace h := bs h
 obtain ⟨v1, hv1, h⟩ := h
 refine k_sreg (r_gq [(0, .box (eCu v1.2)), (3, .p (iV v1.1))] [(2, {lend := some (some [.d false [.sl none (([1, 2, 2, 3, 4, 4, 6, 12, 100]).map eI)]], [.p (iV v1.1)], .box (eCu v1.2), false), fix := some (10, .d false [.sl none (([1, 2, 2, 3, 4, 4, 6, 12, 100]).map eI)])})] (A3 (show ([.d false [.sl none (eraL (([1, 2, 2, 3, 4, 4, 6, 12, 100]).map eI))]] : List Arg) = [.d false [.sl none (([1, 2, 2, 3, 4, 4, 6, 12, 100]).map eI)]] from (by simp only [eraL_enc (h := eI) er_I])) (wk_spec_l1Cur_among hv1) (show (SV.d false (eraR [.sl (some 3) (([1, 2, 2, 3, 4, 4, 6, 12, 100]).map eI)]) : SV) = .d false [.sl none (([1, 2, 2, 3, 4, 4, 6, 12, 100]).map eI)] from (congrArg (fun z => SV.d false z) (erc_sl (eraL_enc er_I) rfl))))) ?_
 replace h := bs h
 obtain ⟨v2, hv2, h⟩ := h
 refine k_sreg (r_gq [(0, .box (eCu v2.2)), (3, .p (iV v1.1)), (4, .ov false [.sl (some 78) (v2.1.map ePt)])] [(2, {lend := some (none, [.ov false [.sl (some 78) (v2.1.map ePt)]], .box (eCu v2.2), false)})] (A1 (wk_spec_l1Cur_imGrid hv2))) ?_
 refine k_join (J := fun (x : ((List Int) × Int × Int × (List Qp))) => [(0, .box (eCu (x.1, x.2.1, x.2.2.1))), (4, .ov false [.sl (some 78) (x.2.2.2.map ePt)])]) (K := fun x => spec_l1Cur_im_k1 x = some r) (fun x3 h => ?_) ?_
 ·unfold spec_l1Cur_im_k1 at h
  refine k_sreg (r_gq [(0, .box (eCu (x3.1, x3.2.1, x3.2.2.1))), (2, .ov false [.sl (some 78) (x3.2.2.2.map ePt)])] [] trivial) ?_
  refine k_ret ?_
  obtain rfl := oi h
  exact ebr [(.ov false [.sl (some 78) (x3.2.2.2.map ePt)], 2)]
 ·replace h := bs h
  obtain ⟨v4, hv4, h⟩ := h
  refine k_sreg (r_gq [(0, .box (eCu v4.2)), (3, .p (iV v1.1)), (4, .ov false [.sl (some 78) (v2.1.map ePt)]), (16, .p (.bool v4.1))] [(1, {lend := some (none, [.p (.bool v4.1)], .box (eCu v4.2), false)})] (A1 (wk_spec_l1Cur_one hv4))) ?_
  refine kc v4.1 (fun hc2_4 => ?_) (fun hc2_4 => ?_)
  ·replace h := ite_t hc2_4 h
   replace h := bs h
   obtain ⟨v6, hv6, h⟩ := h
   refine k_sreg (r_gq [(0, .box (eCu v6.2)), (3, .p (iV v1.1)), (5, .p (iV v6.1))] [(2, {lend := some (some [.d false [.sl none (([2, 2, 3, 4]).map eI)]], [.p (iV v6.1)], .box (eCu v6.2), false), fix := some (18, .d false [.sl none (([2, 2, 3, 4]).map eI)])})] (A3 (show ([.d false [.sl none (eraL (([2, 2, 3, 4]).map eI))]] : List Arg) = [.d false [.sl none (([2, 2, 3, 4]).map eI)]] from (by simp only [eraL_enc (h := eI) er_I])) (wk_spec_l1Cur_among hv6) (show (SV.d false (eraR [.sl (some 3) (([2, 2, 3, 4]).map eI)]) : SV) = .d false [.sl none (([2, 2, 3, 4]).map eI)] from (congrArg (fun z => SV.d false z) (erc_sl (eraL_enc er_I) rfl))))) ?_
   refine k_sreg (r_gq [(0, .box (eCu v6.2)), (3, .p (iV v1.1)), (4, .ov false [.sl (some 78) []]), (5, .p (iV v6.1))] [] trivial) ?_
   refine k_join (J := fun (x : (List Qp)) => [(0, .box (eCu v6.2)), (3, .p (iV v1.1)), (4, .ov false [.sl (some 78) (x.map ePt)])]) (K := fun x => spec_l1Cur_im_k2 v1 v6 x = some r) (fun x7 h => ?_) ?_
   ·unfold spec_l1Cur_im_k2 at h
    replace h := bs h
    obtain ⟨v8, hv8, h⟩ := h
    refine k_sreg (r_gq [(0, .box (eCu v8.2)), (3, .p (iV v1.1)), (4, .ov false [.sl (some 78) (x7.map ePt)]), (40, .p (.bool v8.1))] [(1, {lend := some (none, [.p (.bool v8.1)], .box (eCu v8.2), false)})] (A1 (wk_spec_l1Cur_one hv8))) ?_
    refine kc v8.1 (fun hc2_8 => ?_) (fun hc2_8 => ?_)
    ·replace h := ite_t hc2_8 h
     replace h := bs h
     obtain ⟨v10, hv10, h⟩ := h
     replace h := bs h
     obtain ⟨v11, hv11, h⟩ := h
     refine k_reg (r_gq [(0, .box (eCu v10.2)), (4, .ov false [.sl (some 78) ((x7.set (Int.toNat 1) (v11.1, v10.1)).map ePt)])] [(3, {lend := some (none, [.p (vRt v10.1)], .box (eCu v10.2), false)}), (4, {row := some (ePt v11)}), (6, {row := some (eRt v11.2), fix := some (4, .ov false [.sl (some 78) ((x7.set (Int.toNat 1) (v11.1, v10.1)).map ePt)])})] (A5 (wk_spec_l1Cur_gridRat hv10) (idxO_some hv11).1 (map_get ePt (idxO_some hv11).2) (show getRow [[.sl (some 78) (x7.map ePt)]] [(0, 0), ((Int.toNat 1), 2)] = some (eRt v11.2) from ((gr0 rfl).trans (gre (map_get ePt (idxO_some hv11).2)))) (show (SV.ov false [.sl (some 78) (setL (x7.map ePt) [((Int.toNat 1), 2)] (eRt v10.1))] : SV) = .ov false [.sl (some 78) ((x7.set (Int.toNat 1) (v11.1, v10.1)).map ePt)] from (congrArg (fun z => SV.ov false [.sl (some 78) z]) (set1 (f := ePt) (y := (v11.1, v10.1)) (idxO_some hv11).2 rfl))))) ?_
     refine q_n ?_
     exact jx (v10.2.1, v10.2.2.1, v10.2.2.2, (x7.set (Int.toNat 1) (v11.1, v10.1))) h
    ·replace h := ite_f hc2_8 h
     refine k_skip ?_
     refine q_n ?_
     exact jx (v8.2.1, v8.2.2.1, v8.2.2.2, x7) h
   ·refine k_sreg (r_gq [(0, .box (eCu v6.2)), (3, .p (iV v1.1)), (4, .ov false [.sl (some 78) []]), (5, .p (iV v6.1)), (6, .p (iV 0))] [] trivial) ?_
    refine k_block ?_
    obtain ⟨y13, hl_x12, hk_x12⟩ := bs h
    clear h
    refine k_loop (J := fun (x : ((List Qp) × Int)) => [(0, .box (eCu v6.2)), (3, .p (iV v1.1)), (4, .ov false [.sl (some 78) (x.1.map ePt)]), (5, .p (iV v6.1)), (6, .p (iV x.2))]) hl_x12 (wk_of (by kernel_rfl) (by kernel_rfl)) (fun x12 o_x12 h hy_x12 => ?_)
    unfold spec_l1Cur_im_b1 at h
    refine k_seq ?_
    refine k_sreg (r_gq [(0, .box (eCu v6.2)), (3, .p (iV v1.1)), (4, .ov false [.sl (some 78) (x12.1.map ePt)]), (5, .p (iV v6.1)), (6, .p (iV x12.2)), (22, .p (.bool (decide (x12.2 ≤ v6.1))))] [] trivial) ?_
    refine kc (decide (x12.2 ≤ v6.1)) (fun hc6_13 => ?_) (fun hc6_13 => ?_)
    ·replace h := ite_t hc6_13 h
     refine k_skip ?_
     refine q_n ?_
     refine k_seq ?_
     refine k_block ?_
     replace h := bs h
     obtain ⟨v15, hv15, h⟩ := h
     refine k_sreg (r_gq [(0, .box (eCu v6.2)), (3, .p (iV v1.1)), (4, .ov false [.sl (some 78) (x12.1.map ePt)]), (5, .p (iV v6.1)), (6, .p (iV x12.2)), (7, .box (eRt v15.1))] [(2, {call := some (none, [.p (vRt v15.1), .p (.bool v15.2)], true)})] (A1 (wk_spec_raMake hv15))) ?_
     replace h := bs h
     obtain ⟨v16, hv16, h⟩ := h
     replace h := bs h
     obtain ⟨u17, hu17, h⟩ := h
     refine k_reg (r_dq Tryz_mixed 7 [] [(0, .box (eCu v6.2)), (3, .p (iV v1.1)), (4, .ov false [.sl (some 78) ((x12.1 ++ [(v15.1, v16)]).map ePt)]), (5, .p (iV v6.1)), (6, .p (iV x12.2))] [(4, {call := some (none, [.p (vRt v16)], true)}), (7, {fix := some (38, .ov false [.sl (some 78) ((x12.1 ++ [(v15.1, v16)]).map ePt)])})] (A5 (show 2 ≠ (0 : Int) from (by decide)) (wk_spec_raInt hv16) (show List.length ((x12.1.map ePt) : List (List C)) + List.length ((([(v15.1, v16)]).map ePt) : List (List C)) ≤ 1099511627776 from (by have hg := (guardO_some hu17); simpa using hg)) (show ∀ row ∈ ((([(v15.1, v16)]).map ePt) : List (List C)), row.length = 4 from (rows_len fun _ => rfl)) (show (SV.ov false [.sl (some 78) ((x12.1.map ePt) ++ (([(v15.1, v16)]).map ePt))] : SV) = .ov false [.sl (some 78) ((x12.1 ++ [(v15.1, v16)]).map ePt)] from (congrArg (fun z => SV.ov false [.sl (some 78) z]) (List.map_append ..).symm)))) ?_
     refine b_n ?_
     refine q_n ?_
     refine k_reg (r_gq [(0, .box (eCu v6.2)), (3, .p (iV v1.1)), (4, .ov false [.sl (some 78) ((x12.1 ++ [(v15.1, v16)]).map ePt)]), (5, .p (iV v6.1)), (6, .p (iV (w64 (x12.2 + 1))))] [] trivial) ?_
     exact lqn ((x12.1 ++ [(v15.1, v16)]), (w64 (x12.2 + 1))) h
    ·replace h := ite_f hc6_13 h
     refine k_exit ?_
     refine q_x ?_
     refine lq_x ?_
     refine b_x ?_
     have hyy := hy_x12 _ (oi h).symm
     subst hyy
     have h := hk_x12
     refine q_n ?_
     exact jx x12.1 h
  ·replace h := ite_f hc2_4 h
   refine k_skip ?_
   refine q_n ?_
   exact jx (v4.2.1, v4.2.2.1, v4.2.2.2, v2.1) h
theorem wk_spec_l1Cur_rat {a0 : Cu}  {r : (Qr × Cu)} (h : spec_l1Cur_rat a0 = some r) : MeetsB Tryz.prog 117 (.box (eCu a0)) [] [.p (vRt r.1)] (.box (eCu r.2)) := by
 refine mob Tryz.func117 [(0, .box (eCu a0))] ?_
 unfold spec_l1Cur_rat at h
 refine k_sreg (r_gq [(0, .box (eCu a0)), (2, .box [rI 0, rI 0])] [] trivial) ?_
 replace h := bs h
 obtain ⟨v1, hv1, h⟩ := h
 replace h := bs h
 obtain ⟨v2, hv2, h⟩ := h
 replace h := bs h
 obtain ⟨v3, hv3, h⟩ := h
 replace h := bs h
 obtain ⟨v4, hv4, h⟩ := h
 replace h := bs h
 obtain ⟨v5, hv5, h⟩ := h
 replace h := bs h
 obtain ⟨v6, hv6, h⟩ := h
 replace h := bs h
 obtain ⟨v7, hv7, h⟩ := h
 refine k_sreg (r_gq [(0, .box (eCu v6.2)), (2, .box [rI 0, rI 0]), (3, .box (eRt v7.1)), (4, .p (.bool v7.2))] [(2, {lend := some (none, [.p (iV v1.1)], .box (eCu v1.2), false)}), (5, {lend := some (none, [.p (iV v2.1)], .box (eCu v2.2), false)}), (8, {lend := some (some [.d false [.sl none (([0, 1, 2, 3, (-1), (-5), (w64 (v1.1 - 20)), (w64 (v2.1 - 1000)), 1000000000, (-1000000000)]).map eI)]], [.p (iV v3.1)], .box (eCu v3.2), false), fix := some (13, .d false [.sl none (([0, 1, 2, 3, (-1), (-5), (w64 (v1.1 - 20)), (w64 (v2.1 - 1000)), 1000000000, (-1000000000)]).map eI)])}), (11, {lend := some (none, [.p (iV v4.1)], .box (eCu v4.2), false)}), (14, {lend := some (none, [.p (iV v5.1)], .box (eCu v5.2), false)}), (17, {lend := some (some [.d false [.sl none (([1, 2, 3, 4, 8, 7, (w64 (1 + v4.1)), (w64 (1 + v5.1)), 1000000000, 999999999]).map eI)]], [.p (iV v6.1)], .box (eCu v6.2), false), fix := some (22, .d false [.sl none (([1, 2, 3, 4, 8, 7, (w64 (1 + v4.1)), (w64 (1 + v5.1)), 1000000000, 999999999]).map eI)])}), (18, {call := some (none, [.p (vRt v7.1), .p (.bool v7.2)], true)})] (B6 (wk_spec_l1Cur_pick hv1) (wk_spec_l1Cur_pick hv2) (show ([.d false [.sl none (eraL (([0, 1, 2, 3, (-1), (-5), (w64 (v1.1 - 20)), (w64 (v2.1 - 1000)), 1000000000, (-1000000000)]).map eI))]] : List Arg) = [.d false [.sl none (([0, 1, 2, 3, (-1), (-5), (w64 (v1.1 - 20)), (w64 (v2.1 - 1000)), 1000000000, (-1000000000)]).map eI)]] from (by simp only [eraL_enc (h := eI) er_I])) (wk_spec_l1Cur_among hv3) (show (SV.d false (eraR [.sl (some 3) (([0, 1, 2, 3, (-1), (-5), (w64 (v1.1 - 20)), (w64 (v2.1 - 1000)), 1000000000, (-1000000000)]).map eI)]) : SV) = .d false [.sl none (([0, 1, 2, 3, (-1), (-5), (w64 (v1.1 - 20)), (w64 (v2.1 - 1000)), 1000000000, (-1000000000)]).map eI)] from (congrArg (fun z => SV.d false z) (erc_sl (eraL_enc er_I) rfl))) (wk_spec_l1Cur_pick hv4) (A5 (wk_spec_l1Cur_pick hv5) (show ([.d false [.sl none (eraL (([1, 2, 3, 4, 8, 7, (w64 (1 + v4.1)), (w64 (1 + v5.1)), 1000000000, 999999999]).map eI))]] : List Arg) = [.d false [.sl none (([1, 2, 3, 4, 8, 7, (w64 (1 + v4.1)), (w64 (1 + v5.1)), 1000000000, 999999999]).map eI)]] from (by simp only [eraL_enc (h := eI) er_I])) (wk_spec_l1Cur_among hv6) (show (SV.d false (eraR [.sl (some 3) (([1, 2, 3, 4, 8, 7, (w64 (1 + v4.1)), (w64 (1 + v5.1)), 1000000000, 999999999]).map eI)]) : SV) = .d false [.sl none (([1, 2, 3, 4, 8, 7, (w64 (1 + v4.1)), (w64 (1 + v5.1)), 1000000000, 999999999]).map eI)] from (congrArg (fun z => SV.d false z) (erc_sl (eraL_enc er_I) rfl))) (wk_spec_raMake hv7)))) ?_
 refine k_seq ?_
 refine k_sreg (r_gq [(0, .box (eCu v6.2)), (2, .box [rI 0, rI 0]), (3, .box (eRt v7.1)), (28, .p (.bool (!v7.2)))] [] trivial) ?_
 refine kc (!v7.2) (fun hc2_7 => ?_) (fun hc2_7 => ?_)
 ·replace h := ite_t hc2_7 h
  replace h := bs h
  obtain ⟨v9, hv9, h⟩ := h
  refine k_sreg (r_gq [(0, .box (eCu v6.2)), (2, .box (eRt v9))] [(0, {call := some (none, [.p (vRt v9)], true)})] (A1 (wk_spec_raInt hv9))) ?_
  refine k_ret ?_
  refine q_r ?_
  obtain rfl := oi h
  exact ebr [(.p (vRt v9), 2)]
 ·replace h := ite_f hc2_7 h
  refine k_skip ?_
  refine q_n ?_
  refine k_sreg (r_gq [(0, .box (eCu v6.2)), (2, .box (eRt v7.1))] [] trivial) ?_
  refine k_ret ?_
  obtain rfl := oi h
  exact ebr [(.p (vRt v7.1), 2)]
theorem wk_spec_l1Cur_anyRat {a0 : Cu}  {r : (Qr × Cu)} (h : spec_l1Cur_anyRat a0 = some r) : MeetsB Tryz.prog 91 (.box (eCu a0)) [] [.p (vRt r.1)] (.box (eCu r.2)) := by
 refine mob Tryz.func91 [(0, .box (eCu a0))] ?_
 unfold spec_l1Cur_anyRat at h
 refine k_sreg (r_gq [(0, .box (eCu a0)), (2, .box [rI 0, rI 0])] [] trivial) ?_
 replace h := bs h
 obtain ⟨v1, hv1, h⟩ := h
 refine k_sreg (r_gq [(0, .box (eCu v1.2)), (2, .box [rI 0, rI 0]), (3, .box (eRt v1.1))] [(1, {lend := some (none, [.p (vRt v1.1)], .box (eCu v1.2), false)})] (A1 (wk_spec_l1Cur_rat hv1))) ?_
 refine k_seq ?_
 replace h := bs h
 obtain ⟨v2, hv2, h⟩ := h
 refine k_sreg (r_gq [(0, .box (eCu v2.2)), (2, .box [rI 0, rI 0]), (3, .box (eRt v1.1)), (7, .p (iV v2.1))] [(1, {lend := some (none, [.p (iV v2.1)], .box (eCu v2.2), false)})] (A1 (wk_spec_l1Cur_pick hv2))) ?_
 refine k_block ?_
 refine k_sreg (r_gq [(0, .box (eCu v2.2)), (2, .box [rI 0, rI 0]), (3, .box (eRt v1.1)), (7, .p (iV v2.1)), (8, .p (.bool (v2.1 == 0)))] [] trivial) ?_
 refine kc (v2.1 == 0) (fun hc3_2 => ?_) (fun hc3_2 => ?_)
 ·replace h := ite_t hc3_2 h
  replace h := bs h
  obtain ⟨v4, hv4, h⟩ := h
  refine k_reg (r_gq [(0, .box (eCu v4.2)), (2, .box [rI 0, rI 0]), (3, .box [rI v1.1.1, rI v4.1])] [(2, {lend := some (some [.d false [.sl none (([0, (-1), 1000000001]).map eI)]], [.p (iV v4.1)], .box (eCu v4.2), false), fix := some (11, .d false [.sl none (([0, (-1), 1000000001]).map eI)])})] (A3 (show ([.d false [.sl none (eraL (([0, (-1), 1000000001]).map eI))]] : List Arg) = [.d false [.sl none (([0, (-1), 1000000001]).map eI)]] from (by simp only [eraL_enc (h := eI) er_I])) (wk_spec_l1Cur_among hv4) (show (SV.d false (eraR [.sl (some 3) (([0, (-1), 1000000001]).map eI)]) : SV) = .d false [.sl none (([0, (-1), 1000000001]).map eI)] from (congrArg (fun z => SV.d false z) (erc_sl (eraL_enc er_I) rfl))))) ?_
  refine b_n ?_
  refine q_n ?_
  refine k_sreg (r_gq [(0, .box (eCu v4.2)), (2, .box [rI v1.1.1, rI v4.1])] [] trivial) ?_
  refine k_ret ?_
  obtain rfl := oi h
  exact ebr [(.p (.agg #[.int .i64 v1.1.1, .int .i64 v4.1]), 2)]
 ·replace h := ite_f hc3_2 h
  refine k_sreg (r_gq [(0, .box (eCu v2.2)), (2, .box [rI 0, rI 0]), (3, .box (eRt v1.1)), (7, .p (iV v2.1)), (14, .p (.bool (v2.1 == 1)))] [] trivial) ?_
  refine kc (v2.1 == 1) (fun hc3_4 => ?_) (fun hc3_4 => ?_)
  ·replace h := ite_t hc3_4 h
   replace h := bs h
   obtain ⟨v6, hv6, h⟩ := h
   refine k_reg (r_gq [(0, .box (eCu v6.2)), (2, .box [rI 0, rI 0]), (3, .box [rI v6.1, rI v1.1.2])] [(2, {lend := some (some [.d false [.sl none (([1000000001, (-1000000001), (-9223372036854775808)]).map eI)]], [.p (iV v6.1)], .box (eCu v6.2), false), fix := some (17, .d false [.sl none (([1000000001, (-1000000001), (-9223372036854775808)]).map eI)])})] (A3 (show ([.d false [.sl none (eraL (([1000000001, (-1000000001), (-9223372036854775808)]).map eI))]] : List Arg) = [.d false [.sl none (([1000000001, (-1000000001), (-9223372036854775808)]).map eI)]] from (by simp only [eraL_enc (h := eI) er_I])) (wk_spec_l1Cur_among hv6) (show (SV.d false (eraR [.sl (some 3) (([1000000001, (-1000000001), (-9223372036854775808)]).map eI)]) : SV) = .d false [.sl none (([1000000001, (-1000000001), (-9223372036854775808)]).map eI)] from (congrArg (fun z => SV.d false z) (erc_sl (eraL_enc er_I) rfl))))) ?_
   refine b_n ?_
   refine q_n ?_
   refine k_sreg (r_gq [(0, .box (eCu v6.2)), (2, .box [rI v6.1, rI v1.1.2])] [] trivial) ?_
   refine k_ret ?_
   obtain rfl := oi h
   exact ebr [(.p (.agg #[.int .i64 v6.1, .int .i64 v1.1.2]), 2)]
  ·replace h := ite_f hc3_4 h
   refine k_sreg (r_gq [(0, .box (eCu v2.2)), (2, .box [rI 0, rI 0]), (3, .box (eRt v1.1)), (20, .p (.bool (v2.1 == 2)))] [] trivial) ?_
   refine kc (v2.1 == 2) (fun hc3_6 => ?_) (fun hc3_6 => ?_)
   ·replace h := ite_t hc3_6 h
    replace h := bs h
    obtain ⟨v8, hv8, h⟩ := h
    replace h := bs h
    obtain ⟨v9, hv9, h⟩ := h
    refine k_reg (r_gq [(0, .box (eCu v9.2)), (2, .box [rI 0, rI 0]), (3, .box [rI v8.1, rI v9.1])] [(2, {lend := some (some [.d false [.sl none (([2, 0, (-4)]).map eI)]], [.p (iV v8.1)], .box (eCu v8.2), false), fix := some (23, .d false [.sl none (([2, 0, (-4)]).map eI)])}), (5, {lend := some (some [.d false [.sl none (([2, 4, 6]).map eI)]], [.p (iV v9.1)], .box (eCu v9.2), false), fix := some (26, .d false [.sl none (([2, 4, 6]).map eI)])})] (A6 (show ([.d false [.sl none (eraL (([2, 0, (-4)]).map eI))]] : List Arg) = [.d false [.sl none (([2, 0, (-4)]).map eI)]] from (by simp only [eraL_enc (h := eI) er_I])) (wk_spec_l1Cur_among hv8) (show (SV.d false (eraR [.sl (some 3) (([2, 0, (-4)]).map eI)]) : SV) = .d false [.sl none (([2, 0, (-4)]).map eI)] from (congrArg (fun z => SV.d false z) (erc_sl (eraL_enc er_I) rfl))) (show ([.d false [.sl none (eraL (([2, 4, 6]).map eI))]] : List Arg) = [.d false [.sl none (([2, 4, 6]).map eI)]] from (by simp only [eraL_enc (h := eI) er_I])) (wk_spec_l1Cur_among hv9) (show (SV.d false (eraR [.sl (some 3) (([2, 4, 6]).map eI)]) : SV) = .d false [.sl none (([2, 4, 6]).map eI)] from (congrArg (fun z => SV.d false z) (erc_sl (eraL_enc er_I) rfl))))) ?_
    refine b_n ?_
    refine q_n ?_
    refine k_sreg (r_gq [(0, .box (eCu v9.2)), (2, .box [rI v8.1, rI v9.1])] [] trivial) ?_
    refine k_ret ?_
    obtain rfl := oi h
    exact ebr [(.p (.agg #[.int .i64 v8.1, .int .i64 v9.1]), 2)]
   ·replace h := ite_f hc3_6 h
    refine k_skip ?_
    refine b_n ?_
    refine q_n ?_
    refine k_sreg (r_gq [(0, .box (eCu v2.2)), (2, .box (eRt v1.1))] [] trivial) ?_
    refine k_ret ?_
    obtain rfl := oi h
    exact ebr [(.p (vRt v1.1), 2)]
theorem wk_spec_l1Cur_anyIm {a0 : Cu}  {r : ((List Qp) × Cu)} (h : spec_l1Cur_anyIm a0 = some r) : MeetsB Tryz.prog 103 (.box (eCu a0)) [] [.ov false [.sl (some 78) (r.1.map ePt)]] (.box (eCu r.2)) := by
 refine mob Tryz.func103 [(0, .box (eCu a0))] ?_
 unfold spec_l1Cur_anyIm at h
 refine k_sreg (r_gq [(0, .box (eCu a0))] [] trivial) ?_
 replace h := bs h
 obtain ⟨v1, hv1, h⟩ := h
 refine k_sreg (r_gq [(0, .box (eCu v1.2)), (3, .ov false [.sl (some 78) (v1.1.map ePt)])] [(1, {lend := some (none, [.ov false [.sl (some 78) (v1.1.map ePt)]], .box (eCu v1.2), false)})] (A1 (wk_spec_l1Cur_im hv1))) ?_
 replace h := bs h
 obtain ⟨v2, hv2, h⟩ := h
 replace h := bs h
 obtain ⟨v3, hv3, h⟩ := h
 refine k_sreg (r_gq [(0, .box (eCu v2.2)), (3, .ov false [.sl (some 78) (v1.1.map ePt)]), (4, .addr 3 [(0, 0), ((Int.toNat v2.1), 0)])] [(3, {n := some v1.1.length}), (4, {lend := some (none, [.p (iV v2.1)], .box (eCu v2.2), false)}), (5, {row := some (ePt v3)})] (A4 (show (v1.1.map ePt).length = v1.1.length from (List.length_map ..)) (wk_spec_l1Cur_pick hv2) (idxO_some hv3).1 (map_get ePt (idxO_some hv3).2))) ?_
 refine k_join (J := fun (x : ((List Int) × Int × Int × (List Qp))) => [(0, .box (eCu (x.1, x.2.1, x.2.2.1))), (3, .ov false [.sl (some 78) (x.2.2.2.map ePt)])]) (K := fun x => spec_l1Cur_anyIm_k1 x = some r) (fun x4 h => ?_) ?_
 ·unfold spec_l1Cur_anyIm_k1 at h
  refine k_sreg (r_gq [(0, .box (eCu (x4.1, x4.2.1, x4.2.2.1))), (2, .ov false [.sl (some 78) (x4.2.2.2.map ePt)])] [] trivial) ?_
  refine k_ret ?_
  obtain rfl := oi h
  exact ebr [(.ov false [.sl (some 78) (x4.2.2.2.map ePt)], 2)]
 ·replace h := bs h
  obtain ⟨v5, hv5, h⟩ := h
  refine k_sreg (r_gq [(0, .box (eCu v5.2)), (3, .ov false [.sl (some 78) (v1.1.map ePt)]), (4, .addr 3 [(0, 0), ((Int.toNat v2.1), 0)]), (16, .p (iV v5.1))] [(1, {lend := some (none, [.p (iV v5.1)], .box (eCu v5.2), false)})] (A1 (wk_spec_l1Cur_pick hv5))) ?_
  refine k_block ?_
  refine k_sreg (r_gq [(0, .box (eCu v5.2)), (3, .ov false [.sl (some 78) (v1.1.map ePt)]), (4, .addr 3 [(0, 0), ((Int.toNat v2.1), 0)]), (16, .p (iV v5.1)), (17, .p (.bool (v5.1 == 0)))] [] trivial) ?_
  refine kc (v5.1 == 0) (fun hc3_5 => ?_) (fun hc3_5 => ?_)
  ·replace h := ite_t hc3_5 h
   replace h := bs h
   obtain ⟨v7, hv7, h⟩ := h
   refine k_reg (r_gq [(0, .box (eCu v7.2)), (3, .ov false [.sl (some 78) ((v1.1.set (Int.toNat v2.1) (v7.1, v3.2)).map ePt)])] [(2, {lend := some (none, [.p (vRt v7.1)], .box (eCu v7.2), false)}), (5, {row := some (ePt v3), fix := some (3, .ov false [.sl (some 78) ((v1.1.set (Int.toNat v2.1) (v7.1, v3.2)).map ePt)])})] (A3 (wk_spec_l1Cur_anyRat hv7) (show getRow [[.sl (some 78) (v1.1.map ePt)]] [(0, 0), ((Int.toNat v2.1), 0)] = some (ePt v3) from ((gr0 rfl).trans (gre (map_get ePt (idxO_some hv3).2)))) (show (SV.ov false [.sl (some 78) (setL (v1.1.map ePt) [((Int.toNat v2.1), 0)] (eRt v7.1))] : SV) = .ov false [.sl (some 78) ((v1.1.set (Int.toNat v2.1) (v7.1, v3.2)).map ePt)] from (congrArg (fun z => SV.ov false [.sl (some 78) z]) (set1 (f := ePt) (y := (v7.1, v3.2)) (idxO_some hv3).2 rfl))))) ?_
   refine b_n ?_
   refine q_n ?_
   exact jx (v7.2.1, v7.2.2.1, v7.2.2.2, (v1.1.set (Int.toNat v2.1) (v7.1, v3.2))) h
  ·replace h := ite_f hc3_5 h
   refine k_sreg (r_gq [(0, .box (eCu v5.2)), (3, .ov false [.sl (some 78) (v1.1.map ePt)]), (4, .addr 3 [(0, 0), ((Int.toNat v2.1), 0)]), (16, .p (iV v5.1)), (24, .p (.bool (v5.1 == 1)))] [] trivial) ?_
   refine kc (v5.1 == 1) (fun hc3_7 => ?_) (fun hc3_7 => ?_)
   ·replace h := ite_t hc3_7 h
    replace h := bs h
    obtain ⟨v9, hv9, h⟩ := h
    refine k_reg (r_gq [(0, .box (eCu v9.2)), (3, .ov false [.sl (some 78) ((v1.1.set (Int.toNat v2.1) (v3.1, v9.1)).map ePt)])] [(2, {lend := some (none, [.p (vRt v9.1)], .box (eCu v9.2), false)}), (5, {row := some (eRt v3.2), fix := some (3, .ov false [.sl (some 78) ((v1.1.set (Int.toNat v2.1) (v3.1, v9.1)).map ePt)])})] (A3 (wk_spec_l1Cur_anyRat hv9) (show getRow [[.sl (some 78) (v1.1.map ePt)]] [(0, 0), ((Int.toNat v2.1), 2)] = some (eRt v3.2) from ((gr0 rfl).trans (gre (map_get ePt (idxO_some hv3).2)))) (show (SV.ov false [.sl (some 78) (setL (v1.1.map ePt) [((Int.toNat v2.1), 2)] (eRt v9.1))] : SV) = .ov false [.sl (some 78) ((v1.1.set (Int.toNat v2.1) (v3.1, v9.1)).map ePt)] from (congrArg (fun z => SV.ov false [.sl (some 78) z]) (set1 (f := ePt) (y := (v3.1, v9.1)) (idxO_some hv3).2 rfl))))) ?_
    refine b_n ?_
    refine q_n ?_
    exact jx (v9.2.1, v9.2.2.1, v9.2.2.2, (v1.1.set (Int.toNat v2.1) (v3.1, v9.1))) h
   ·replace h := ite_f hc3_7 h
    refine k_sreg (r_gq [(0, .box (eCu v5.2)), (3, .ov false [.sl (some 78) (v1.1.map ePt)]), (4, .addr 3 [(0, 0), ((Int.toNat v2.1), 0)]), (16, .p (iV v5.1)), (31, .p (.bool (v5.1 == 2)))] [] trivial) ?_
    refine kc (v5.1 == 2) (fun hc3_9 => ?_) (fun hc3_9 => ?_)
    ·replace h := ite_t hc3_9 h
     replace h := bs h
     obtain ⟨v11, hv11, h⟩ := h
     replace h := bs h
     obtain ⟨v12, hv12, h⟩ := h
     refine k_reg (r_gq [(0, .box (eCu v11.2)), (3, .ov false [.sl (some 78) ((v1.1.set (Int.toNat v2.1) (v3.1, v12.1)).map ePt)])] [(2, {lend := some (none, [.p (iV v11.1)], .box (eCu v11.2), false)}), (3, {call := some (none, [.p (vRt v12.1), .p (.bool v12.2)], true)}), (9, {row := some (eRt v3.2), fix := some (3, .ov false [.sl (some 78) ((v1.1.set (Int.toNat v2.1) (v3.1, v12.1)).map ePt)])})] (A4 (wk_spec_l1Cur_pick hv11) (wk_spec_raMake hv12) (show getRow [[.sl (some 78) (v1.1.map ePt)]] [(0, 0), ((Int.toNat v2.1), 2)] = some (eRt v3.2) from ((gr0 rfl).trans (gre (map_get ePt (idxO_some hv3).2)))) (show (SV.ov false [.sl (some 78) (setL (v1.1.map ePt) [((Int.toNat v2.1), 2)] (eRt v12.1))] : SV) = .ov false [.sl (some 78) ((v1.1.set (Int.toNat v2.1) (v3.1, v12.1)).map ePt)] from (congrArg (fun z => SV.ov false [.sl (some 78) z]) (set1 (f := ePt) (y := (v3.1, v12.1)) (idxO_some hv3).2 rfl))))) ?_
     refine b_n ?_
     refine q_n ?_
     exact jx (v11.2.1, v11.2.2.1, v11.2.2.2, (v1.1.set (Int.toNat v2.1) (v3.1, v12.1))) h
    ·replace h := ite_f hc3_9 h
     refine k_sreg (r_gq [(0, .box (eCu v5.2)), (3, .ov false [.sl (some 78) (v1.1.map ePt)]), (16, .p (iV v5.1)), (42, .p (.bool (v5.1 == 3)))] [] trivial) ?_
     refine kc (v5.1 == 3) (fun hc3_12 => ?_) (fun hc3_12 => ?_)
     ·replace h := ite_t hc3_12 h
      replace h := bs h
      obtain ⟨u14, hu14, h⟩ := h
      refine k_reg (r_gq [(0, .box (eCu v5.2)), (3, .ov false [.sl (some 78) ((v1.1.take (Int.toNat (w64 ((v1.1.length : Int) - 1)))).map ePt)])] [(2, {n := some v1.1.length}), (4, {fix := some (48, .ov false [.sl (some 78) ((v1.1.take (Int.toNat (w64 ((v1.1.length : Int) - 1)))).map ePt)])})] (A4 (show (v1.1.map ePt).length = v1.1.length from (List.length_map ..)) (guardO_some hu14).1 (show (w64 ((v1.1.length : Int) - 1)) ≤ (List.length (v1.1.map ePt) : Int) from (by have hg := (guardO_some hu14).2; simpa using hg)) (show (SV.ov false [.sl (some 78) ((v1.1.map ePt).take (Int.toNat (w64 ((v1.1.length : Int) - 1))))] : SV) = .ov false [.sl (some 78) ((v1.1.take (Int.toNat (w64 ((v1.1.length : Int) - 1)))).map ePt)] from (congrArg (fun z => SV.ov false [.sl (some 78) z]) (List.map_take ..).symm)))) ?_
      refine b_n ?_
      refine q_n ?_
      exact jx (v5.2.1, v5.2.2.1, v5.2.2.2, (v1.1.take (Int.toNat (w64 ((v1.1.length : Int) - 1))))) h
     ·replace h := ite_f hc3_12 h
      refine k_sreg (r_gq [(0, .box (eCu v5.2)), (3, .ov false [.sl (some 78) (v1.1.map ePt)]), (49, .p (.bool (v5.1 == 4)))] [] trivial) ?_
      refine kc (v5.1 == 4) (fun hc3_14 => ?_) (fun hc3_14 => ?_)
      ·replace h := ite_t hc3_14 h
       refine k_sreg (r_gq [(0, .box (eCu v5.2)), (3, .ov false [.sl (some 78) []])] [] trivial) ?_
       refine k_block ?_
       obtain ⟨y17, hl_x16, hk_x16⟩ := bs h
       clear h
       refine k_loop (J := fun (x : (List Qp)) => [(0, .box (eCu v5.2)), (3, .ov false [.sl (some 78) (x.map ePt)])]) hl_x16 (wk_of (by kernel_rfl) (by kernel_rfl)) (fun x16 o_x16 h hy_x16 => ?_)
       unfold spec_l1Cur_anyIm_b1 at h
       refine k_seq ?_
       refine k_sreg (r_gq [(0, .box (eCu v5.2)), (3, .ov false [.sl (some 78) (x16.map ePt)]), (53, .p (.bool (decide ((x16.length : Int) < 13))))] [(1, {n := some x16.length})] (A1 (show (x16.map ePt).length = x16.length from (List.length_map ..)))) ?_
       refine kc (decide ((x16.length : Int) < 13)) (fun hc6_17 => ?_) (fun hc6_17 => ?_)
       ·replace h := ite_t hc6_17 h
        refine k_skip ?_
        refine q_n ?_
        refine k_block ?_
        replace h := bs h
        obtain ⟨v19, hv19, h⟩ := h
        refine k_sreg (r_gq [(0, .box (eCu v5.2)), (3, .ov false [.sl (some 78) (x16.map ePt)]), (5, .box (eRt v19.1))] [(1, {n := some x16.length}), (2, {call := some (none, [.p (vRt v19.1), .p (.bool v19.2)], true)})] (A2 (show (x16.map ePt).length = x16.length from (List.length_map ..)) (wk_spec_raMake hv19))) ?_
        replace h := bs h
        obtain ⟨v20, hv20, h⟩ := h
        replace h := bs h
        obtain ⟨u21, hu21, h⟩ := h
        refine k_reg (r_dq Tryz_mixed 5 [] [(0, .box (eCu v5.2)), (3, .ov false [.sl (some 78) ((x16 ++ [(v19.1, v20)]).map ePt)])] [(2, {call := some (none, [.p (vRt v20)], true)}), (5, {fix := some (65, .ov false [.sl (some 78) ((x16 ++ [(v19.1, v20)]).map ePt)])})] (A4 (wk_spec_raInt hv20) (show List.length ((x16.map ePt) : List (List C)) + List.length ((([(v19.1, v20)]).map ePt) : List (List C)) ≤ 1099511627776 from (by have hg := (guardO_some hu21); simpa using hg)) (show ∀ row ∈ ((([(v19.1, v20)]).map ePt) : List (List C)), row.length = 4 from (rows_len fun _ => rfl)) (show (SV.ov false [.sl (some 78) ((x16.map ePt) ++ (([(v19.1, v20)]).map ePt))] : SV) = .ov false [.sl (some 78) ((x16 ++ [(v19.1, v20)]).map ePt)] from (congrArg (fun z => SV.ov false [.sl (some 78) z]) (List.map_append ..).symm)))) ?_
        refine b_n ?_
        exact lqn (x16 ++ [(v19.1, v20)]) h
       ·replace h := ite_f hc6_17 h
        refine k_exit ?_
        refine q_x ?_
        refine lq_x ?_
        refine b_x ?_
        refine b_n ?_
        have hyy := hy_x16 _ (oi h).symm
        subst hyy
        have h := hk_x16
        refine q_n ?_
        exact jx (v5.2.1, v5.2.2.1, v5.2.2.2, x16) h
      ·replace h := ite_f hc3_14 h
       refine k_skip ?_
       refine b_n ?_
       refine q_n ?_
       exact jx (v5.2.1, v5.2.2.1, v5.2.2.2, v1.1) h
theorem wk_spec_imMirror {a0 : Qr}  {r : Qr} (h : spec_imMirror a0 = some r) : Meets Tryz.prog 104 [.v (vRt a0)] { vals := [.p (vRt r)] } := by
 refine mo Tryz.func104 [(0, .p (vRt a0))] ?_
 unfold spec_imMirror at h
 refine k_sreg (r_gq [(1, .box (eRt a0)), (2, .box [rI 0, rI 0])] [] trivial) ?_
 refine k_sreg (r_gq [(2, .box [rI (w64 (a0.2 - a0.1)), rI a0.2])] [] trivial) ?_
 refine k_ret ?_
 obtain rfl := oi h
 exact er [(.p (.agg #[.int .i64 (w64 (a0.2 - a0.1)), .int .i64 a0.2]), 2)]
theorem wk_spec_l1Cur_strictMap {a0 : Cu}  {r : ((List Qp) × Cu)} (h : spec_l1Cur_strictMap a0 = some r) : MeetsB Tryz.prog 73 (.box (eCu a0)) [] [.ov false [.sl (some 78) (r.1.map ePt)]] (.box (eCu r.2)) := by
 refine mob Tryz.func73 [(0, .box (eCu a0))] ?_
 unfold spec_l1Cur_strictMap at h
 refine k_sreg (r_gq [(0, .box (eCu a0))] [] trivial) ?_
 refine k_seq ?_
 replace h := bs h
 obtain ⟨v1, hv1, h⟩ := h
 refine k_sreg (r_gq [(0, .box (eCu v1.2)), (17, .p (.bool v1.1))] [(1, {lend := some (none, [.p (.bool v1.1)], .box (eCu v1.2), false)})] (A1 (wk_spec_l1Cur_one hv1))) ?_
 refine kc v1.1 (fun hc2_1 => ?_) (fun hc2_1 => ?_)
 ·replace h := ite_t hc2_1 h
  replace h := bs h
  obtain ⟨v3, hv3, h⟩ := h
  refine k_sreg (r_gq [(0, .box (eCu v3.2)), (2, .ov false [.sl (some 78) (v3.1.map ePt)])] [(1, {lend := some (none, [.ov false [.sl (some 78) (v3.1.map ePt)]], .box (eCu v3.2), false)})] (A1 (wk_spec_l1Cur_anyIm hv3))) ?_
  refine k_ret ?_
  refine q_r ?_
  obtain rfl := oi h
  exact ebr [(.ov false [.sl (some 78) (v3.1.map ePt)], 2)]
 ·replace h := ite_f hc2_1 h
  refine k_skip ?_
  refine q_n ?_
  replace h := bs h
  obtain ⟨v4, hv4, h⟩ := h
  refine k_sreg (r_gq [(0, .box (eCu v4.2)), (3, .p (iV v4.1))] [(2, {lend := some (some [.d false [.sl none (([2, 3, 4, 4, 6]).map eI)]], [.p (iV v4.1)], .box (eCu v4.2), false), fix := some (21, .d false [.sl none (([2, 3, 4, 4, 6]).map eI)])})] (A3 (show ([.d false [.sl none (eraL (([2, 3, 4, 4, 6]).map eI))]] : List Arg) = [.d false [.sl none (([2, 3, 4, 4, 6]).map eI)]] from (by simp only [eraL_enc (h := eI) er_I])) (wk_spec_l1Cur_among hv4) (show (SV.d false (eraR [.sl (some 3) (([2, 3, 4, 4, 6]).map eI)]) : SV) = .d false [.sl none (([2, 3, 4, 4, 6]).map eI)] from (congrArg (fun z => SV.d false z) (erc_sl (eraL_enc er_I) rfl))))) ?_
  refine k_sreg (r_gq [(0, .box (eCu v4.2)), (3, .p (iV v4.1)), (4, .ov false [.sl (some 78) []])] [] trivial) ?_
  refine k_join (J := fun (x : ((List Int) × Int × Int × (List Qp))) => [(0, .box (eCu (x.1, x.2.1, x.2.2.1))), (4, .ov false [.sl (some 78) (x.2.2.2.map ePt)])]) (K := fun x => spec_l1Cur_strictMap_k1 x = some r) (fun x5 h => ?_) ?_
  ·unfold spec_l1Cur_strictMap_k1 at h
   refine k_join (J := fun (x : ((List Int) × Int × Int × (List Qp))) => [(0, .box (eCu (x.1, x.2.1, x.2.2.1))), (4, .ov false [.sl (some 78) (x.2.2.2.map ePt)])]) (K := fun x => spec_l1Cur_strictMap_k2 x = some r) (fun x6 h => ?_) ?_
   ·unfold spec_l1Cur_strictMap_k2 at h
    refine k_seq ?_
    replace h := bs h
    obtain ⟨v7, hv7, h⟩ := h
    refine k_sreg (r_gq [(0, .box (eCu v7.2)), (4, .ov false [.sl (some 78) (x6.2.2.2.map ePt)]), (96, .p (.bool v7.1))] [(1, {lend := some (none, [.p (.bool v7.1)], .box (eCu v7.2), false)})] (A1 (wk_spec_l1Cur_one hv7))) ?_
    refine kc v7.1 (fun hc2_7 => ?_) (fun hc2_7 => ?_)
    ·replace h := ite_t hc2_7 h
     replace h := bs h
     obtain ⟨v9, hv9, h⟩ := h
     replace h := bs h
     obtain ⟨v10, hv10, h⟩ := h
     refine k_sreg (r_gq [(0, .box (eCu v9.2)), (12, .box (eRt v10.1))] [(1, {lend := some (none, [.p (iV v9.1)], .box (eCu v9.2), false)}), (3, {call := some (none, [.p (vRt v10.1), .p (.bool v10.2)], true)})] (A2 (wk_spec_l1Cur_pick hv9) (wk_spec_raMake hv10))) ?_
     replace h := bs h
     obtain ⟨v11, hv11, h⟩ := h
     replace h := bs h
     obtain ⟨v12, hv12, h⟩ := h
     refine k_sreg (r_gq [(0, .box (eCu v11.2)), (12, .box (eRt v10.1)), (14, .box (eRt v12.1))] [(1, {lend := some (none, [.p (iV v11.1)], .box (eCu v11.2), false)}), (3, {call := some (none, [.p (vRt v12.1), .p (.bool v12.2)], true)})] (A2 (wk_spec_l1Cur_pick hv11) (wk_spec_raMake hv12))) ?_
     replace h := bs h
     obtain ⟨v13, hv13, h⟩ := h
     replace h := bs h
     obtain ⟨v14, hv14, h⟩ := h
     replace h := bs h
     obtain ⟨v15, hv15, h⟩ := h
     replace h := bs h
     obtain ⟨v16, hv16, h⟩ := h
     refine k_reg (r_dq Tryz_mixed 9 [] [(0, .box (eCu v11.2)), (4, .ov false [.sl (some 78) (([(v13, v14), (v10.1, v12.1), (v15, v16)]).map ePt)])] [(0, {call := some (none, [.p (vRt v13)], true)}), (1, {call := some (none, [.p (vRt v14)], true)}), (6, {call := some (none, [.p (vRt v15)], true)}), (7, {call := some (none, [.p (vRt v16)], true)})] (A4 (wk_spec_raInt hv13) (wk_spec_raInt hv14) (wk_spec_raInt hv15) (wk_spec_raInt hv16))) ?_
     refine q_n ?_
     refine k_sreg (r_gq [(0, .box (eCu v11.2)), (2, .ov false [.sl (some 78) (([(v13, v14), (v10.1, v12.1), (v15, v16)]).map ePt)])] [] trivial) ?_
     refine k_ret ?_
     obtain rfl := oi h
     exact ebr [(.ov false [.sl (some 78) (([(v13, v14), (v10.1, v12.1), (v15, v16)]).map ePt)], 2)]
    ·replace h := ite_f hc2_7 h
     refine k_skip ?_
     refine q_n ?_
     refine k_sreg (r_gq [(0, .box (eCu v7.2)), (2, .ov false [.sl (some 78) (x6.2.2.2.map ePt)])] [] trivial) ?_
     refine k_ret ?_
     obtain rfl := oi h
     exact ebr [(.ov false [.sl (some 78) (x6.2.2.2.map ePt)], 2)]
   ·replace h := bs h
    obtain ⟨v17, hv17, h⟩ := h
    refine k_sreg (r_gq [(0, .box (eCu v17.2)), (4, .ov false [.sl (some 78) (x5.2.2.2.map ePt)]), (77, .p (.bool v17.1))] [(1, {lend := some (none, [.p (.bool v17.1)], .box (eCu v17.2), false)})] (A1 (wk_spec_l1Cur_one hv17))) ?_
    refine kc v17.1 (fun hc2_17 => ?_) (fun hc2_17 => ?_)
    ·replace h := ite_t hc2_17 h
     refine k_sreg (r_gq [(0, .box (eCu v17.2)), (4, .ov false [.sl (some 78) []])] [] trivial) ?_
     refine k_sreg (r_gq [(0, .box (eCu v17.2)), (4, .ov false [.sl (some 78) []]), (9, .p (iV 0))] [] trivial) ?_
     refine k_block ?_
     obtain ⟨y20, hl_x19, hk_x19⟩ := bs h
     clear h
     refine k_loop (J := fun (x : ((List Qp) × Int)) => [(0, .box (eCu v17.2)), (4, .ov false [.sl (some 78) (x.1.map ePt)]), (9, .p (iV x.2))]) hl_x19 (wk_of (by kernel_rfl) (by kernel_rfl)) (fun x19 o_x19 h hy_x19 => ?_)
     unfold spec_l1Cur_strictMap_b1 at h
     refine k_seq ?_
     refine k_sreg (r_gq [(0, .box (eCu v17.2)), (4, .ov false [.sl (some 78) (x19.1.map ePt)]), (9, .p (iV x19.2)), (79, .p (.bool (decide (x19.2 < 12))))] [] trivial) ?_
     refine kc (decide (x19.2 < 12)) (fun hc5_20 => ?_) (fun hc5_20 => ?_)
     ·replace h := ite_t hc5_20 h
      refine k_skip ?_
      refine q_n ?_
      refine k_seq ?_
      refine k_block ?_
      replace h := bs h
      obtain ⟨v22, hv22, h⟩ := h
      refine k_sreg (r_gq [(0, .box (eCu v17.2)), (4, .ov false [.sl (some 78) (x19.1.map ePt)]), (9, .p (iV x19.2)), (10, .box (eRt v22.1))] [(1, {call := some (none, [.p (vRt v22.1), .p (.bool v22.2)], true)})] (A1 (wk_spec_raMake hv22))) ?_
      replace h := bs h
      obtain ⟨v23, hv23, h⟩ := h
      replace h := bs h
      obtain ⟨u24, hu24, h⟩ := h
      refine k_reg (r_dq Tryz_mixed 7 [] [(0, .box (eCu v17.2)), (4, .ov false [.sl (some 78) ((x19.1 ++ [(v22.1, v23)]).map ePt)]), (9, .p (iV x19.2))] [(4, {call := some (none, [.p (vRt v23)], true)}), (7, {fix := some (94, .ov false [.sl (some 78) ((x19.1 ++ [(v22.1, v23)]).map ePt)])})] (A5 (show 2 ≠ (0 : Int) from (by decide)) (wk_spec_raInt hv23) (show List.length ((x19.1.map ePt) : List (List C)) + List.length ((([(v22.1, v23)]).map ePt) : List (List C)) ≤ 1099511627776 from (by have hg := (guardO_some hu24); simpa using hg)) (show ∀ row ∈ ((([(v22.1, v23)]).map ePt) : List (List C)), row.length = 4 from (rows_len fun _ => rfl)) (show (SV.ov false [.sl (some 78) ((x19.1.map ePt) ++ (([(v22.1, v23)]).map ePt))] : SV) = .ov false [.sl (some 78) ((x19.1 ++ [(v22.1, v23)]).map ePt)] from (congrArg (fun z => SV.ov false [.sl (some 78) z]) (List.map_append ..).symm)))) ?_
      refine b_n ?_
      refine q_n ?_
      refine k_reg (r_gq [(0, .box (eCu v17.2)), (4, .ov false [.sl (some 78) ((x19.1 ++ [(v22.1, v23)]).map ePt)]), (9, .p (iV (w64 (x19.2 + 1))))] [] trivial) ?_
      exact lqn ((x19.1 ++ [(v22.1, v23)]), (w64 (x19.2 + 1))) h
     ·replace h := ite_f hc5_20 h
      refine k_exit ?_
      refine q_x ?_
      refine lq_x ?_
      refine b_x ?_
      have hyy := hy_x19 _ (oi h).symm
      subst hyy
      have h := hk_x19
      refine q_n ?_
      exact jx (v17.2.1, v17.2.2.1, v17.2.2.2, x19.1) h
    ·replace h := ite_f hc2_17 h
     refine k_skip ?_
     refine q_n ?_
     exact jx (v17.2.1, v17.2.2.1, v17.2.2.2, x5.2.2.2) h
  ·refine k_sreg (r_gq [(0, .box (eCu v4.2)), (3, .p (iV v4.1)), (4, .ov false [.sl (some 78) []]), (5, .p (iV 0))] [] trivial) ?_
   refine k_block ?_
   obtain ⟨y26, hl_x25, hk_x25⟩ := bs h
   clear h
   refine k_loop (J := fun (x : ((List Int) × Int × Int × (List Qp) × Int)) => [(0, .box (eCu (x.1, x.2.1, x.2.2.1))), (3, .p (iV v4.1)), (4, .ov false [.sl (some 78) (x.2.2.2.1.map ePt)]), (5, .p (iV x.2.2.2.2))]) hl_x25 (wk_of (by kernel_rfl) (by kernel_rfl)) (fun x25 o_x25 h hy_x25 => ?_)
   unfold spec_l1Cur_strictMap_b2 at h
   refine k_seq ?_
   refine k_sreg (r_gq [(0, .box (eCu (x25.1, x25.2.1, x25.2.2.1))), (3, .p (iV v4.1)), (4, .ov false [.sl (some 78) (x25.2.2.2.1.map ePt)]), (5, .p (iV x25.2.2.2.2)), (25, .p (.bool (decide (x25.2.2.2.2 ≤ v4.1))))] [] trivial) ?_
   refine kc (decide (x25.2.2.2.2 ≤ v4.1)) (fun hc5_26 => ?_) (fun hc5_26 => ?_)
   ·replace h := ite_t hc5_26 h
    refine k_skip ?_
    refine q_n ?_
    refine k_seq ?_
    refine k_block ?_
    replace h := bs h
    obtain ⟨v28, hv28, h⟩ := h
    refine k_sreg (r_gq [(0, .box (eCu (x25.1, x25.2.1, x25.2.2.1))), (3, .p (iV v4.1)), (4, .ov false [.sl (some 78) (x25.2.2.2.1.map ePt)]), (5, .p (iV x25.2.2.2.2)), (6, .box (eRt v28.1))] [(2, {call := some (none, [.p (vRt v28.1), .p (.bool v28.2)], true)})] (A1 (wk_spec_raMake hv28))) ?_
    replace h := bs h
    obtain ⟨v29, hv29, h⟩ := h
    refine k_sreg (r_gq [(0, .box (eCu v29.2)), (3, .p (iV v4.1)), (4, .ov false [.sl (some 78) (x25.2.2.2.1.map ePt)]), (5, .p (iV x25.2.2.2.2)), (6, .box (eRt v28.1)), (8, .box (eRt v29.1))] [(2, {lend := some (none, [.p (vRt v29.1)], .box (eCu v29.2), false)})] (A1 (wk_spec_l1Cur_gridRat hv29))) ?_
    refine k_join (J := fun (x : ((List Int) × Int × Int × Int × Int)) => [(0, .box (eCu (x.1, x.2.1, x.2.2.1))), (3, .p (iV v4.1)), (4, .ov false [.sl (some 78) (x25.2.2.2.1.map ePt)]), (5, .p (iV x25.2.2.2.2)), (6, .box (eRt v28.1)), (8, .box (eRt x.2.2.2))]) (K := fun x => spec_l1Cur_strictMap_k3 x25 v28 x = some o_x25) (fun x30 h => ?_) ?_
    ·unfold spec_l1Cur_strictMap_k3 at h
     replace h := bs h
     obtain ⟨u31, hu31, h⟩ := h
     refine k_reg (r_gq [(0, .box (eCu (x30.1, x30.2.1, x30.2.2.1))), (3, .p (iV v4.1)), (4, .ov false [.sl (some 78) ((x25.2.2.2.1 ++ [(v28.1, x30.2.2.2)]).map ePt)]), (5, .p (iV x25.2.2.2.2))] [(5, {fix := some (75, .ov false [.sl (some 78) ((x25.2.2.2.1 ++ [(v28.1, x30.2.2.2)]).map ePt)])})] (A3 (show List.length ((x25.2.2.2.1.map ePt) : List (List C)) + List.length ((([(v28.1, x30.2.2.2)]).map ePt) : List (List C)) ≤ 1099511627776 from (by have hg := (guardO_some hu31); simpa using hg)) (show ∀ row ∈ ((([(v28.1, x30.2.2.2)]).map ePt) : List (List C)), row.length = 4 from (rows_len fun _ => rfl)) (show (SV.ov false [.sl (some 78) ((x25.2.2.2.1.map ePt) ++ (([(v28.1, x30.2.2.2)]).map ePt))] : SV) = .ov false [.sl (some 78) ((x25.2.2.2.1 ++ [(v28.1, x30.2.2.2)]).map ePt)] from (congrArg (fun z => SV.ov false [.sl (some 78) z]) (List.map_append ..).symm)))) ?_
     refine b_n ?_
     refine q_n ?_
     refine k_reg (r_gq [(0, .box (eCu (x30.1, x30.2.1, x30.2.2.1))), (3, .p (iV v4.1)), (4, .ov false [.sl (some 78) ((x25.2.2.2.1 ++ [(v28.1, x30.2.2.2)]).map ePt)]), (5, .p (iV (w64 (x25.2.2.2.2 + 1))))] [] trivial) ?_
     exact lqn (x30.1, x30.2.1, x30.2.2.1, (x25.2.2.2.1 ++ [(v28.1, x30.2.2.2)]), (w64 (x25.2.2.2.2 + 1))) h
    ·replace h := bs h
     obtain ⟨w34, hw34, h⟩ := h
     refine k_sreg (l1 := [(0, .box (eCu (w34.1, w34.2.1, w34.2.2.1))), (3, .p (iV v4.1)), (4, .ov false [.sl (some 78) (x25.2.2.2.1.map ePt)]), (5, .p (iV x25.2.2.2.2)), (6, .box (eRt v28.1)), (8, .box (eRt v29.1)), (55, .p (.bool w34.2.2.2))]) ?_ ?_
     ·clear h
      rcases ft (decide ((x25.2.2.2.1.length : Int) > 0)) with ha2 | ha2
      ·replace hw34 := ite_t ha2 hw34
       replace hw34 := bs hw34
       obtain ⟨v32, hv32, hw34⟩ := hw34
       rcases ft ((v29.1.1 == v32.2.1) && (v29.1.2 == v32.2.2)) with ha3 | ha3
       ·replace hw34 := ite_t ha3 hw34
        replace hw34 := bs hw34
        obtain ⟨v33, hv33, hw34⟩ := hw34
        have hw34 := oi hw34
        subst hw34
        exact (r_dq Tryz_mixed 12 [] [(0, .box (eCu v33.2)), (3, .p (iV v4.1)), (4, .ov false [.sl (some 78) (x25.2.2.2.1.map ePt)]), (5, .p (iV x25.2.2.2.2)), (6, .box (eRt v28.1)), (8, .box (eRt v29.1)), (55, .p (.bool (!v33.1)))] [(1, {n := some x25.2.2.2.1.length}), (4, gT), (5, gT), (6, gT), (7, {g := some true, n := some x25.2.2.2.1.length}), (8, gT), (9, {g := some true, row := some (ePt v32)}), (10, gT), (11, {g := some true, row := some (eRt v32.2)}), (12, {g := some true, pv := some (.bool ((v29.1.1 == v32.2.1) && (v29.1.2 == v32.2.2)))}), (13, bT), (15, gT), (16, {g := some true, lend := some (none, [.p (.bool v33.1)], .box (eCu v33.2), false)}), (17, gT), (18, bT)] (B6 (show (x25.2.2.2.1.map ePt).length = x25.2.2.2.1.length from (List.length_map ..)) ha2 ha2 ha2 ha2 (show (x25.2.2.2.1.map ePt).length = x25.2.2.2.1.length from (List.length_map ..)) (B6 ha2 ha2 (idxO_some hv32).1 (map_get ePt (idxO_some hv32).2) ha2 ha2 (B6 (show getRow [[.sl (some 78) (x25.2.2.2.1.map ePt)]] [(0, 0), ((Int.toNat (w64 ((x25.2.2.2.1.length : Int) - 1))), 2)] = some (eRt v32.2) from ((gr0 rfl).trans (gre (map_get ePt (idxO_some hv32).2)))) ha2 (show PureAt Tryz.prog (.binOp .eql 23 (.tmp 41) (.tmp 48) 23) [vRt v29.1, vRt v32.2] (.bool ((v29.1.1 == v32.2.1) && (v29.1.2 == v32.2.2))) from (pure_eql2 (by kernel_rfl))) ha2 ha3 ha3 (A3 (wk_spec_l1Cur_one hv33) ha3 ha3)))))
       ·replace hw34 := ite_f ha3 hw34
        have hw34 := oi hw34
        subst hw34
        exact (r_dq Tryz_mixed 12 [] [(0, .box (eCu v29.2)), (3, .p (iV v4.1)), (4, .ov false [.sl (some 78) (x25.2.2.2.1.map ePt)]), (5, .p (iV x25.2.2.2.2)), (6, .box (eRt v28.1)), (8, .box (eRt v29.1)), (55, .p (.bool false))] [(1, {n := some x25.2.2.2.1.length}), (4, gT), (5, gT), (6, gT), (7, {g := some true, n := some x25.2.2.2.1.length}), (8, gT), (9, {g := some true, row := some (ePt v32)}), (10, gT), (11, {g := some true, row := some (eRt v32.2)}), (12, {g := some true, pv := some (.bool ((v29.1.1 == v32.2.1) && (v29.1.2 == v32.2.2)))}), (13, bT), (15, gF), (16, gF), (17, gF), (18, bF)] (B6 (show (x25.2.2.2.1.map ePt).length = x25.2.2.2.1.length from (List.length_map ..)) ha2 ha2 ha2 ha2 (show (x25.2.2.2.1.map ePt).length = x25.2.2.2.1.length from (List.length_map ..)) (B6 ha2 ha2 (idxO_some hv32).1 (map_get ePt (idxO_some hv32).2) ha2 ha2 (B6 (show getRow [[.sl (some 78) (x25.2.2.2.1.map ePt)]] [(0, 0), ((Int.toNat (w64 ((x25.2.2.2.1.length : Int) - 1))), 2)] = some (eRt v32.2) from ((gr0 rfl).trans (gre (map_get ePt (idxO_some hv32).2)))) ha2 (show PureAt Tryz.prog (.binOp .eql 23 (.tmp 41) (.tmp 48) 23) [vRt v29.1, vRt v32.2] (.bool ((v29.1.1 == v32.2.1) && (v29.1.2 == v32.2.2))) from (pure_eql2 (by kernel_rfl))) ha2 ha3 ha3 (A2 ha3 ha3)))))
      ·replace hw34 := ite_f ha2 hw34
       have hw34 := oi hw34
       subst hw34
       exact (r_dq Tryz_mixed 12 [] [(0, .box (eCu v29.2)), (3, .p (iV v4.1)), (4, .ov false [.sl (some 78) (x25.2.2.2.1.map ePt)]), (5, .p (iV x25.2.2.2.2)), (6, .box (eRt v28.1)), (8, .box (eRt v29.1)), (55, .p (.bool false))] [(1, {n := some x25.2.2.2.1.length}), (4, gF), (5, gF), (6, gF), (7, gF), (8, gF), (9, gF), (10, gF), (11, gF), (12, gF), (13, bF), (15, gF), (16, gF), (17, gF), (18, bF)] (B6 (show (x25.2.2.2.1.map ePt).length = x25.2.2.2.1.length from (List.length_map ..)) ha2 ha2 ha2 ha2 ha2 (B6 ha2 ha2 ha2 ha2 ha2 (show false = false from rfl) (A3 (show false = false from rfl) (show false = false from rfl) (show false = false from rfl)))))
     ·refine kc w34.2.2.2 (fun hc7_34 => ?_) (fun hc7_34 => ?_)
      ·replace h := ite_t hc7_34 h
       replace h := bs h
       obtain ⟨v36, hv36, h⟩ := h
       refine k_sreg (r_gq [(0, .box (eCu (w34.1, w34.2.1, w34.2.2.1))), (3, .p (iV v4.1)), (4, .ov false [.sl (some 78) (x25.2.2.2.1.map ePt)]), (5, .p (iV x25.2.2.2.2)), (6, .box (eRt v28.1)), (8, .box (eRt v36))] [(1, {call := some (none, [.p (vRt v36)], true)})] (A1 (wk_spec_imMirror hv36))) ?_
       replace h := bs h
       obtain ⟨v37, hv37, h⟩ := h
       refine k_sreg (r_dq Tryz_mixed 8 [] [(0, .box (eCu (w34.1, w34.2.1, w34.2.2.1))), (3, .p (iV v4.1)), (4, .ov false [.sl (some 78) (x25.2.2.2.1.map ePt)]), (5, .p (iV x25.2.2.2.2)), (6, .box (eRt v28.1)), (8, .box (eRt v36)), (66, .p (.bool ((v36.1 == v37.2.1) && (v36.2 == v37.2.2))))] [(3, {n := some x25.2.2.2.1.length}), (5, {row := some (ePt v37)}), (7, {row := some (eRt v37.2)}), (8, {pv := some (.bool ((v36.1 == v37.2.1) && (v36.2 == v37.2.2)))})] (A5 (show (x25.2.2.2.1.map ePt).length = x25.2.2.2.1.length from (List.length_map ..)) (idxO_some hv37).1 (map_get ePt (idxO_some hv37).2) (show getRow [[.sl (some 78) (x25.2.2.2.1.map ePt)]] [(0, 0), ((Int.toNat (w64 ((x25.2.2.2.1.length : Int) - 1))), 2)] = some (eRt v37.2) from ((gr0 rfl).trans (gre (map_get ePt (idxO_some hv37).2)))) (show PureAt Tryz.prog (.binOp .eql 23 (.tmp 58) (.tmp 65) 23) [vRt v36, vRt v37.2] (.bool ((v36.1 == v37.2.1) && (v36.2 == v37.2.2))) from (pure_eql2 (by kernel_rfl))))) ?_
       refine kc ((v36.1 == v37.2.1) && (v36.2 == v37.2.2)) (fun hc7_37 => ?_) (fun hc7_37 => ?_)
       ·replace h := ite_t hc7_37 h
        replace h := bs h
        obtain ⟨v39, hv39, h⟩ := h
        refine k_reg (r_gq [(0, .box (eCu (w34.1, w34.2.1, w34.2.2.1))), (3, .p (iV v4.1)), (4, .ov false [.sl (some 78) (x25.2.2.2.1.map ePt)]), (5, .p (iV x25.2.2.2.2)), (6, .box (eRt v28.1)), (8, .box (eRt v39))] [(2, {call := some (none, [.p (vRt v39)], true)})] (A2 (show 2 ≠ (0 : Int) from (by decide)) (wk_spec_raInt hv39))) ?_
        refine q_n ?_
        exact jx (w34.1, w34.2.1, w34.2.2.1, v39.1, v39.2) h
       ·replace h := ite_f hc7_37 h
        refine k_skip ?_
        refine q_n ?_
        exact jx (w34.1, w34.2.1, w34.2.2.1, v36.1, v36.2) h
      ·replace h := ite_f hc7_34 h
       refine k_skip ?_
       refine q_n ?_
       exact jx (w34.1, w34.2.1, w34.2.2.1, v29.1.1, v29.1.2) h
   ·replace h := ite_f hc5_26 h
    refine k_exit ?_
    refine q_x ?_
    refine lq_x ?_
    refine b_x ?_
    have hyy := hy_x25 _ (oi h).symm
    subst hyy
    have h := hk_x25
    refine q_n ?_
    exact jx (x25.1, x25.2.1, x25.2.2.1, x25.2.2.2.1) h
theorem wk_spec_l1Cur_among3 {a0 : Cu}  {r : (Qr × Cu)} (h : spec_l1Cur_among3 a0 = some r) : MeetsB Tryz.prog 74 (.box (eCu a0)) [] [.p (vRt r.1)] (.box (eCu r.2)) := by
 refine mob Tryz.func74 [(0, .box (eCu a0))] ?_
 unfold spec_l1Cur_among3 at h
 refine k_sreg (r_gq [(0, .box (eCu a0)), (2, .box [rI 0, rI 0])] [] trivial) ?_
 replace h := bs h
 obtain ⟨v1, hv1, h⟩ := h
 refine k_sreg (r_gq [(0, .box (eCu v1.2)), (2, .box [rI 0, rI 0]), (3, .p (iV v1.1))] [(2, {lend := some (some [.d false [.sl none (([2, 3, 4, 5, 8, 10, 100]).map eI)]], [.p (iV v1.1)], .box (eCu v1.2), false), fix := some (7, .d false [.sl none (([2, 3, 4, 5, 8, 10, 100]).map eI)])})] (A3 (show ([.d false [.sl none (eraL (([2, 3, 4, 5, 8, 10, 100]).map eI))]] : List Arg) = [.d false [.sl none (([2, 3, 4, 5, 8, 10, 100]).map eI)]] from (by simp only [eraL_enc (h := eI) er_I])) (wk_spec_l1Cur_among hv1) (show (SV.d false (eraR [.sl (some 3) (([2, 3, 4, 5, 8, 10, 100]).map eI)]) : SV) = .d false [.sl none (([2, 3, 4, 5, 8, 10, 100]).map eI)] from (congrArg (fun z => SV.d false z) (erc_sl (eraL_enc er_I) rfl))))) ?_
 replace h := bs h
 obtain ⟨v2, hv2, h⟩ := h
 replace h := bs h
 obtain ⟨v3, hv3, h⟩ := h
 refine k_sreg (r_gq [(0, .box (eCu v2.2)), (2, .box [rI 0, rI 0]), (4, .box (eRt v3.1))] [(5, {lend := some (none, [.p (iV v2.1)], .box (eCu v2.2), false)}), (8, {call := some (none, [.p (vRt v3.1), .p (.bool v3.2)], true)})] (A3 (show 2 ≠ (0 : Int) from (by decide)) (wk_spec_l1Cur_pick hv2) (wk_spec_raMake hv3))) ?_
 refine k_seq ?_
 replace h := bs h
 obtain ⟨v4, hv4, h⟩ := h
 refine k_sreg (r_gq [(0, .box (eCu v4.2)), (2, .box [rI 0, rI 0]), (4, .box (eRt v3.1)), (22, .p (.bool v4.1))] [(1, {lend := some (none, [.p (.bool v4.1)], .box (eCu v4.2), false)})] (A1 (wk_spec_l1Cur_one hv4))) ?_
 refine kc v4.1 (fun hc2_4 => ?_) (fun hc2_4 => ?_)
 ·replace h := ite_t hc2_4 h
  replace h := bs h
  obtain ⟨v6, hv6, h⟩ := h
  refine k_sreg (r_gq [(0, .box (eCu v4.2)), (2, .box (eRt v6))] [(0, {call := some (none, [.p (vRt v6)], true)})] (A1 (wk_spec_raInt hv6))) ?_
  refine k_ret ?_
  refine q_r ?_
  obtain rfl := oi h
  exact ebr [(.p (vRt v6), 2)]
 ·replace h := ite_f hc2_4 h
  refine k_skip ?_
  refine q_n ?_
  refine k_sreg (r_gq [(0, .box (eCu v4.2)), (2, .box (eRt v3.1))] [] trivial) ?_
  refine k_ret ?_
  obtain rfl := oi h
  exact ebr [(.p (vRt v3.1), 2)]
theorem wk_spec_knTent {a0 : Qr}  {r : (List Qp)} (h : spec_knTent a0 = some r) : Meets Tryz.prog 30 [.v (vRt a0)] { vals := [.ov false [.sl (some 78) (r.map ePt)]] } := by
 refine mo Tryz.func30 [(0, .p (vRt a0))] ?_
 unfold spec_knTent at h
 refine k_sreg (r_gq [(1, .box (eRt a0))] [] trivial) ?_
 replace h := bs h
 obtain ⟨v1, hv1, h⟩ := h
 replace h := bs h
 obtain ⟨v2, hv2, h⟩ := h
 replace h := bs h
 obtain ⟨v3, hv3, h⟩ := h
 replace h := bs h
 obtain ⟨v4, hv4, h⟩ := h
 refine k_sreg (r_dq Tryz_mixed 9 [] [(2, .ov false [.sl (some 78) (([(v1, v2), ((1, 2), a0), (v3, v4)]).map ePt)])] [(0, {call := some (none, [.p (vRt v1)], true)}), (1, {call := some (none, [.p (vRt v2)], true)}), (6, {call := some (none, [.p (vRt v3)], true)}), (7, {call := some (none, [.p (vRt v4)], true)})] (A4 (wk_spec_raInt hv1) (wk_spec_raInt hv2) (wk_spec_raInt hv3) (wk_spec_raInt hv4))) ?_
 refine k_ret ?_
 obtain rfl := oi h
 exact er [(.ov false [.sl (some 78) (([(v1, v2), ((1, 2), a0), (v3, v4)]).map ePt)], 2)]
theorem wk_spec_l1Cur_oneTurn {a0 : Cu}  {r : ((List Qp) × Cu)} (h : spec_l1Cur_oneTurn a0 = some r) : MeetsB Tryz.prog 36 (.box (eCu a0)) [] [.ov false [.sl (some 78) (r.1.map ePt)]] (.box (eCu r.2)) := by
 refine mob Tryz.func36 [(0, .box (eCu a0))] ?_
 unfold spec_l1Cur_oneTurn at h
 refine k_sreg (r_gq [(0, .box (eCu a0))] [] trivial) ?_
 refine k_seq ?_
 replace h := bs h
 obtain ⟨v1, hv1, h⟩ := h
 refine k_sreg (r_gq [(0, .box (eCu v1.2)), (7, .p (.bool v1.1))] [(1, {lend := some (none, [.p (.bool v1.1)], .box (eCu v1.2), false)})] (A1 (wk_spec_l1Cur_one hv1))) ?_
 refine kc v1.1 (fun hc2_1 => ?_) (fun hc2_1 => ?_)
 ·replace h := ite_t hc2_1 h
  replace h := bs h
  obtain ⟨v3, hv3, h⟩ := h
  refine k_sreg (r_gq [(0, .box (eCu v3.2)), (2, .ov false [.sl (some 78) (v3.1.map ePt)])] [(1, {lend := some (none, [.ov false [.sl (some 78) (v3.1.map ePt)]], .box (eCu v3.2), false)})] (A1 (wk_spec_l1Cur_strictMap hv3))) ?_
  refine k_ret ?_
  refine q_r ?_
  obtain rfl := oi h
  exact ebr [(.ov false [.sl (some 78) (v3.1.map ePt)], 2)]
 ·replace h := ite_f hc2_1 h
  refine k_skip ?_
  refine q_n ?_
  replace h := bs h
  obtain ⟨v4, hv4, h⟩ := h
  refine k_sreg (r_gq [(0, .box (eCu v4.2)), (3, .box (eRt v4.1))] [(1, {lend := some (none, [.p (vRt v4.1)], .box (eCu v4.2), false)})] (A1 (wk_spec_l1Cur_among3 hv4))) ?_
  refine k_seq ?_
  replace h := bs h
  obtain ⟨v5, hv5, h⟩ := h
  refine k_sreg (r_gq [(0, .box (eCu v5.2)), (3, .box (eRt v4.1)), (13, .p (.bool v5.1))] [(1, {lend := some (none, [.p (.bool v5.1)], .box (eCu v5.2), false)})] (A1 (wk_spec_l1Cur_one hv5))) ?_
  refine kc v5.1 (fun hc2_5 => ?_) (fun hc2_5 => ?_)
  ·replace h := ite_t hc2_5 h
   replace h := bs h
   obtain ⟨v7, hv7, h⟩ := h
   replace h := bs h
   obtain ⟨v8, hv8, h⟩ := h
   refine k_sreg (r_gq [(0, .box (eCu v7.2)), (3, .box (eRt v4.1)), (4, .box (eRt v8.1))] [(1, {lend := some (none, [.p (iV v7.1)], .box (eCu v7.2), false)}), (3, {call := some (none, [.p (vRt v8.1), .p (.bool v8.2)], true)})] (A2 (wk_spec_l1Cur_pick hv7) (wk_spec_raMake hv8))) ?_
   replace h := bs h
   obtain ⟨v9, hv9, h⟩ := h
   replace h := bs h
   obtain ⟨v10, hv10, h⟩ := h
   replace h := bs h
   obtain ⟨v11, hv11, h⟩ := h
   replace h := bs h
   obtain ⟨v12, hv12, h⟩ := h
   refine k_sreg (r_dq Tryz_mixed 11 [(2, 0), (9, 0)] [(0, .box (eCu v12.2)), (2, .ov false [.sl (some 78) (([(v9, v10.1), (v8.1, v4.1), (v11, v12.1)]).map ePt)])] [(0, {call := some (none, [.p (vRt v9)], true)}), (2, {lend := some (none, [.p (vRt v10.1)], .box (eCu v10.2), false)}), (7, {call := some (none, [.p (vRt v11)], true)}), (9, {lend := some (none, [.p (vRt v12.1)], .box (eCu v12.2), false)})] (A4 (wk_spec_raInt hv9) (wk_spec_l1Cur_gridRat hv10) (wk_spec_raInt hv11) (wk_spec_l1Cur_gridRat hv12))) ?_
   refine k_ret ?_
   refine q_r ?_
   obtain rfl := oi h
   exact ebr [(.ov false [.sl (some 78) (([(v9, v10.1), (v8.1, v4.1), (v11, v12.1)]).map ePt)], 2)]
  ·replace h := ite_f hc2_5 h
   refine k_skip ?_
   refine q_n ?_
   replace h := bs h
   obtain ⟨v13, hv13, h⟩ := h
   refine k_sreg (r_gq [(0, .box (eCu v5.2)), (2, .ov false [.sl (some 78) (v13.map ePt)])] [(1, {call := some (none, [.ov false [.sl (some 78) (v13.map ePt)]], true)})] (A2 (wk_spec_knTent hv13) (show List.all [.ov false [.sl (some 78) (v13.map ePt)]] simpleR = true from (sa_o (wnR1 (wnL_enc (wn_P (wn_P wn_I wn_I) (wn_P wn_I wn_I))) rfl) rfl)))) ?_
   refine k_ret ?_
   obtain rfl := oi h
   exact ebr [(.ov false [.sl (some 78) (v13.map ePt)], 2)]
theorem wk_spec_DrawKneadingOf {a0 : (List Int)}  {r : ((List Qp) × Int)} (h : spec_DrawKneadingOf a0 = some r) : Meets Tryz.prog 9 [.d false [.sl none (a0.map (eU .u8))]] { vals := [.ov false [.sl (some 78) (r.1.map ePt)], .p (iV r.2)] } := by
 refine mo Tryz.func9 [(0, .d false [.sl none (a0.map (eU .u8))])] ?_
 unfold spec_DrawKneadingOf at h
 refine k_sreg (r_gq [(0, .d false [.sl none (a0.map (eU .u8))])] [] trivial) ?_
 refine k_sreg (r_gq [(4, .addr 7 [(0, 0)]), (7, .box (eCu (a0, 0, 0)))] [] trivial) ?_
 replace h := bs h
 obtain ⟨v1, hv1, h⟩ := h
 replace h := bs h
 obtain ⟨v2, hv2, h⟩ := h
 replace h := bs h
 obtain ⟨v3, hv3, h⟩ := h
 refine k_sreg (r_gq [(2, .ov false [.sl (some 78) (v1.1.map ePt)]), (3, .p (iV v3.1))] [(1, {lend := some (none, [.ov false [.sl (some 78) (v1.1.map ePt)]], .box (eCu v1.2), false)}), (5, {lend := some (some [.d false [.sl none (([0, 31]).map eI)]], [.p (iV v2.1)], .box (eCu v2.2), false), fix := some (12, .d false [.sl none (([0, 31]).map eI)])}), (7, {lend := some (some [.d false [.sl none (([1, 2, 3, 3, 4, 8, 30, v2.1]).map eI)]], [.p (iV v3.1)], .box (eCu v3.2), false), fix := some (14, .d false [.sl none (([1, 2, 3, 3, 4, 8, 30, v2.1]).map eI)])})] (B6 (wk_spec_l1Cur_oneTurn hv1) (show ([.d false [.sl none (eraL (([0, 31]).map eI))]] : List Arg) = [.d false [.sl none (([0, 31]).map eI)]] from (by simp only [eraL_enc (h := eI) er_I])) (wk_spec_l1Cur_among hv2) (show (SV.d false (eraR [.sl (some 3) (([0, 31]).map eI)]) : SV) = .d false [.sl none (([0, 31]).map eI)] from (congrArg (fun z => SV.d false z) (erc_sl (eraL_enc er_I) rfl))) (show ([.d false [.sl none (eraL (([1, 2, 3, 3, 4, 8, 30, v2.1]).map eI))]] : List Arg) = [.d false [.sl none (([1, 2, 3, 3, 4, 8, 30, v2.1]).map eI)]] from (by simp only [eraL_enc (h := eI) er_I])) (wk_spec_l1Cur_among hv3) (A1 (show (SV.d false (eraR [.sl (some 3) (([1, 2, 3, 3, 4, 8, 30, v2.1]).map eI)]) : SV) = .d false [.sl none (([1, 2, 3, 3, 4, 8, 30, v2.1]).map eI)] from (congrArg (fun z => SV.d false z) (erc_sl (eraL_enc er_I) rfl)))))) ?_
 refine k_ret ?_
 obtain rfl := oi h
 exact er [(.ov false [.sl (some 78) (v1.1.map ePt)], 2), (.p (iV v3.1), 3)]
theorem wk_impl_within {a0 : Int} {a1 : Int} {a2 : Int}  {r : Bool} (h : impl_within a0 a1 a2 = some r) : Meets Tryz.prog 65 [wI a0, wI a1, wI a2] { vals := [.p (.bool r)] } := by
 refine mo Tryz.func65 [(0, .p (iV a0)), (1, .p (iV a1)), (2, .p (iV a2))] ?_
 unfold impl_within at h
 refine k_sreg (r_gq [(0, .p (iV a0)), (1, .p (iV a1)), (2, .p (iV a2))] [] trivial) ?_
 refine k_sreg (l1 := [(6, .p (.bool ((decide (a1 ≤ a0)) && (decide (a0 ≤ a2)))))]) ?_ ?_
 ·rcases ft (decide (a1 ≤ a0)) with ha0 | ha0
  ·exact RegOk.of_eq (l2 := [(6, .p (.bool ((decide (a1 ≤ a0)) && (decide (a0 ≤ a2)))))]) (r_gq [(6, .p (.bool (decide (a0 ≤ a2))))] [(4, gT), (5, gT), (6, gT), (7, bT)] (A4 ha0 ha0 ha0 ha0)) (by simp [ha0])
  ·exact RegOk.of_eq (l2 := [(6, .p (.bool ((decide (a1 ≤ a0)) && (decide (a0 ≤ a2)))))]) (r_gq [(6, .p (.bool false))] [(4, gF), (5, gF), (6, gF), (7, bF)] (A4 ha0 ha0 ha0 ha0)) (by simp [ha0])
 ·refine k_ret ?_
  obtain rfl := oi h
  exact er [(.p (.bool ((decide (a1 ≤ a0)) && (decide (a0 ≤ a2)))), 6)]
theorem wk_slices_IndexFunc_Limpl_Point_impl_Point_v {a0 : (List Qp)} {a1 : (Qp → Option Bool)} {F1 : FuncId} (hp1 : ∀ x0 y, a1 x0 = some y → Meets Tryz.prog F1 ([.v (vPt x0)] ++ []) { vals := [.p (.bool y)] }) {r : Int} (h : slices_IndexFunc_Limpl_Point_impl_Point a0 a1 = some r) : Meets Tryz.prog 109 [.d false [.sl none (a0.map ePt)], .v (.func (.func F1) #[] #[])] { vals := [.p (iV r)] } := by
 refine mo Tryz.func109 [(0, .d false [.sl none (a0.map ePt)]), (1, .p (.func (.func F1) #[] #[]))] ?_
 unfold slices_IndexFunc_Limpl_Point_impl_Point at h
 refine k_sreg (r_gq [(0, .d false [.sl none (a0.map ePt)]), (1, .p (.func (.func F1) #[] #[]))] [] trivial) ?_
 refine k_join (J := fun (x : Unit) => []) (K := fun x => slices_IndexFunc_Limpl_Point_impl_Point_k1 x = some r) (fun x1 h => ?_) ?_
 ·unfold slices_IndexFunc_Limpl_Point_impl_Point_k1 at h
  refine k_sreg (r_gq [(4, .p (iV (-1)))] [] trivial) ?_
  refine k_ret ?_
  obtain rfl := oi h
  exact er [(.p (iV (-1)), 4)]
 ·refine k_sreg (r_gq [(0, .d false [.sl none (a0.map ePt)]), (1, .p (.func (.func F1) #[] #[])), (7, .p (iV (a0.length : Int))), (8, .p (iV 0))] [(1, {n := some a0.length})] (A1 (show (a0.map ePt).length = a0.length from (List.length_map ..)))) ?_
  refine k_block ?_
  obtain ⟨y3, hl_x2, hk_x2⟩ := bs h
  clear h
  refine k_loop (J := fun (x : Int) => [(0, .d false [.sl none (a0.map ePt)]), (1, .p (.func (.func F1) #[] #[])), (7, .p (iV (a0.length : Int))), (8, .p (iV x))]) hl_x2 (wk_of (by kernel_rfl) (by kernel_rfl)) (fun x2 o_x2 h hy_x2 => ?_)
  unfold slices_IndexFunc_Limpl_Point_impl_Point_b1 at h
  refine k_sreg (r_gq [(0, .d false [.sl none (a0.map ePt)]), (1, .p (.func (.func F1) #[] #[])), (7, .p (iV (a0.length : Int))), (8, .p (iV x2)), (9, .p (.bool (decide (x2 < (a0.length : Int)))))] [] trivial) ?_
  refine k_seq ?_
  refine kc (decide (x2 < (a0.length : Int))) (fun hc5_3 => ?_) (fun hc5_3 => ?_)
  ·replace h := ite_t hc5_3 h
   refine k_skip ?_
   refine q_n ?_
   refine k_seq ?_
   refine k_block ?_
   refine k_sreg (r_gq [(0, .d false [.sl none (a0.map ePt)]), (1, .p (.func (.func F1) #[] #[])), (5, .p (iV x2)), (7, .p (iV (a0.length : Int))), (8, .p (iV x2))] [] trivial) ?_
   replace h := bs h
   obtain ⟨v5, hv5, h⟩ := h
   replace h := bs h
   obtain ⟨v6, hv6, h⟩ := h
   refine k_sreg (r_gq [(0, .d false [.sl none (a0.map ePt)]), (1, .p (.func (.func F1) #[] #[])), (5, .p (iV x2)), (7, .p (iV (a0.length : Int))), (8, .p (iV x2)), (16, .p (.bool v6))] [(3, {row := some (ePt v5)}), (5, {call := some (none, [.p (.bool v6)], true)})] (A3 (idxO_some hv5).1 (map_get ePt (idxO_some hv5).2) (hp1 _ _ hv6))) ?_
   refine kc v6 (fun hc6_6 => ?_) (fun hc6_6 => ?_)
   ·replace h := ite_t hc6_6 h
    refine k_sreg (r_gq [(4, .p (iV x2))] [] trivial) ?_
    refine k_ret ?_
    refine b_r ?_
    refine q_r ?_
    refine lq_r ?_
    refine b_r ?_
    refine q_r ?_
    have hyy := hy_x2 _ (oi h).symm
    subst hyy
    have h := hk_x2
    dsimp only [Sum.elim] at h
    obtain rfl := oi h
    exact er [(.p (iV x2), 4)]
   ·replace h := ite_f hc6_6 h
    refine k_skip ?_
    refine b_n ?_
    refine q_n ?_
    refine k_reg (r_gq [(0, .d false [.sl none (a0.map ePt)]), (1, .p (.func (.func F1) #[] #[])), (7, .p (iV (a0.length : Int))), (8, .p (iV (w64 (x2 + 1))))] [] trivial) ?_
    exact lqn (w64 (x2 + 1)) h
  ·replace h := ite_f hc5_3 h
   refine k_exit ?_
   refine q_x ?_
   refine lq_x ?_
   refine b_x ?_
   have hyy := hy_x2 _ (oi h).symm
   subst hyy
   have h := hk_x2
   dsimp only [Sum.elim] at h
   refine q_n ?_
   exact jx () h
theorem wk_slices_ContainsFunc_Limpl_Point_impl_Point_v {a0 : (List Qp)} {a1 : (Qp → Option Bool)} {F1 : FuncId} (hp1 : ∀ x0 y, a1 x0 = some y → Meets Tryz.prog F1 ([.v (vPt x0)] ++ []) { vals := [.p (.bool y)] }) {r : Bool} (h : slices_ContainsFunc_Limpl_Point_impl_Point a0 a1 = some r) : Meets Tryz.prog 82 [.d false [.sl none (a0.map ePt)], .v (.func (.func F1) #[] #[])] { vals := [.p (.bool r)] } := by
 refine mo Tryz.func82 [(0, .d false [.sl none (a0.map ePt)]), (1, .p (.func (.func F1) #[] #[]))] ?_
 unfold slices_ContainsFunc_Limpl_Point_impl_Point at h
 refine k_sreg (r_gq [(0, .d false [.sl none (a0.map ePt)]), (1, .p (.func (.func F1) #[] #[]))] [] trivial) ?_
 replace h := bs h
 obtain ⟨v1, hv1, h⟩ := h
 refine k_sreg (r_gq [(4, .p (.bool (decide (v1 ≥ 0))))] [(2, {call := some (none, [.p (iV v1)], true)})] (A1 (show Meets Tryz.prog 109 ([.d false [.sl none (a0.map ePt)], .v (.func (.func F1) #[] #[])] ++ []) { vals := [.p (iV v1)] } from (wk_slices_IndexFunc_Limpl_Point_impl_Point_v hp1 hv1)))) ?_
 refine k_ret ?_
 obtain rfl := oi h
 exact er [(.p (.bool (decide (v1 ≥ 0))), 4)]
theorem wk_impl_abs {a0 : Int}  {r : Int} (h : impl_abs a0 = some r) : Meets Tryz.prog 101 [wI a0] { vals := [.p (iV r)] } := by
 refine mo Tryz.func101 [(0, .p (iV a0))] ?_
 unfold impl_abs at h
 refine k_sreg (r_gq [(0, .p (iV a0))] [] trivial) ?_
 refine k_seq ?_
 refine k_sreg (r_gq [(0, .p (iV a0)), (4, .p (.bool (decide (a0 < 0))))] [] trivial) ?_
 refine kc (decide (a0 < 0)) (fun hc2_0 => ?_) (fun hc2_0 => ?_)
 ·replace h := ite_t hc2_0 h
  refine k_sreg (r_gq [(2, .p (iV (w64 (0 - a0))))] [] trivial) ?_
  refine k_ret ?_
  refine q_r ?_
  obtain rfl := oi h
  exact er [(.p (iV (w64 (0 - a0))), 2)]
 ·replace h := ite_f hc2_0 h
  refine k_skip ?_
  refine q_n ?_
  refine k_sreg (r_gq [(2, .p (iV a0))] [] trivial) ?_
  refine k_ret ?_
  obtain rfl := oi h
  exact er [(.p (iV a0), 2)]
theorem wk_impl_greatestDivisor {a0 : Int} {a1 : Int}  {r : Int} (h : impl_greatestDivisor a0 a1 = some r) : Meets Tryz.prog 67 [wI a0, wI a1] { vals := [.p (iV r)] } := by
 refine mo Tryz.func67 [(0, .p (iV a0)), (1, .p (iV a1))] ?_
 unfold impl_greatestDivisor at h
 refine k_sreg (r_gq [(0, .p (iV a0)), (1, .p (iV a1))] [] trivial) ?_
 replace h := bs h
 obtain ⟨v1, hv1, h⟩ := h
 replace h := bs h
 obtain ⟨v2, hv2, h⟩ := h
 refine k_sreg (r_gq [(0, .p (iV v1)), (1, .p (iV v2))] [(1, {call := some (none, [.p (iV v1)], true)}), (3, {call := some (none, [.p (iV v2)], true)})] (A2 (wk_impl_abs hv1) (wk_impl_abs hv2))) ?_
 refine k_join (J := fun (x : Int) => [(0, .p (iV x))]) (K := fun x => impl_greatestDivisor_k1 x = some r) (fun x3 h => ?_) ?_
 ·unfold impl_greatestDivisor_k1 at h
  refine k_sreg (r_gq [(4, .p (iV x3))] [] trivial) ?_
  refine k_ret ?_
  obtain rfl := oi h
  exact er [(.p (iV x3), 4)]
 ·refine k_block ?_
  obtain ⟨y5, hl_x4, hk_x4⟩ := bs h
  clear h
  refine k_loop (J := fun (x : Qr) => [(0, .p (iV x.1)), (1, .p (iV x.2))]) hl_x4 (wk_of (by kernel_rfl) (by kernel_rfl)) (fun x4 o_x4 h hy_x4 => ?_)
  unfold impl_greatestDivisor_b1 at h
  refine k_seq ?_
  refine k_sreg (r_gq [(0, .p (iV x4.1)), (1, .p (iV x4.2)), (10, .p (.bool (x4.2 != 0)))] [] trivial) ?_
  refine kc (x4.2 != 0) (fun hc5_5 => ?_) (fun hc5_5 => ?_)
  ·replace h := ite_t hc5_5 h
   refine k_skip ?_
   refine q_n ?_
   refine k_block ?_
   replace h := bs h
   obtain ⟨u7, hu7, h⟩ := h
   refine k_reg (r_dq Tryz_mixed 5 [] [(0, .p (iV x4.2)), (1, .p (iV (Int.tmod x4.1 x4.2)))] [] (A1 (guardO_some hu7))) ?_
   refine b_n ?_
   exact lqn (x4.2, (Int.tmod x4.1 x4.2)) h
  ·replace h := ite_f hc5_5 h
   refine k_exit ?_
   refine q_x ?_
   refine lq_x ?_
   refine b_x ?_
   have hyy := hy_x4 _ (oi h).symm
   subst hyy
   have h := hk_x4
   refine q_n ?_
   exact jx x4.1 h
theorem wk_impl_isRat {a0 : Qr}  {r : Bool} (h : impl_isRat a0 = some r) : Meets Tryz.prog 68 [.v (vRt a0)] { vals := [.p (.bool r)] } := by
 refine mo Tryz.func68 [(0, .p (vRt a0))] ?_
 unfold impl_isRat at h
 refine k_sreg (r_gq [(1, .box (eRt a0))] [] trivial) ?_
 replace h := bs h
 obtain ⟨v1, hv1, h⟩ := h
 replace h := bs h
 obtain ⟨w4, hw4, h⟩ := h
 refine k_sreg (l1 := [(2, .p (.bool w4))]) ?_ ?_
 ·clear h
  rcases ft v1 with ha0 | ha0
  ·replace hw4 := ite_t ha0 hw4
   replace hw4 := bs hw4
   obtain ⟨v2, hv2, hw4⟩ := hw4
   rcases ft v2 with ha1 | ha1
   ·replace hw4 := ite_t ha1 hw4
    replace hw4 := bs hw4
    obtain ⟨v3, hv3, hw4⟩ := hw4
    have hw4 := oi hw4
    subst hw4
    exact (r_gq [(2, .p (.bool (v3 == 1)))] [(2, {call := some (none, [.p (.bool v1)], true)}), (4, gT), (5, gT), (6, {g := some true, call := some (none, [.p (.bool v2)], true)}), (7, bT), (9, gT), (10, gT), (11, gT), (12, gT), (13, {g := some true, call := some (none, [.p (iV v3)], true)}), (14, gT), (15, bT)] (B6 (wk_impl_within hv1) ha0 ha0 ha0 (wk_impl_within hv2) ha0 (B6 ha1 ha1 ha1 ha1 ha1 (wk_impl_greatestDivisor hv3) (A2 ha1 ha1))))
   ·replace hw4 := ite_f ha1 hw4
    have hw4 := oi hw4
    subst hw4
    exact (r_gq [(2, .p (.bool false))] [(2, {call := some (none, [.p (.bool v1)], true)}), (4, gT), (5, gT), (6, {g := some true, call := some (none, [.p (.bool v2)], true)}), (7, bT), (9, gF), (10, gF), (11, gF), (12, gF), (13, gF), (14, gF), (15, bF)] (B6 (wk_impl_within hv1) ha0 ha0 ha0 (wk_impl_within hv2) ha0 (B6 ha1 ha1 ha1 ha1 ha1 ha1 (A1 ha1))))
  ·replace hw4 := ite_f ha0 hw4
   have hw4 := oi hw4
   subst hw4
   exact (r_gq [(2, .p (.bool false))] [(2, {call := some (none, [.p (.bool v1)], true)}), (4, gF), (5, gF), (6, gF), (7, bF), (9, gF), (10, gF), (11, gF), (12, gF), (13, gF), (14, gF), (15, bF)] (B6 (wk_impl_within hv1) ha0 ha0 ha0 ha0 (show false = false from rfl) (A6 (show false = false from rfl) (show false = false from rfl) (show false = false from rfl) (show false = false from rfl) (show false = false from rfl) (show false = false from rfl))))
 ·refine k_ret ?_
  obtain rfl := oi h
  exact er [(.p (.bool w4), 2)]
theorem wk_impl_isUnit {a0 : Qr}  {r : Bool} (h : impl_isUnit a0 = some r) : Meets Tryz.prog 110 [.v (vRt a0)] { vals := [.p (.bool r)] } := by
 refine mo Tryz.func110 [(0, .p (vRt a0))] ?_
 unfold impl_isUnit at h
 refine k_sreg (r_gq [(1, .box (eRt a0))] [] trivial) ?_
 replace h := bs h
 obtain ⟨v1, hv1, h⟩ := h
 refine k_sreg (l1 := [(2, .p (.bool (v1 && ((decide (a0.1 ≥ 0)) && (decide (a0.1 ≤ a0.2))))))]) ?_ ?_
 ·rcases ft v1 with ha0 | ha0
  ·rcases ft (decide (a0.1 ≥ 0)) with ha1 | ha1
   ·exact RegOk.of_eq (l2 := [(2, .p (.bool (v1 && ((decide (a0.1 ≥ 0)) && (decide (a0.1 ≤ a0.2))))))]) (r_gq [(2, .p (.bool (decide (a0.1 ≤ a0.2))))] [(1, {call := some (none, [.p (.bool v1)], true)}), (3, gT), (4, gT), (5, gT), (6, bT), (8, gT), (9, gT), (10, gT), (11, gT), (12, gT), (13, bT)] (B6 (wk_impl_isRat hv1) ha0 ha0 ha0 ha0 ha1 (A5 ha1 ha1 ha1 ha1 ha1))) (by simp [ha0, ha1])
   ·exact RegOk.of_eq (l2 := [(2, .p (.bool (v1 && ((decide (a0.1 ≥ 0)) && (decide (a0.1 ≤ a0.2))))))]) (r_gq [(2, .p (.bool false))] [(1, {call := some (none, [.p (.bool v1)], true)}), (3, gT), (4, gT), (5, gT), (6, bT), (8, gF), (9, gF), (10, gF), (11, gF), (12, gF), (13, bF)] (B6 (wk_impl_isRat hv1) ha0 ha0 ha0 ha0 ha1 (A5 ha1 ha1 ha1 ha1 ha1))) (by simp [ha0, ha1])
  ·exact RegOk.of_eq (l2 := [(2, .p (.bool (v1 && ((decide (a0.1 ≥ 0)) && (decide (a0.1 ≤ a0.2))))))]) (r_gq [(2, .p (.bool false))] [(1, {call := some (none, [.p (.bool v1)], true)}), (3, gF), (4, gF), (5, gF), (6, bF), (8, gF), (9, gF), (10, gF), (11, gF), (12, gF), (13, bF)] (B6 (wk_impl_isRat hv1) ha0 ha0 ha0 ha0 (show false = false from rfl) (A5 (show false = false from rfl) (show false = false from rfl) (show false = false from rfl) (show false = false from rfl) (show false = false from rfl)))) (by simp [ha0])
 ·refine k_ret ?_
  obtain rfl := oi h
  exact er [(.p (.bool (v1 && ((decide (a0.1 ≥ 0)) && (decide (a0.1 ≤ a0.2))))), 2)]
theorem wk_impl_isCoord {a0 : Qr}  {r : Bool} (h : impl_isCoord a0 = some r) : Meets Tryz.prog 84 [.v (vRt a0)] { vals := [.p (.bool r)] } := by
 refine mo Tryz.func84 [(0, .p (vRt a0))] ?_
 unfold impl_isCoord at h
 refine k_sreg (r_gq [(1, .box (eRt a0))] [] trivial) ?_
 replace h := bs h
 obtain ⟨v1, hv1, h⟩ := h
 refine k_sreg (l1 := [(2, .p (.bool (v1 && (decide (a0.2 ≤ 100)))))]) ?_ ?_
 ·rcases ft v1 with ha0 | ha0
  ·exact RegOk.of_eq (l2 := [(2, .p (.bool (v1 && (decide (a0.2 ≤ 100)))))]) (r_gq [(2, .p (.bool (decide (a0.2 ≤ 100))))] [(1, {call := some (none, [.p (.bool v1)], true)}), (3, gT), (4, gT), (5, gT), (6, bT)] (A5 (wk_impl_isUnit hv1) ha0 ha0 ha0 ha0)) (by simp [ha0])
  ·exact RegOk.of_eq (l2 := [(2, .p (.bool (v1 && (decide (a0.2 ≤ 100)))))]) (r_gq [(2, .p (.bool false))] [(1, {call := some (none, [.p (.bool v1)], true)}), (3, gF), (4, gF), (5, gF), (6, bF)] (A5 (wk_impl_isUnit hv1) ha0 ha0 ha0 ha0)) (by simp [ha0])
 ·refine k_ret ?_
  obtain rfl := oi h
  exact er [(.p (.bool (v1 && (decide (a0.2 ≤ 100)))), 2)]
theorem wk_impl_isMap_1 {a0 : Qp}  {r : Bool} (h : impl_isMap_1 a0 = some r) : Meets Tryz.prog 83 [.v (vPt a0)] { vals := [.p (.bool r)] } := by
 refine mo Tryz.func83 [(0, .p (vPt a0))] ?_
 unfold impl_isMap_1 at h
 refine k_sreg (r_gq [(1, .box (ePt a0))] [] trivial) ?_
 replace h := bs h
 obtain ⟨v1, hv1, h⟩ := h
 replace h := bs h
 obtain ⟨w3, hw3, h⟩ := h
 refine k_sreg (l1 := [(2, .p (.bool w3))]) ?_ ?_
 ·clear h
  rcases ft (!v1) with ha0 | ha0
  ·replace hw3 := ite_t ha0 hw3
   have hw3 := oi hw3
   subst hw3
   exact (r_gq [(2, .p (.bool true))] [(2, {call := some (none, [.p (.bool v1)], true)}), (5, gT), (6, gT), (7, gT), (8, gT), (9, bT)] (A6 (wk_impl_isCoord hv1) ha0 ha0 ha0 ha0 ha0))
  ·replace hw3 := ite_f ha0 hw3
   replace hw3 := bs hw3
   obtain ⟨v2, hv2, hw3⟩ := hw3
   have hw3 := oi hw3
   subst hw3
   exact (r_gq [(2, .p (.bool (!v2)))] [(2, {call := some (none, [.p (.bool v1)], true)}), (5, gF), (6, gF), (7, {g := some false, call := some (none, [.p (.bool v2)], true)}), (8, gF), (9, bF)] (B6 (wk_impl_isCoord hv1) ha0 ha0 ha0 (wk_impl_isCoord hv2) ha0 (A1 ha0)))
 ·refine k_ret ?_
  obtain rfl := oi h
  exact er [(.p (.bool w3), 2)]
theorem wk_impl_zero   {r : Qr} (h : impl_zero  = some r) : Meets Tryz.prog 69 [] { vals := [.p (vRt r)] } := by
 refine mo Tryz.func69 [] ?_
 unfold impl_zero at h
 refine k_sreg (r_gq [(0, .box [rI 0, rI 0])] [] trivial) ?_
 refine k_sreg (r_gq [(0, .box [rI 0, rI 1])] [] trivial) ?_
 refine k_ret ?_
 obtain rfl := oi h
 exact er [(.p (.agg #[.int .i64 0, .int .i64 1]), 0)]
theorem wk_impl_oneRat   {r : Qr} (h : impl_oneRat  = some r) : Meets Tryz.prog 70 [] { vals := [.p (vRt r)] } := by
 refine mo Tryz.func70 [] ?_
 unfold impl_oneRat at h
 refine k_sreg (r_gq [(0, .box [rI 0, rI 0])] [] trivial) ?_
 refine k_sreg (r_gq [(0, .box [rI 1, rI 1])] [] trivial) ?_
 refine k_ret ?_
 obtain rfl := oi h
 exact er [(.p (.agg #[.int .i64 1, .int .i64 1]), 0)]
theorem wk_impl_xsOf {a0 : (List Qp)}  {r : (List Qr)} (h : impl_xsOf a0 = some r) : Meets Tryz.prog 86 [.d false [.sl none (a0.map ePt)]] { vals := [.ov false [.sl (some 23) (r.map eRt)]] } := by
 refine mo Tryz.func86 [(0, .d false [.sl none (a0.map ePt)])] ?_
 unfold impl_xsOf at h
 refine k_sreg (r_gq [(0, .d false [.sl none (a0.map ePt)])] [] trivial) ?_
 refine k_sreg (r_gq [(0, .d false [.sl none (a0.map ePt)]), (3, .ov false [.sl (some 23) []])] [] trivial) ?_
 refine k_join (J := fun (x : (List Qr)) => [(3, .ov false [.sl (some 23) (x.map eRt)])]) (K := fun x => impl_xsOf_k1 x = some r) (fun x1 h => ?_) ?_
 ·unfold impl_xsOf_k1 at h
  refine k_sreg (r_gq [(2, .ov false [.sl (some 23) (x1.map eRt)])] [] trivial) ?_
  refine k_ret ?_
  obtain rfl := oi h
  exact er [(.ov false [.sl (some 23) (x1.map eRt)], 2)]
 ·refine k_sreg (r_gq [(3, .ov false [.sl (some 23) []]), (6, .d false [.sl none (a0.map ePt)]), (7, .p (iV (a0.length : Int))), (8, .p (iV 0))] [(1, {n := some a0.length})] (A1 (show (a0.map ePt).length = a0.length from (List.length_map ..)))) ?_
  refine k_block ?_
  obtain ⟨y3, hl_x2, hk_x2⟩ := bs h
  clear h
  refine k_loop (J := fun (x : ((List Qr) × Int)) => [(3, .ov false [.sl (some 23) (x.1.map eRt)]), (6, .d false [.sl none (a0.map ePt)]), (7, .p (iV (a0.length : Int))), (8, .p (iV x.2))]) hl_x2 (wk_of (by kernel_rfl) (by kernel_rfl)) (fun x2 o_x2 h hy_x2 => ?_)
  unfold impl_xsOf_b1 at h
  refine k_sreg (r_gq [(3, .ov false [.sl (some 23) (x2.1.map eRt)]), (6, .d false [.sl none (a0.map ePt)]), (7, .p (iV (a0.length : Int))), (8, .p (iV x2.2)), (9, .p (.bool (decide (x2.2 < (a0.length : Int)))))] [] trivial) ?_
  refine k_seq ?_
  refine kc (decide (x2.2 < (a0.length : Int))) (fun hc5_3 => ?_) (fun hc5_3 => ?_)
  ·replace h := ite_t hc5_3 h
   refine k_skip ?_
   refine q_n ?_
   refine k_seq ?_
   refine k_block ?_
   replace h := bs h
   obtain ⟨v5, hv5, h⟩ := h
   refine k_sreg (r_gq [(3, .ov false [.sl (some 23) (x2.1.map eRt)]), (5, .box (ePt v5)), (6, .d false [.sl none (a0.map ePt)]), (7, .p (iV (a0.length : Int))), (8, .p (iV x2.2))] [(0, {row := some (ePt v5)})] (A2 (idxO_some hv5).1 (map_get ePt (idxO_some hv5).2))) ?_
   replace h := bs h
   obtain ⟨u6, hu6, h⟩ := h
   refine k_reg (r_gq [(3, .ov false [.sl (some 23) ((x2.1 ++ [v5.1]).map eRt)]), (6, .d false [.sl none (a0.map ePt)]), (7, .p (iV (a0.length : Int))), (8, .p (iV x2.2))] [(4, {fix := some (16, .ov false [.sl (some 23) ((x2.1 ++ [v5.1]).map eRt)])})] (A3 (show List.length ((x2.1.map eRt) : List (List C)) + List.length ((([v5.1]).map eRt) : List (List C)) ≤ 1099511627776 from (by have hg := (guardO_some hu6); simpa using hg)) (show ∀ row ∈ ((([v5.1]).map eRt) : List (List C)), row.length = 2 from (rows_len fun _ => rfl)) (show (SV.ov false [.sl (some 23) ((x2.1.map eRt) ++ (([v5.1]).map eRt))] : SV) = .ov false [.sl (some 23) ((x2.1 ++ [v5.1]).map eRt)] from (congrArg (fun z => SV.ov false [.sl (some 23) z]) (List.map_append ..).symm)))) ?_
   refine b_n ?_
   refine q_n ?_
   refine k_reg (r_gq [(3, .ov false [.sl (some 23) ((x2.1 ++ [v5.1]).map eRt)]), (6, .d false [.sl none (a0.map ePt)]), (7, .p (iV (a0.length : Int))), (8, .p (iV (w64 (x2.2 + 1))))] [] trivial) ?_
   exact lqn ((x2.1 ++ [v5.1]), (w64 (x2.2 + 1))) h
  ·replace h := ite_f hc5_3 h
   refine k_exit ?_
   refine q_x ?_
   refine lq_x ?_
   refine b_x ?_
   have hyy := hy_x2 _ (oi h).symm
   subst hyy
   have h := hk_x2
   refine q_n ?_
   exact jx x2.1 h
theorem wk_impl_compare {a0 : Qr} {a1 : Qr}  {r : Int} (h : impl_compare a0 a1 = some r) : Meets Tryz.prog 40 [.v (vRt a0), .v (vRt a1)] { vals := [.p (iV r)] } := by
 refine mo Tryz.func40 [(0, .p (vRt a0)), (1, .p (vRt a1))] ?_
 unfold impl_compare at h
 refine k_sreg (r_gq [(2, .box (eRt a0)), (3, .box (eRt a1))] [] trivial) ?_
 refine k_seq ?_
 refine k_sreg (r_dq Tryz_mixed 11 [] [(5, .p (iV (w64 (a0.1 * a1.2)))), (6, .p (iV (w64 (a1.1 * a0.2))))] [] trivial) ?_
 refine k_block ?_
 refine k_sreg (r_gq [(5, .p (iV (w64 (a0.1 * a1.2)))), (6, .p (iV (w64 (a1.1 * a0.2)))), (17, .p (.bool (decide ((w64 (a0.1 * a1.2)) < (w64 (a1.1 * a0.2))))))] [] trivial) ?_
 refine kc (decide ((w64 (a0.1 * a1.2)) < (w64 (a1.1 * a0.2)))) (fun hc3_0 => ?_) (fun hc3_0 => ?_)
 ·replace h := ite_t hc3_0 h
  refine k_sreg (r_gq [(4, .p (iV (-1)))] [] trivial) ?_
  refine k_ret ?_
  refine b_r ?_
  refine q_r ?_
  obtain rfl := oi h
  exact er [(.p (iV (-1)), 4)]
 ·replace h := ite_f hc3_0 h
  refine k_sreg (r_gq [(21, .p (.bool (decide ((w64 (a0.1 * a1.2)) > (w64 (a1.1 * a0.2))))))] [] trivial) ?_
  refine kc (decide ((w64 (a0.1 * a1.2)) > (w64 (a1.1 * a0.2)))) (fun hc3_1 => ?_) (fun hc3_1 => ?_)
  ·replace h := ite_t hc3_1 h
   refine k_sreg (r_gq [(4, .p (iV 1))] [] trivial) ?_
   refine k_ret ?_
   refine b_r ?_
   refine q_r ?_
   obtain rfl := oi h
   exact er [(.p (iV 1), 4)]
  ·replace h := ite_f hc3_1 h
   refine k_skip ?_
   refine b_n ?_
   refine q_n ?_
   refine k_sreg (r_gq [(4, .p (iV 0))] [] trivial) ?_
   refine k_ret ?_
   obtain rfl := oi h
   exact er [(.p (iV 0), 4)]
theorem wk_impl_less {a0 : Qr} {a1 : Qr}  {r : Bool} (h : impl_less a0 a1 = some r) : Meets Tryz.prog 111 [.v (vRt a0), .v (vRt a1)] { vals := [.p (.bool r)] } := by
 refine mo Tryz.func111 [(0, .p (vRt a0)), (1, .p (vRt a1))] ?_
 unfold impl_less at h
 refine k_sreg (r_gq [(2, .box (eRt a0)), (3, .box (eRt a1))] [] trivial) ?_
 replace h := bs h
 obtain ⟨v1, hv1, h⟩ := h
 refine k_sreg (r_gq [(4, .p (.bool (decide (v1 < 0))))] [(2, {call := some (none, [.p (iV v1)], true)})] (A1 (wk_impl_compare hv1))) ?_
 refine k_ret ?_
 obtain rfl := oi h
 exact er [(.p (.bool (decide (v1 < 0))), 4)]
theorem wk_impl_isRising {a0 : (List Qr)}  {r : Bool} (h : impl_isRising a0 = some r) : Meets Tryz.prog 85 [.d false [.sl none (a0.map eRt)]] { vals := [.p (.bool r)] } := by
 refine mo Tryz.func85 [(0, .d false [.sl none (a0.map eRt)])] ?_
 unfold impl_isRising at h
 refine k_sreg (r_gq [(0, .d false [.sl none (a0.map eRt)])] [] trivial) ?_
 refine k_join (J := fun (x : Unit) => []) (K := fun x => impl_isRising_k1 x = some r) (fun x1 h => ?_) ?_
 ·unfold impl_isRising_k1 at h
  refine k_sreg (r_gq [(2, .p (.bool true))] [] trivial) ?_
  refine k_ret ?_
  obtain rfl := oi h
  exact er [(.p (.bool true), 2)]
 ·refine k_sreg (r_gq [(0, .d false [.sl none (a0.map eRt)]), (3, .p (iV 1))] [] trivial) ?_
  refine k_block ?_
  obtain ⟨y3, hl_x2, hk_x2⟩ := bs h
  clear h
  refine k_loop (J := fun (x : Int) => [(0, .d false [.sl none (a0.map eRt)]), (3, .p (iV x))]) hl_x2 (wk_of (by kernel_rfl) (by kernel_rfl)) (fun x2 o_x2 h hy_x2 => ?_)
  unfold impl_isRising_b1 at h
  refine k_seq ?_
  refine k_sreg (r_gq [(0, .d false [.sl none (a0.map eRt)]), (3, .p (iV x2)), (7, .p (.bool (decide (x2 < (a0.length : Int)))))] [(2, {n := some a0.length})] (A1 (show (a0.map eRt).length = a0.length from (List.length_map ..)))) ?_
  refine kc (decide (x2 < (a0.length : Int))) (fun hc5_3 => ?_) (fun hc5_3 => ?_)
  ·replace h := ite_t hc5_3 h
   refine k_skip ?_
   refine q_n ?_
   refine k_seq ?_
   refine k_block ?_
   replace h := bs h
   obtain ⟨v5, hv5, h⟩ := h
   replace h := bs h
   obtain ⟨v6, hv6, h⟩ := h
   replace h := bs h
   obtain ⟨v7, hv7, h⟩ := h
   refine k_sreg (r_dq Tryz_mixed 9 [] [(0, .d false [.sl none (a0.map eRt)]), (3, .p (iV x2)), (20, .p (.bool (!v7)))] [(3, {row := some (eRt v5)}), (7, {row := some (eRt v6)}), (9, {call := some (none, [.p (.bool v7)], true)})] (A5 (idxO_some hv5).1 (map_get eRt (idxO_some hv5).2) (idxO_some hv6).1 (map_get eRt (idxO_some hv6).2) (wk_impl_less hv7))) ?_
   refine kc (!v7) (fun hc6_7 => ?_) (fun hc6_7 => ?_)
   ·replace h := ite_t hc6_7 h
    refine k_sreg (r_gq [(2, .p (.bool false))] [] trivial) ?_
    refine k_ret ?_
    refine b_r ?_
    refine q_r ?_
    refine lq_r ?_
    refine b_r ?_
    refine q_r ?_
    have hyy := hy_x2 _ (oi h).symm
    subst hyy
    have h := hk_x2
    dsimp only [Sum.elim] at h
    obtain rfl := oi h
    exact er [(.p (.bool false), 2)]
   ·replace h := ite_f hc6_7 h
    refine k_skip ?_
    refine b_n ?_
    refine q_n ?_
    refine k_reg (r_gq [(0, .d false [.sl none (a0.map eRt)]), (3, .p (iV (w64 (x2 + 1))))] [] trivial) ?_
    exact lqn (w64 (x2 + 1)) h
  ·replace h := ite_f hc5_3 h
   refine k_exit ?_
   refine q_x ?_
   refine lq_x ?_
   refine b_x ?_
   have hyy := hy_x2 _ (oi h).symm
   subst hyy
   have h := hk_x2
   dsimp only [Sum.elim] at h
   refine q_n ?_
   exact jx () h
theorem wk_impl_isMap {a0 : (List Qp)}  {r : Bool} (h : impl_isMap a0 = some r) : Meets Tryz.prog 46 [.d false [.sl none (a0.map ePt)]] { vals := [.p (.bool r)] } := by
 refine mo Tryz.func46 [(0, .d false [.sl none (a0.map ePt)])] ?_
 unfold impl_isMap at h
 refine k_sreg (r_gq [(0, .d false [.sl none (a0.map ePt)])] [] trivial) ?_
 refine k_seq ?_
 replace h := bs h
 obtain ⟨v1, hv1, h⟩ := h
 replace h := bs h
 obtain ⟨w3, hw3, h⟩ := h
 refine k_sreg (l1 := [(0, .d false [.sl none (a0.map ePt)]), (10, .p (.bool w3))]) ?_ ?_
 ·clear h
  rcases ft (!v1) with ha0 | ha0
  ·replace hw3 := ite_t ha0 hw3
   have hw3 := oi hw3
   subst hw3
   exact (r_gq [(0, .d false [.sl none (a0.map ePt)]), (10, .p (.bool true))] [(1, {n := some a0.length}), (2, {call := some (none, [.p (.bool v1)], true)}), (5, gT), (6, gT), (7, bT)] (A5 (show (a0.map ePt).length = a0.length from (List.length_map ..)) (wk_impl_within hv1) ha0 ha0 ha0))
  ·replace hw3 := ite_f ha0 hw3
   replace hw3 := bs hw3
   obtain ⟨v2, hv2, hw3⟩ := hw3
   have hw3 := oi hw3
   subst hw3
   exact (r_gq [(0, .d false [.sl none (a0.map ePt)]), (10, .p (.bool v2))] [(1, {n := some a0.length}), (2, {call := some (none, [.p (.bool v1)], true)}), (5, gF), (6, {g := some false, call := some (none, [.p (.bool v2)], true)}), (7, bF)] (A6 (show (a0.map ePt).length = a0.length from (List.length_map ..)) (wk_impl_within hv1) ha0 ha0 (show Meets Tryz.prog 82 ([.d false [.sl none (a0.map ePt)], .v (.func (.func 83) #[] #[])] ++ []) { vals := [.p (.bool v2)] } from (wk_slices_ContainsFunc_Limpl_Point_impl_Point_v (fun x0 y hy => wk_impl_isMap_1 hy) hv2)) ha0))
 ·refine kc w3 (fun hc2_3 => ?_) (fun hc2_3 => ?_)
  ·replace h := ite_t hc2_3 h
   refine k_sreg (r_gq [(2, .p (.bool false))] [] trivial) ?_
   refine k_ret ?_
   refine q_r ?_
   obtain rfl := oi h
   exact er [(.p (.bool false), 2)]
  ·replace h := ite_f hc2_3 h
   refine k_skip ?_
   refine q_n ?_
   replace h := bs h
   obtain ⟨v5, hv5, h⟩ := h
   replace h := bs h
   obtain ⟨v6, hv6, h⟩ := h
   replace h := bs h
   obtain ⟨w11, hw11, h⟩ := h
   refine k_sreg (l1 := [(2, .p (.bool w11))]) ?_ ?_
   ·clear h
    rcases ft ((v5.1.1 == v6.1) && (v5.1.2 == v6.2)) with ha1 | ha1
    ·replace hw11 := ite_t ha1 hw11
     replace hw11 := bs hw11
     obtain ⟨v7, hv7, hw11⟩ := hw11
     replace hw11 := bs hw11
     obtain ⟨v8, hv8, hw11⟩ := hw11
     rcases ft ((v7.1.1 == v8.1) && (v7.1.2 == v8.2)) with ha2 | ha2
     ·replace hw11 := ite_t ha2 hw11
      replace hw11 := bs hw11
      obtain ⟨v9, hv9, hw11⟩ := hw11
      replace hw11 := bs hw11
      obtain ⟨v10, hv10, hw11⟩ := hw11
      have hw11 := oi hw11
      subst hw11
      exact (r_dq Tryz_mixed 15 [] [(2, .p (.bool v10))] [(1, {row := some (ePt v5)}), (4, {call := some (none, [.p (vRt v6)], true)}), (5, {pv := some (.bool ((v5.1.1 == v6.1) && (v5.1.2 == v6.2)))}), (7, gT), (8, gT), (9, {g := some true, n := some a0.length}), (10, gT), (11, {g := some true, row := some (ePt v7)}), (12, gT), (13, gT), (14, {g := some true, call := some (none, [.p (vRt v8)], true)}), (15, {g := some true, pv := some (.bool ((v7.1.1 == v8.1) && (v7.1.2 == v8.2)))}), (16, bT), (18, gT), (19, {g := some true, call := some (none, [.ov false [.sl (some 23) (v9.map eRt)]], true)}), (20, {g := some true, call := some (some [.d false [.sl none (v9.map eRt)]], [.p (.bool v10)], true)}), (21, bT)] (B6 (idxO_some hv5).1 (map_get ePt (idxO_some hv5).2) (wk_impl_zero hv6) (show PureAt Tryz.prog (.binOp .eql 23 (.tmp 14) (.tmp 15) 23) [vRt v5.1, vRt v6] (.bool ((v5.1.1 == v6.1) && (v5.1.2 == v6.2))) from (pure_eql2 (by kernel_rfl))) ha1 ha1 (B6 ha1 (show (a0.map ePt).length = a0.length from (List.length_map ..)) ha1 ha1 (idxO_some hv7).1 (map_get ePt (idxO_some hv7).2) (B6 ha1 ha1 ha1 (wk_impl_oneRat hv8) ha1 (show PureAt Tryz.prog (.binOp .eql 23 (.tmp 24) (.tmp 25) 23) [vRt v7.1, vRt v8] (.bool ((v7.1.1 == v8.1) && (v7.1.2 == v8.2))) from (pure_eql2 (by kernel_rfl))) (B6 ha1 ha2 ha2 (wk_impl_xsOf hv9) (show List.all [.ov false [.sl (some 23) (v9.map eRt)]] simpleR = true from (sa_o (wnR1 (wnL_enc (wn_P wn_I wn_I)) rfl) rfl)) ha2 (A3 (show ([.d false [.sl none (eraL (v9.map eRt))]] : List Arg) = [.d false [.sl none (v9.map eRt)]] from (by simp only [eraL_enc (h := eRt) (era_P er_I er_I)])) (wk_impl_isRising hv10) ha2))))))
     ·replace hw11 := ite_f ha2 hw11
      have hw11 := oi hw11
      subst hw11
      exact (r_dq Tryz_mixed 15 [] [(2, .p (.bool false))] [(1, {row := some (ePt v5)}), (4, {call := some (none, [.p (vRt v6)], true)}), (5, {pv := some (.bool ((v5.1.1 == v6.1) && (v5.1.2 == v6.2)))}), (7, gT), (8, gT), (9, {g := some true, n := some a0.length}), (10, gT), (11, {g := some true, row := some (ePt v7)}), (12, gT), (13, gT), (14, {g := some true, call := some (none, [.p (vRt v8)], true)}), (15, {g := some true, pv := some (.bool ((v7.1.1 == v8.1) && (v7.1.2 == v8.2)))}), (16, bT), (18, gF), (19, gF), (20, gF), (21, bF)] (B6 (idxO_some hv5).1 (map_get ePt (idxO_some hv5).2) (wk_impl_zero hv6) (show PureAt Tryz.prog (.binOp .eql 23 (.tmp 14) (.tmp 15) 23) [vRt v5.1, vRt v6] (.bool ((v5.1.1 == v6.1) && (v5.1.2 == v6.2))) from (pure_eql2 (by kernel_rfl))) ha1 ha1 (B6 ha1 (show (a0.map ePt).length = a0.length from (List.length_map ..)) ha1 ha1 (idxO_some hv7).1 (map_get ePt (idxO_some hv7).2) (B6 ha1 ha1 ha1 (wk_impl_oneRat hv8) ha1 (show PureAt Tryz.prog (.binOp .eql 23 (.tmp 24) (.tmp 25) 23) [vRt v7.1, vRt v8] (.bool ((v7.1.1 == v8.1) && (v7.1.2 == v8.2))) from (pure_eql2 (by kernel_rfl))) (A5 ha1 ha2 ha2 ha2 ha2)))))
    ·replace hw11 := ite_f ha1 hw11
     have hw11 := oi hw11
     subst hw11
     exact (r_dq Tryz_mixed 15 [] [(2, .p (.bool false))] [(1, {row := some (ePt v5)}), (4, {call := some (none, [.p (vRt v6)], true)}), (5, {pv := some (.bool ((v5.1.1 == v6.1) && (v5.1.2 == v6.2)))}), (7, gF), (8, gF), (9, gF), (10, gF), (11, gF), (12, gF), (13, gF), (14, gF), (15, gF), (16, bF), (18, gF), (19, gF), (20, gF), (21, bF)] (B6 (idxO_some hv5).1 (map_get ePt (idxO_some hv5).2) (wk_impl_zero hv6) (show PureAt Tryz.prog (.binOp .eql 23 (.tmp 14) (.tmp 15) 23) [vRt v5.1, vRt v6] (.bool ((v5.1.1 == v6.1) && (v5.1.2 == v6.2))) from (pure_eql2 (by kernel_rfl))) ha1 ha1 (B6 ha1 ha1 ha1 ha1 ha1 ha1 (A6 ha1 ha1 (show false = false from rfl) (show false = false from rfl) (show false = false from rfl) (show false = false from rfl)))))
   ·refine k_ret ?_
    obtain rfl := oi h
    exact er [(.p (.bool w11), 2)]
theorem wk_impl_negated {a0 : Qr}  {r : Qr} (h : impl_negated a0 = some r) : Meets Tryz.prog 153 [.v (vRt a0)] { vals := [.p (vRt r)] } := by
 refine mo Tryz.func153 [(0, .p (vRt a0))] ?_
 unfold impl_negated at h
 refine k_sreg (r_gq [(1, .box (eRt a0)), (2, .box [rI 0, rI 0])] [] trivial) ?_
 refine k_sreg (r_gq [(2, .box [rI (w64 (0 - a0.1)), rI a0.2])] [] trivial) ?_
 refine k_ret ?_
 obtain rfl := oi h
 exact er [(.p (.agg #[.int .i64 (w64 (0 - a0.1)), .int .i64 a0.2]), 2)]
theorem wk_impl_areRats {a0 : (List Qr)}  {r : Bool} (h : impl_areRats a0 = some r) : Meets Tryz.prog 152 [.d false [.sl none (a0.map eRt)]] { vals := [.p (.bool r)] } := by
 refine mo Tryz.func152 [(0, .d false [.sl none (a0.map eRt)])] ?_
 unfold impl_areRats at h
 refine k_sreg (r_gq [(0, .d false [.sl none (a0.map eRt)])] [] trivial) ?_
 refine k_join (J := fun (x : Unit) => []) (K := fun x => impl_areRats_k1 x = some r) (fun x1 h => ?_) ?_
 ·unfold impl_areRats_k1 at h
  refine k_sreg (r_gq [(2, .p (.bool true))] [] trivial) ?_
  refine k_ret ?_
  obtain rfl := oi h
  exact er [(.p (.bool true), 2)]
 ·refine k_sreg (r_gq [(5, .d false [.sl none (a0.map eRt)]), (6, .p (iV (a0.length : Int))), (7, .p (iV 0))] [(1, {n := some a0.length})] (A1 (show (a0.map eRt).length = a0.length from (List.length_map ..)))) ?_
  refine k_block ?_
  obtain ⟨y3, hl_x2, hk_x2⟩ := bs h
  clear h
  refine k_loop (J := fun (x : Int) => [(5, .d false [.sl none (a0.map eRt)]), (6, .p (iV (a0.length : Int))), (7, .p (iV x))]) hl_x2 (wk_of (by kernel_rfl) (by kernel_rfl)) (fun x2 o_x2 h hy_x2 => ?_)
  unfold impl_areRats_b1 at h
  refine k_sreg (r_gq [(5, .d false [.sl none (a0.map eRt)]), (6, .p (iV (a0.length : Int))), (7, .p (iV x2)), (8, .p (.bool (decide (x2 < (a0.length : Int)))))] [] trivial) ?_
  refine k_seq ?_
  refine kc (decide (x2 < (a0.length : Int))) (fun hc5_3 => ?_) (fun hc5_3 => ?_)
  ·replace h := ite_t hc5_3 h
   refine k_skip ?_
   refine q_n ?_
   refine k_seq ?_
   refine k_block ?_
   replace h := bs h
   obtain ⟨v5, hv5, h⟩ := h
   refine k_sreg (r_gq [(4, .box (eRt v5)), (5, .d false [.sl none (a0.map eRt)]), (6, .p (iV (a0.length : Int))), (7, .p (iV x2))] [(0, {row := some (eRt v5)})] (A2 (idxO_some hv5).1 (map_get eRt (idxO_some hv5).2))) ?_
   replace h := bs h
   obtain ⟨v6, hv6, h⟩ := h
   refine k_sreg (r_gq [(5, .d false [.sl none (a0.map eRt)]), (6, .p (iV (a0.length : Int))), (7, .p (iV x2)), (13, .p (.bool (!v6)))] [(1, {call := some (none, [.p (.bool v6)], true)})] (A1 (wk_impl_isRat hv6))) ?_
   refine kc (!v6) (fun hc6_6 => ?_) (fun hc6_6 => ?_)
   ·replace h := ite_t hc6_6 h
    refine k_sreg (r_gq [(2, .p (.bool false))] [] trivial) ?_
    refine k_ret ?_
    refine b_r ?_
    refine q_r ?_
    refine lq_r ?_
    refine b_r ?_
    refine q_r ?_
    have hyy := hy_x2 _ (oi h).symm
    subst hyy
    have h := hk_x2
    dsimp only [Sum.elim] at h
    obtain rfl := oi h
    exact er [(.p (.bool false), 2)]
   ·replace h := ite_f hc6_6 h
    refine k_skip ?_
    refine b_n ?_
    refine q_n ?_
    refine k_reg (r_gq [(5, .d false [.sl none (a0.map eRt)]), (6, .p (iV (a0.length : Int))), (7, .p (iV (w64 (x2 + 1))))] [] trivial) ?_
    exact lqn (w64 (x2 + 1)) h
  ·replace h := ite_f hc5_3 h
   refine k_exit ?_
   refine q_x ?_
   refine lq_x ?_
   refine b_x ?_
   have hyy := hy_x2 _ (oi h).symm
   subst hyy
   have h := hk_x2
   dsimp only [Sum.elim] at h
   refine q_n ?_
   exact jx () h
theorem wk_impl_lowest {a0 : Int} {a1 : Int}  {r : (Qr × Bool)} (h : impl_lowest a0 a1 = some r) : Meets Tryz.prog 33 [wI a0, wI a1] { vals := [.p (vRt r.1), .p (.bool r.2)] } := by
 refine mo Tryz.func33 [(0, .p (iV a0)), (1, .p (iV a1))] ?_
 unfold impl_lowest at h
 refine k_sreg (r_gq [(0, .p (iV a0)), (1, .p (iV a1)), (4, .box [rI 0, rI 0])] [] trivial) ?_
 replace h := bs h
 obtain ⟨v1, hv1, h⟩ := h
 refine k_sreg (r_gq [(0, .p (iV a0)), (1, .p (iV a1)), (4, .box [rI 0, rI 0]), (6, .p (iV v1))] [(2, {call := some (none, [.p (iV v1)], true)})] (A1 (wk_impl_greatestDivisor hv1))) ?_
 refine k_join (J := fun (x : Int) => [(0, .p (iV a0)), (1, .p (iV a1)), (4, .box [rI 0, rI 0]), (6, .p (iV x))]) (K := fun x => impl_lowest_k1 a0 a1 x = some r) (fun x2 h => ?_) ?_
 ·unfold impl_lowest_k1 at h
  replace h := bs h
  obtain ⟨u3, hu3, h⟩ := h
  refine k_sreg (r_dq Tryz_mixed 8 [] [(4, .box [rI 0, rI 0]), (7, .box [rI (w64 (Int.tdiv a0 x2)), rI (w64 (Int.tdiv a1 x2))])] [] (A2 (guardO_some hu3) (guardO_some hu3))) ?_
  refine k_seq ?_
  replace h := bs h
  obtain ⟨v4, hv4, h⟩ := h
  refine k_sreg (r_gq [(4, .box [rI 0, rI 0]), (7, .box [rI (w64 (Int.tdiv a0 x2)), rI (w64 (Int.tdiv a1 x2))]), (24, .p (.bool (!v4)))] [(1, {call := some (none, [.p (.bool v4)], true)})] (A1 (wk_impl_isRat hv4))) ?_
  refine kc (!v4) (fun hc2_4 => ?_) (fun hc2_4 => ?_)
  ·replace h := ite_t hc2_4 h
   refine k_sreg (r_gq [(4, .box [rI 0, rI 0]), (5, .p (.bool false))] [] trivial) ?_
   refine k_ret ?_
   refine q_r ?_
   obtain rfl := oi h
   exact er [(.p (.agg #[.int .i64 0, .int .i64 0]), 4), (.p (.bool false), 5)]
  ·replace h := ite_f hc2_4 h
   refine k_skip ?_
   refine q_n ?_
   refine k_sreg (r_gq [(4, .box [rI (w64 (Int.tdiv a0 x2)), rI (w64 (Int.tdiv a1 x2))]), (5, .p (.bool true))] [] trivial) ?_
   refine k_ret ?_
   obtain rfl := oi h
   exact er [(.p (.agg #[.int .i64 (w64 (Int.tdiv a0 x2)), .int .i64 (w64 (Int.tdiv a1 x2))]), 4), (.p (.bool true), 5)]
 ·refine k_sreg (r_gq [(0, .p (iV a0)), (1, .p (iV a1)), (4, .box [rI 0, rI 0]), (6, .p (iV v1)), (12, .p (.bool (decide (a1 < 0))))] [] trivial) ?_
  refine kc (decide (a1 < 0)) (fun hc2_5 => ?_) (fun hc2_5 => ?_)
  ·replace h := ite_t hc2_5 h
   refine k_reg (r_gq [(0, .p (iV a0)), (1, .p (iV a1)), (4, .box [rI 0, rI 0]), (6, .p (iV (w64 (0 - v1))))] [] trivial) ?_
   refine q_n ?_
   exact jx (w64 (0 - v1)) h
  ·replace h := ite_f hc2_5 h
   refine k_skip ?_
   refine q_n ?_
   exact jx v1 h
theorem wk_impl_AddRats {a0 : Qr} {a1 : Qr}  {r : (Qr × Bool)} (h : impl_AddRats a0 a1 = some r) : Meets Tryz.prog 148 [.v (vRt a0), .v (vRt a1)] { vals := [.p (vRt r.1), .p (.bool r.2)] } := by
 refine mo Tryz.func148 [(0, .p (vRt a0)), (1, .p (vRt a1))] ?_
 unfold impl_AddRats at h
 refine k_sreg (r_gq [(2, .box (eRt a0)), (3, .box (eRt a1)), (4, .box [rI 0, rI 0])] [] trivial) ?_
 refine k_seq ?_
 replace h := bs h
 obtain ⟨v1, hv1, h⟩ := h
 refine k_sreg (r_gq [(2, .box (eRt a0)), (3, .box (eRt a1)), (4, .box [rI 0, rI 0]), (10, .p (.bool (!v1)))] [(3, {call := some (some [.d false [.sl none (([a0, a1]).map eRt)]], [.p (.bool v1)], true)})] (A2 (show ([.d false [.sl none (eraL (([a0, a1]).map eRt))]] : List Arg) = [.d false [.sl none (([a0, a1]).map eRt)]] from (by simp only [eraL_enc (h := eRt) (era_P er_I er_I)])) (wk_impl_areRats hv1))) ?_
 refine kc (!v1) (fun hc2_1 => ?_) (fun hc2_1 => ?_)
 ·replace h := ite_t hc2_1 h
  refine k_sreg (r_gq [(4, .box [rI 0, rI 0]), (5, .p (.bool false))] [] trivial) ?_
  refine k_ret ?_
  refine q_r ?_
  obtain rfl := oi h
  exact er [(.p (.agg #[.int .i64 0, .int .i64 0]), 4), (.p (.bool false), 5)]
 ·replace h := ite_f hc2_1 h
  refine k_skip ?_
  refine q_n ?_
  replace h := bs h
  obtain ⟨v3, hv3, h⟩ := h
  refine k_sreg (r_gq [(4, .box (eRt v3.1)), (5, .p (.bool v3.2))] [(16, {call := some (none, [.p (vRt v3.1), .p (.bool v3.2)], true)})] (A1 (wk_impl_lowest hv3))) ?_
  refine k_ret ?_
  obtain rfl := oi h
  exact er [(.p (vRt v3.1), 4), (.p (.bool v3.2), 5)]
theorem wk_impl_SubtractRats {a0 : Qr} {a1 : Qr}  {r : (Qr × Bool)} (h : impl_SubtractRats a0 a1 = some r) : Meets Tryz.prog 150 [.v (vRt a0), .v (vRt a1)] { vals := [.p (vRt r.1), .p (.bool r.2)] } := by
 refine mo Tryz.func150 [(0, .p (vRt a0)), (1, .p (vRt a1))] ?_
 unfold impl_SubtractRats at h
 refine k_sreg (r_gq [(2, .box (eRt a0)), (3, .box (eRt a1)), (4, .box [rI 0, rI 0])] [] trivial) ?_
 replace h := bs h
 obtain ⟨v1, hv1, h⟩ := h
 replace h := bs h
 obtain ⟨v2, hv2, h⟩ := h
 refine k_sreg (r_dq Tryz_mixed 3 [] [(4, .box (eRt v2.1)), (5, .p (.bool v2.2))] [(2, {call := some (none, [.p (vRt v1)], true)}), (3, {call := some (none, [.p (vRt v2.1), .p (.bool v2.2)], true)})] (A2 (wk_impl_negated hv1) (wk_impl_AddRats hv2))) ?_
 refine k_ret ?_
 obtain rfl := oi h
 exact er [(.p (vRt v2.1), 4), (.p (.bool v2.2), 5)]
theorem wk_impl_calc_keep {a0 : Bool} {a1 : Qr} {a2 : Bool}  {r : (Qr × Bool)} (h : impl_calc_keep a0 a1 a2 = some r) : MeetsB Tryz.prog 147 (.box [.raw (.bool a0)]) [.v (vRt a1), .v (.bool a2)] [.p (vRt r.1)] (.box [.raw (.bool r.2)]) := by
 refine mob Tryz.func147 [(0, .box [.raw (.bool a0)]), (1, .p (vRt a1)), (2, .p (.bool a2))] ?_
 unfold impl_calc_keep at h
 refine k_sreg (r_gq [(0, .box [.raw (.bool a0)]), (2, .p (.bool a2)), (4, .box (eRt a1)), (6, .box [rI 0, rI 0])] [] trivial) ?_
 refine k_seq ?_
 refine k_sreg (r_gq [(0, .box [.raw (.bool a0)]), (4, .box (eRt a1)), (6, .box [rI 0, rI 0]), (8, .p (.bool (!a2)))] [] trivial) ?_
 refine kc (!a2) (fun hc2_0 => ?_) (fun hc2_0 => ?_)
 ·replace h := ite_t hc2_0 h
  refine k_sreg (r_gq [(0, .box [.raw (.bool true)]), (6, .box [rI 0, rI 0])] [] trivial) ?_
  replace h := bs h
  obtain ⟨v2, hv2, h⟩ := h
  refine k_sreg (r_gq [(0, .box [.raw (.bool true)]), (6, .box (eRt v2))] [(0, {call := some (none, [.p (vRt v2)], true)})] (A1 (wk_impl_zero hv2))) ?_
  refine k_ret ?_
  refine q_r ?_
  obtain rfl := oi h
  exact ebr [(.p (vRt v2), 6)]
 ·replace h := ite_f hc2_0 h
  refine k_skip ?_
  refine q_n ?_
  refine k_sreg (r_gq [(0, .box [.raw (.bool a0)]), (6, .box (eRt a1))] [] trivial) ?_
  refine k_ret ?_
  obtain rfl := oi h
  exact ebr [(.p (vRt a1), 6)]
theorem wk_impl_calc_sub {a0 : Bool} {a1 : Qr} {a2 : Qr}  {r : (Qr × Bool)} (h : impl_calc_sub a0 a1 a2 = some r) : MeetsB Tryz.prog 139 (.box [.raw (.bool a0)]) [.v (vRt a1), .v (vRt a2)] [.p (vRt r.1)] (.box [.raw (.bool r.2)]) := by
 refine mob Tryz.func139 [(0, .box [.raw (.bool a0)]), (1, .p (vRt a1)), (2, .p (vRt a2))] ?_
 unfold impl_calc_sub at h
 refine k_sreg (r_gq [(0, .box [.raw (.bool a0)]), (4, .box (eRt a1)), (5, .box (eRt a2)), (6, .box [rI 0, rI 0])] [] trivial) ?_
 replace h := bs h
 obtain ⟨v1, hv1, h⟩ := h
 replace h := bs h
 obtain ⟨v2, hv2, h⟩ := h
 refine k_sreg (r_gq [(0, .box [.raw (.bool v2.2)]), (6, .box (eRt v2.1))] [(3, {call := some (none, [.p (vRt v1.1), .p (.bool v1.2)], true)}), (6, {lend := some (none, [.p (vRt v2.1)], .box [.raw (.bool v2.2)], true)})] (A2 (wk_impl_SubtractRats hv1) (wk_impl_calc_keep hv2))) ?_
 refine k_ret ?_
 obtain rfl := oi h
 exact ebr [(.p (vRt v2.1), 6)]
theorem wk_impl_DivideRats {a0 : Qr} {a1 : Qr}  {r : (Qr × Bool)} (h : impl_DivideRats a0 a1 = some r) : Meets Tryz.prog 151 [.v (vRt a0), .v (vRt a1)] { vals := [.p (vRt r.1), .p (.bool r.2)] } := by
 refine mo Tryz.func151 [(0, .p (vRt a0)), (1, .p (vRt a1))] ?_
 unfold impl_DivideRats at h
 refine k_sreg (r_gq [(2, .box (eRt a0)), (3, .box (eRt a1)), (4, .box [rI 0, rI 0])] [] trivial) ?_
 refine k_seq ?_
 replace h := bs h
 obtain ⟨v1, hv1, h⟩ := h
 refine k_sreg (l1 := [(2, .box (eRt a0)), (3, .box (eRt a1)), (4, .box [rI 0, rI 0]), (15, .p (.bool ((!v1) || (a1.1 == 0))))]) ?_ ?_
 ·rcases ft (!v1) with ha0 | ha0
  ·exact RegOk.of_eq (l2 := [(2, .box (eRt a0)), (3, .box (eRt a1)), (4, .box [rI 0, rI 0]), (15, .p (.bool ((!v1) || (a1.1 == 0))))]) (r_gq [(2, .box (eRt a0)), (3, .box (eRt a1)), (4, .box [rI 0, rI 0]), (15, .p (.bool true))] [(3, {call := some (some [.d false [.sl none (([a0, a1]).map eRt)]], [.p (.bool v1)], true)}), (6, gT), (7, gT), (8, gT), (9, bT)] (A6 (show ([.d false [.sl none (eraL (([a0, a1]).map eRt))]] : List Arg) = [.d false [.sl none (([a0, a1]).map eRt)]] from (by simp only [eraL_enc (h := eRt) (era_P er_I er_I)])) (wk_impl_areRats hv1) ha0 ha0 ha0 ha0)) (by simp [ha0])
  ·exact RegOk.of_eq (l2 := [(2, .box (eRt a0)), (3, .box (eRt a1)), (4, .box [rI 0, rI 0]), (15, .p (.bool ((!v1) || (a1.1 == 0))))]) (r_gq [(2, .box (eRt a0)), (3, .box (eRt a1)), (4, .box [rI 0, rI 0]), (15, .p (.bool (a1.1 == 0)))] [(3, {call := some (some [.d false [.sl none (([a0, a1]).map eRt)]], [.p (.bool v1)], true)}), (6, gF), (7, gF), (8, gF), (9, bF)] (A6 (show ([.d false [.sl none (eraL (([a0, a1]).map eRt))]] : List Arg) = [.d false [.sl none (([a0, a1]).map eRt)]] from (by simp only [eraL_enc (h := eRt) (era_P er_I er_I)])) (wk_impl_areRats hv1) ha0 ha0 ha0 ha0)) (by simp [ha0])
 ·refine kc ((!v1) || (a1.1 == 0)) (fun hc2_1 => ?_) (fun hc2_1 => ?_)
  ·replace h := ite_t hc2_1 h
   refine k_sreg (r_gq [(4, .box [rI 0, rI 0]), (5, .p (.bool false))] [] trivial) ?_
   refine k_ret ?_
   refine q_r ?_
   obtain rfl := oi h
   exact er [(.p (.agg #[.int .i64 0, .int .i64 0]), 4), (.p (.bool false), 5)]
  ·replace h := ite_f hc2_1 h
   refine k_skip ?_
   refine q_n ?_
   replace h := bs h
   obtain ⟨v3, hv3, h⟩ := h
   refine k_sreg (r_gq [(4, .box (eRt v3.1)), (5, .p (.bool v3.2))] [(10, {call := some (none, [.p (vRt v3.1), .p (.bool v3.2)], true)})] (A1 (wk_impl_lowest hv3))) ?_
   refine k_ret ?_
   obtain rfl := oi h
   exact er [(.p (vRt v3.1), 4), (.p (.bool v3.2), 5)]
theorem wk_impl_calc_div {a0 : Bool} {a1 : Qr} {a2 : Qr}  {r : (Qr × Bool)} (h : impl_calc_div a0 a1 a2 = some r) : MeetsB Tryz.prog 140 (.box [.raw (.bool a0)]) [.v (vRt a1), .v (vRt a2)] [.p (vRt r.1)] (.box [.raw (.bool r.2)]) := by
 refine mob Tryz.func140 [(0, .box [.raw (.bool a0)]), (1, .p (vRt a1)), (2, .p (vRt a2))] ?_
 unfold impl_calc_div at h
 refine k_sreg (r_gq [(0, .box [.raw (.bool a0)]), (4, .box (eRt a1)), (5, .box (eRt a2)), (6, .box [rI 0, rI 0])] [] trivial) ?_
 replace h := bs h
 obtain ⟨v1, hv1, h⟩ := h
 replace h := bs h
 obtain ⟨v2, hv2, h⟩ := h
 refine k_sreg (r_gq [(0, .box [.raw (.bool v2.2)]), (6, .box (eRt v2.1))] [(3, {call := some (none, [.p (vRt v1.1), .p (.bool v1.2)], true)}), (6, {lend := some (none, [.p (vRt v2.1)], .box [.raw (.bool v2.2)], true)})] (A2 (wk_impl_DivideRats hv1) (wk_impl_calc_keep hv2))) ?_
 refine k_ret ?_
 obtain rfl := oi h
 exact ebr [(.p (vRt v2.1), 6)]
theorem wk_impl_calc_slope {a0 : Bool} {a1 : Qp} {a2 : Qp}  {r : (Qr × Bool)} (h : impl_calc_slope a0 a1 a2 = some r) : MeetsB Tryz.prog 126 (.box [.raw (.bool a0)]) [.v (vPt a1), .v (vPt a2)] [.p (vRt r.1)] (.box [.raw (.bool r.2)]) := by
 refine mob Tryz.func126 [(0, .box [.raw (.bool a0)]), (1, .p (vPt a1)), (2, .p (vPt a2))] ?_
 unfold impl_calc_slope at h
 refine k_sreg (r_gq [(0, .box [.raw (.bool a0)]), (4, .box (ePt a1)), (5, .box (ePt a2)), (6, .box [rI 0, rI 0])] [] trivial) ?_
 replace h := bs h
 obtain ⟨v1, hv1, h⟩ := h
 replace h := bs h
 obtain ⟨v2, hv2, h⟩ := h
 replace h := bs h
 obtain ⟨v3, hv3, h⟩ := h
 refine k_sreg (r_dq Tryz_mixed 13 [(6, 0), (12, 0)] [(0, .box [.raw (.bool v3.2)]), (6, .box (eRt v3.1))] [(6, {lend := some (none, [.p (vRt v1.1)], .box [.raw (.bool v1.2)], true)}), (12, {lend := some (none, [.p (vRt v2.1)], .box [.raw (.bool v2.2)], true)}), (13, {lend := some (none, [.p (vRt v3.1)], .box [.raw (.bool v3.2)], true)})] (A3 (wk_impl_calc_sub hv1) (wk_impl_calc_sub hv2) (wk_impl_calc_div hv3))) ?_
 refine k_ret ?_
 obtain rfl := oi h
 exact ebr [(.p (vRt v3.1), 6)]
theorem wk_impl_slopes {a0 : (List Qp)}  {r : (List Qr)} (h : impl_slopes a0 = some r) : Meets Tryz.prog 112 [.d false [.sl none (a0.map ePt)]] { vals := [.ov false [.sl (some 23) (r.map eRt)]] } := by
 refine mo Tryz.func112 [(0, .d false [.sl none (a0.map ePt)])] ?_
 unfold impl_slopes at h
 refine k_sreg (r_gq [(0, .d false [.sl none (a0.map ePt)])] [] trivial) ?_
 refine k_sreg (r_gq [(0, .d false [.sl none (a0.map ePt)]), (3, .box [.raw (.bool false)])] [] trivial) ?_
 refine k_sreg (r_gq [(0, .d false [.sl none (a0.map ePt)]), (3, .box [.raw (.bool false)]), (4, .ov false [.sl (some 23) []])] [] trivial) ?_
 refine k_join (J := fun (x : (List Qr)) => [(4, .ov false [.sl (some 23) (x.map eRt)])]) (K := fun x => impl_slopes_k1 x = some r) (fun x1 h => ?_) ?_
 ·unfold impl_slopes_k1 at h
  refine k_sreg (r_gq [(2, .ov false [.sl (some 23) (x1.map eRt)])] [] trivial) ?_
  refine k_ret ?_
  obtain rfl := oi h
  exact er [(.ov false [.sl (some 23) (x1.map eRt)], 2)]
 ·refine k_sreg (r_gq [(0, .d false [.sl none (a0.map ePt)]), (3, .box [.raw (.bool false)]), (4, .ov false [.sl (some 23) []]), (5, .p (iV 1))] [] trivial) ?_
  refine k_block ?_
  obtain ⟨y3, hl_x2, hk_x2⟩ := bs h
  clear h
  refine k_loop (J := fun (x : (Bool × (List Qr) × Int)) => [(0, .d false [.sl none (a0.map ePt)]), (3, .box [.raw (.bool x.1)]), (4, .ov false [.sl (some 23) (x.2.1.map eRt)]), (5, .p (iV x.2.2))]) hl_x2 (wk_of (by kernel_rfl) (by kernel_rfl)) (fun x2 o_x2 h hy_x2 => ?_)
  unfold impl_slopes_b1 at h
  refine k_seq ?_
  refine k_sreg (r_gq [(0, .d false [.sl none (a0.map ePt)]), (3, .box [.raw (.bool x2.1)]), (4, .ov false [.sl (some 23) (x2.2.1.map eRt)]), (5, .p (iV x2.2.2)), (9, .p (.bool (decide (x2.2.2 < (a0.length : Int)))))] [(2, {n := some a0.length})] (A1 (show (a0.map ePt).length = a0.length from (List.length_map ..)))) ?_
  refine kc (decide (x2.2.2 < (a0.length : Int))) (fun hc5_3 => ?_) (fun hc5_3 => ?_)
  ·replace h := ite_t hc5_3 h
   refine k_skip ?_
   refine q_n ?_
   refine k_seq ?_
   refine k_block ?_
   replace h := bs h
   obtain ⟨v5, hv5, h⟩ := h
   replace h := bs h
   obtain ⟨v6, hv6, h⟩ := h
   replace h := bs h
   obtain ⟨v7, hv7, h⟩ := h
   replace h := bs h
   obtain ⟨u8, hu8, h⟩ := h
   refine k_reg (r_dq Tryz_mixed 12 [(10, 3)] [(0, .d false [.sl none (a0.map ePt)]), (3, .box [.raw (.bool v7.2)]), (4, .ov false [.sl (some 23) ((x2.2.1 ++ [v7.1]).map eRt)]), (5, .p (iV x2.2.2))] [(4, {row := some (ePt v5)}), (8, {row := some (ePt v6)}), (10, {lend := some (none, [.p (vRt v7.1)], .box [.raw (.bool v7.2)], true)}), (12, {fix := some (24, .ov false [.sl (some 23) ((x2.2.1 ++ [v7.1]).map eRt)])})] (B6 (idxO_some hv5).1 (map_get ePt (idxO_some hv5).2) (idxO_some hv6).1 (map_get ePt (idxO_some hv6).2) (wk_impl_calc_slope hv7) (show List.length ((x2.2.1.map eRt) : List (List C)) + List.length ((([v7.1]).map eRt) : List (List C)) ≤ 1099511627776 from (by have hg := (guardO_some hu8); simpa using hg)) (A2 (show ∀ row ∈ ((([v7.1]).map eRt) : List (List C)), row.length = 2 from (rows_len fun _ => rfl)) (show (SV.ov false [.sl (some 23) ((x2.2.1.map eRt) ++ (([v7.1]).map eRt))] : SV) = .ov false [.sl (some 23) ((x2.2.1 ++ [v7.1]).map eRt)] from (congrArg (fun z => SV.ov false [.sl (some 23) z]) (List.map_append ..).symm))))) ?_
   refine b_n ?_
   refine q_n ?_
   refine k_reg (r_gq [(0, .d false [.sl none (a0.map ePt)]), (3, .box [.raw (.bool v7.2)]), (4, .ov false [.sl (some 23) ((x2.2.1 ++ [v7.1]).map eRt)]), (5, .p (iV (w64 (x2.2.2 + 1))))] [] trivial) ?_
   exact lqn (v7.2, (x2.2.1 ++ [v7.1]), (w64 (x2.2.2 + 1))) h
  ·replace h := ite_f hc5_3 h
   refine k_exit ?_
   refine q_x ?_
   refine lq_x ?_
   refine b_x ?_
   have hyy := hy_x2 _ (oi h).symm
   subst hyy
   have h := hk_x2
   refine q_n ?_
   exact jx x2.2.1 h
theorem wk_slices_IndexFunc_Limpl_Rat_impl_Rat_v {a0 : (List Qr)} {a1 : (Qr → Option Bool)} {F1 : FuncId} (hp1 : ∀ x0 y, a1 x0 = some y → Meets Tryz.prog F1 ([.v (vRt x0)] ++ []) { vals := [.p (.bool y)] }) {r : Int} (h : slices_IndexFunc_Limpl_Rat_impl_Rat a0 a1 = some r) : Meets Tryz.prog 131 [.d false [.sl none (a0.map eRt)], .v (.func (.func F1) #[] #[])] { vals := [.p (iV r)] } := by
 refine mo Tryz.func131 [(0, .d false [.sl none (a0.map eRt)]), (1, .p (.func (.func F1) #[] #[]))] ?_
 unfold slices_IndexFunc_Limpl_Rat_impl_Rat at h
 refine k_sreg (r_gq [(0, .d false [.sl none (a0.map eRt)]), (1, .p (.func (.func F1) #[] #[]))] [] trivial) ?_
 refine k_join (J := fun (x : Unit) => []) (K := fun x => slices_IndexFunc_Limpl_Rat_impl_Rat_k1 x = some r) (fun x1 h => ?_) ?_
 ·unfold slices_IndexFunc_Limpl_Rat_impl_Rat_k1 at h
  refine k_sreg (r_gq [(4, .p (iV (-1)))] [] trivial) ?_
  refine k_ret ?_
  obtain rfl := oi h
  exact er [(.p (iV (-1)), 4)]
 ·refine k_sreg (r_gq [(0, .d false [.sl none (a0.map eRt)]), (1, .p (.func (.func F1) #[] #[])), (7, .p (iV (a0.length : Int))), (8, .p (iV 0))] [(1, {n := some a0.length})] (A1 (show (a0.map eRt).length = a0.length from (List.length_map ..)))) ?_
  refine k_block ?_
  obtain ⟨y3, hl_x2, hk_x2⟩ := bs h
  clear h
  refine k_loop (J := fun (x : Int) => [(0, .d false [.sl none (a0.map eRt)]), (1, .p (.func (.func F1) #[] #[])), (7, .p (iV (a0.length : Int))), (8, .p (iV x))]) hl_x2 (wk_of (by kernel_rfl) (by kernel_rfl)) (fun x2 o_x2 h hy_x2 => ?_)
  unfold slices_IndexFunc_Limpl_Rat_impl_Rat_b1 at h
  refine k_sreg (r_gq [(0, .d false [.sl none (a0.map eRt)]), (1, .p (.func (.func F1) #[] #[])), (7, .p (iV (a0.length : Int))), (8, .p (iV x2)), (9, .p (.bool (decide (x2 < (a0.length : Int)))))] [] trivial) ?_
  refine k_seq ?_
  refine kc (decide (x2 < (a0.length : Int))) (fun hc5_3 => ?_) (fun hc5_3 => ?_)
  ·replace h := ite_t hc5_3 h
   refine k_skip ?_
   refine q_n ?_
   refine k_seq ?_
   refine k_block ?_
   refine k_sreg (r_gq [(0, .d false [.sl none (a0.map eRt)]), (1, .p (.func (.func F1) #[] #[])), (5, .p (iV x2)), (7, .p (iV (a0.length : Int))), (8, .p (iV x2))] [] trivial) ?_
   replace h := bs h
   obtain ⟨v5, hv5, h⟩ := h
   replace h := bs h
   obtain ⟨v6, hv6, h⟩ := h
   refine k_sreg (r_gq [(0, .d false [.sl none (a0.map eRt)]), (1, .p (.func (.func F1) #[] #[])), (5, .p (iV x2)), (7, .p (iV (a0.length : Int))), (8, .p (iV x2)), (16, .p (.bool v6))] [(3, {row := some (eRt v5)}), (5, {call := some (none, [.p (.bool v6)], true)})] (A3 (idxO_some hv5).1 (map_get eRt (idxO_some hv5).2) (hp1 _ _ hv6))) ?_
   refine kc v6 (fun hc6_6 => ?_) (fun hc6_6 => ?_)
   ·replace h := ite_t hc6_6 h
    refine k_sreg (r_gq [(4, .p (iV x2))] [] trivial) ?_
    refine k_ret ?_
    refine b_r ?_
    refine q_r ?_
    refine lq_r ?_
    refine b_r ?_
    refine q_r ?_
    have hyy := hy_x2 _ (oi h).symm
    subst hyy
    have h := hk_x2
    dsimp only [Sum.elim] at h
    obtain rfl := oi h
    exact er [(.p (iV x2), 4)]
   ·replace h := ite_f hc6_6 h
    refine k_skip ?_
    refine b_n ?_
    refine q_n ?_
    refine k_reg (r_gq [(0, .d false [.sl none (a0.map eRt)]), (1, .p (.func (.func F1) #[] #[])), (7, .p (iV (a0.length : Int))), (8, .p (iV (w64 (x2 + 1))))] [] trivial) ?_
    exact lqn (w64 (x2 + 1)) h
  ·replace h := ite_f hc5_3 h
   refine k_exit ?_
   refine q_x ?_
   refine lq_x ?_
   refine b_x ?_
   have hyy := hy_x2 _ (oi h).symm
   subst hyy
   have h := hk_x2
   dsimp only [Sum.elim] at h
   refine q_n ?_
   exact jx () h
theorem wk_slices_ContainsFunc_Limpl_Rat_impl_Rat_v {a0 : (List Qr)} {a1 : (Qr → Option Bool)} {F1 : FuncId} (hp1 : ∀ x0 y, a1 x0 = some y → Meets Tryz.prog F1 ([.v (vRt x0)] ++ []) { vals := [.p (.bool y)] }) {r : Bool} (h : slices_ContainsFunc_Limpl_Rat_impl_Rat a0 a1 = some r) : Meets Tryz.prog 115 [.d false [.sl none (a0.map eRt)], .v (.func (.func F1) #[] #[])] { vals := [.p (.bool r)] } := by
 refine mo Tryz.func115 [(0, .d false [.sl none (a0.map eRt)]), (1, .p (.func (.func F1) #[] #[]))] ?_
 unfold slices_ContainsFunc_Limpl_Rat_impl_Rat at h
 refine k_sreg (r_gq [(0, .d false [.sl none (a0.map eRt)]), (1, .p (.func (.func F1) #[] #[]))] [] trivial) ?_
 replace h := bs h
 obtain ⟨v1, hv1, h⟩ := h
 refine k_sreg (r_gq [(4, .p (.bool (decide (v1 ≥ 0))))] [(2, {call := some (none, [.p (iV v1)], true)})] (A1 (show Meets Tryz.prog 131 ([.d false [.sl none (a0.map eRt)], .v (.func (.func F1) #[] #[])] ++ []) { vals := [.p (iV v1)] } from (wk_slices_IndexFunc_Limpl_Rat_impl_Rat_v hp1 hv1)))) ?_
 refine k_ret ?_
 obtain rfl := oi h
 exact er [(.p (.bool (decide (v1 ≥ 0))), 4)]
theorem wk_impl_isLapMap_1 {a0 : Qr}  {r : Bool} (h : impl_isLapMap_1 a0 = some r) : Meets Tryz.prog 116 [.v (vRt a0)] { vals := [.p (.bool r)] } := by
 refine mo Tryz.func116 [(0, .p (vRt a0))] ?_
 unfold impl_isLapMap_1 at h
 refine k_sreg (r_gq [(1, .box (eRt a0))] [] trivial) ?_
 refine k_sreg (r_gq [(2, .p (.bool (a0.1 == 0)))] [] trivial) ?_
 refine k_ret ?_
 obtain rfl := oi h
 exact er [(.p (.bool (a0.1 == 0)), 2)]
theorem wk_impl_isLapMap {a0 : (List Qp)}  {r : Bool} (h : impl_isLapMap a0 = some r) : Meets Tryz.prog 89 [.d false [.sl none (a0.map ePt)]] { vals := [.p (.bool r)] } := by
 refine mo Tryz.func89 [(0, .d false [.sl none (a0.map ePt)])] ?_
 unfold impl_isLapMap at h
 refine k_sreg (r_gq [(0, .d false [.sl none (a0.map ePt)])] [] trivial) ?_
 replace h := bs h
 obtain ⟨v1, hv1, h⟩ := h
 replace h := bs h
 obtain ⟨w4, hw4, h⟩ := h
 refine k_sreg (l1 := [(2, .p (.bool w4))]) ?_ ?_
 ·clear h
  rcases ft v1 with ha0 | ha0
  ·replace hw4 := ite_t ha0 hw4
   replace hw4 := bs hw4
   obtain ⟨v2, hv2, hw4⟩ := hw4
   replace hw4 := bs hw4
   obtain ⟨v3, hv3, hw4⟩ := hw4
   have hw4 := oi hw4
   subst hw4
   exact (r_gq [(2, .p (.bool (!v3)))] [(1, {call := some (none, [.p (.bool v1)], true)}), (3, gT), (4, {g := some true, call := some (none, [.ov false [.sl (some 23) (v2.map eRt)]], true)}), (5, {g := some true, call := some (some [.d false [.sl none (v2.map eRt)], .v (.func (.func 116) #[] #[])], [.p (.bool v3)], true)}), (6, gT), (7, bT)] (B6 (wk_impl_isMap hv1) ha0 ha0 (wk_impl_slopes hv2) (show List.all [.ov false [.sl (some 23) (v2.map eRt)]] simpleR = true from (sa_o (wnR1 (wnL_enc (wn_P wn_I wn_I)) rfl) rfl)) ha0 (A4 (show ([.d false [.sl none (eraL (v2.map eRt))], .v (.func (.func 116) #[] #[])] : List Arg) = [.d false [.sl none (v2.map eRt)], .v (.func (.func 116) #[] #[])] from (by simp only [eraL_enc (h := eRt) (era_P er_I er_I)])) (show Meets Tryz.prog 115 ([.d false [.sl none (v2.map eRt)], .v (.func (.func 116) #[] #[])] ++ []) { vals := [.p (.bool v3)] } from (wk_slices_ContainsFunc_Limpl_Rat_impl_Rat_v (fun x0 y hy => wk_impl_isLapMap_1 hy) hv3)) ha0 ha0)))
  ·replace hw4 := ite_f ha0 hw4
   have hw4 := oi hw4
   subst hw4
   exact (r_gq [(2, .p (.bool false))] [(1, {call := some (none, [.p (.bool v1)], true)}), (3, gF), (4, gF), (5, gF), (6, gF), (7, bF)] (A6 (wk_impl_isMap hv1) ha0 ha0 ha0 ha0 ha0))
 ·refine k_ret ?_
  obtain rfl := oi h
  exact er [(.p (.bool w4), 2)]
theorem wk_impl_isStrict {a0 : (List Qp)}  {r : Bool} (h : impl_isStrict a0 = some r) : Meets Tryz.prog 51 [.d false [.sl none (a0.map ePt)]] { vals := [.p (.bool r)] } := by
 refine mo Tryz.func51 [(0, .d false [.sl none (a0.map ePt)])] ?_
 unfold impl_isStrict at h
 refine k_sreg (r_gq [(0, .d false [.sl none (a0.map ePt)])] [] trivial) ?_
 replace h := bs h
 obtain ⟨v1, hv1, h⟩ := h
 refine k_sreg (r_gq [(2, .p (.bool v1))] [(1, {call := some (none, [.p (.bool v1)], true)})] (A1 (wk_impl_isLapMap hv1))) ?_
 refine k_ret ?_
 obtain rfl := oi h
 exact er [(.p (.bool v1), 2)]
theorem wk_impl_sign {a0 : Qr}  {r : Int} (h : impl_sign a0 = some r) : Meets Tryz.prog 113 [.v (vRt a0)] { vals := [.p (iV r)] } := by
 refine mo Tryz.func113 [(0, .p (vRt a0))] ?_
 unfold impl_sign at h
 refine k_sreg (r_gq [(1, .box (eRt a0))] [] trivial) ?_
 replace h := bs h
 obtain ⟨v1, hv1, h⟩ := h
 replace h := bs h
 obtain ⟨v2, hv2, h⟩ := h
 refine k_sreg (r_dq Tryz_mixed 2 [] [(2, .p (iV v2))] [(1, {call := some (none, [.p (vRt v1)], true)}), (2, {call := some (none, [.p (iV v2)], true)})] (A2 (wk_impl_zero hv1) (wk_impl_compare hv2))) ?_
 refine k_ret ?_
 obtain rfl := oi h
 exact er [(.p (iV v2), 2)]
theorem wk_impl_laps {a0 : (List Qp)}  {r : (List (List Int))} (h : impl_laps a0 = some r) : Meets Tryz.prog 87 [.d false [.sl none (a0.map ePt)]] { vals := [.ov false [.sl (some 60) (r.map (eO 3 eI))]] } := by
 refine mo Tryz.func87 [(0, .d false [.sl none (a0.map ePt)])] ?_
 unfold impl_laps at h
 refine k_sreg (r_gq [(0, .d false [.sl none (a0.map ePt)])] [] trivial) ?_
 refine k_sreg (r_gq [(0, .d false [.sl none (a0.map ePt)]), (3, .ov false [.sl (some 60) []])] [] trivial) ?_
 refine k_join (J := fun (x : (List (List Int))) => [(3, .ov false [.sl (some 60) (x.map (eO 3 eI))])]) (K := fun x => impl_laps_k1 x = some r) (fun x1 h => ?_) ?_
 ·unfold impl_laps_k1 at h
  refine k_sreg (r_gq [(2, .ov false [.sl (some 60) (x1.map (eO 3 eI))])] [] trivial) ?_
  refine k_ret ?_
  obtain rfl := oi h
  exact er [(.ov false [.sl (some 60) (x1.map (eO 3 eI))], 2)]
 ·replace h := bs h
  obtain ⟨v2, hv2, h⟩ := h
  refine k_sreg (r_gq [(3, .ov false [.sl (some 60) []]), (8, .ov false [.sl (some 23) (v2.map eRt)]), (9, .p (iV (v2.length : Int))), (10, .p (iV 0))] [(1, {call := some (none, [.ov false [.sl (some 23) (v2.map eRt)]], true)}), (2, {n := some v2.length})] (A3 (wk_impl_slopes hv2) (show List.all [.ov false [.sl (some 23) (v2.map eRt)]] simpleR = true from (sa_o (wnR1 (wnL_enc (wn_P wn_I wn_I)) rfl) rfl)) (show (v2.map eRt).length = v2.length from (List.length_map ..)))) ?_
  refine k_block ?_
  obtain ⟨y4, hl_x3, hk_x3⟩ := bs h
  clear h
  refine k_loop (J := fun (x : ((List (List Int)) × Int)) => [(3, .ov false [.sl (some 60) (x.1.map (eO 3 eI))]), (8, .ov false [.sl (some 23) (v2.map eRt)]), (9, .p (iV (v2.length : Int))), (10, .p (iV x.2))]) hl_x3 (wk_of (by kernel_rfl) (by kernel_rfl)) (fun x3 o_x3 h hy_x3 => ?_)
  unfold impl_laps_b1 at h
  refine k_sreg (r_gq [(3, .ov false [.sl (some 60) (x3.1.map (eO 3 eI))]), (8, .ov false [.sl (some 23) (v2.map eRt)]), (9, .p (iV (v2.length : Int))), (10, .p (iV x3.2)), (11, .p (.bool (decide (x3.2 < (v2.length : Int)))))] [] trivial) ?_
  refine k_seq ?_
  refine kc (decide (x3.2 < (v2.length : Int))) (fun hc5_4 => ?_) (fun hc5_4 => ?_)
  ·replace h := ite_t hc5_4 h
   refine k_skip ?_
   refine q_n ?_
   refine k_seq ?_
   refine k_block ?_
   replace h := bs h
   obtain ⟨v6, hv6, h⟩ := h
   refine k_sreg (r_gq [(3, .ov false [.sl (some 60) (x3.1.map (eO 3 eI))]), (4, .p (iV x3.2)), (5, .box (eRt v6)), (8, .ov false [.sl (some 23) (v2.map eRt)]), (9, .p (iV (v2.length : Int))), (10, .p (iV x3.2))] [(1, {row := some (eRt v6)}), (2, {row := some (eRt v6)})] (A3 (idxO_some hv6).1 (map_get eRt (idxO_some hv6).2) (show getRow [[.sl (some 23) (v2.map eRt)]] [(0, 0), ((Int.toNat x3.2), 0)] = some (eRt v6) from ((gr0 rfl).trans (gre (map_get eRt (idxO_some hv6).2)))))) ?_
   refine k_sreg (r_gq [(3, .ov false [.sl (some 60) (x3.1.map (eO 3 eI))]), (4, .p (iV x3.2)), (5, .box (eRt v6)), (6, .p (iV (w64 ((x3.1.length : Int) - 1)))), (8, .ov false [.sl (some 23) (v2.map eRt)]), (9, .p (iV (v2.length : Int))), (10, .p (iV x3.2))] [(1, {n := some x3.1.length})] (A1 (show (x3.1.map (eO 3 eI)).length = x3.1.length from (List.length_map ..)))) ?_
   replace h := bs h
   obtain ⟨w10, hw10, h⟩ := h
   refine k_sreg (l1 := [(3, .ov false [.sl (some 60) (x3.1.map (eO 3 eI))]), (4, .p (iV x3.2)), (5, .box (eRt v6)), (6, .p (iV (w64 ((x3.1.length : Int) - 1)))), (8, .ov false [.sl (some 23) (v2.map eRt)]), (9, .p (iV (v2.length : Int))), (10, .p (iV x3.2)), (30, .p (.bool w10))]) ?_ ?_
   ·clear h
    rcases ft (decide ((w64 ((x3.1.length : Int) - 1)) ≥ 0)) with ha1 | ha1
    ·replace hw10 := ite_t ha1 hw10
     replace hw10 := bs hw10
     obtain ⟨v7, hv7, hw10⟩ := hw10
     replace hw10 := bs hw10
     obtain ⟨v8, hv8, hw10⟩ := hw10
     replace hw10 := bs hw10
     obtain ⟨v9, hv9, hw10⟩ := hw10
     have hw10 := oi hw10
     subst hw10
     exact (r_dq Tryz_mixed 11 [] [(3, .ov false [.sl (some 60) (x3.1.map (eO 3 eI))]), (4, .p (iV x3.2)), (5, .box (eRt v6)), (6, .p (iV (w64 ((x3.1.length : Int) - 1)))), (8, .ov false [.sl (some 23) (v2.map eRt)]), (9, .p (iV (v2.length : Int))), (10, .p (iV x3.2)), (30, .p (.bool (v8 == v9)))] [(3, gT), (4, gT), (5, {g := some true, row := some [.sl (some 3) (v7.map eI)]}), (6, {g := some true, row := some [.sl (some 3) (v7.map eI)]}), (7, {g := some true, deep := some [.sl (some 3) (v7.map eI)], row := some (eI v8)}), (8, {g := some true, row := some (eI v8)}), (9, gT), (10, {g := some true, call := some (none, [.p (iV v9)], true)}), (11, gT), (12, bT)] (B6 ha1 ha1 ha1 (idxO_some hv7).1 (map_get (eO 3 eI) (idxO_some hv7).2) ha1 (B6 (show frR [.sl (some 3) (v7.map eI)] = false from rfl) (show getRow [[.sl (some 60) (x3.1.map (eO 3 eI))]] [(0, 0), ((Int.toNat (w64 ((x3.1.length : Int) - 1))), 0)] = some [.sl (some 3) (v7.map eI)] from ((gr0 rfl).trans (gre (map_get (eO 3 eI) (idxO_some hv7).2)))) ha1 (idxO_some hv8).1 (map_get eI (idxO_some hv8).2) (show getRow [[.sl (some 60) (x3.1.map (eO 3 eI))]] [(0, 0), ((Int.toNat (w64 ((x3.1.length : Int) - 1))), 0)] = some [.sl (some 3) (v7.map eI)] from ((gr0 rfl).trans (gre (map_get (eO 3 eI) (idxO_some hv7).2)))) (B6 ha1 (show getRow [[.sl (some 60) (x3.1.map (eO 3 eI))]] [(0, 0), ((Int.toNat (w64 ((x3.1.length : Int) - 1))), 0), ((Int.toNat 2), 0)] = some (eI v8) from ((gr0 rfl).trans ((grs (map_get (eO 3 eI) (idxO_some hv7).2) rfl).trans (gre (map_get eI (idxO_some hv8).2))))) ha1 ha1 (wk_impl_sign hv9) ha1 (A1 ha1)))))
    ·replace hw10 := ite_f ha1 hw10
     have hw10 := oi hw10
     subst hw10
     exact (r_dq Tryz_mixed 11 [] [(3, .ov false [.sl (some 60) (x3.1.map (eO 3 eI))]), (4, .p (iV x3.2)), (5, .box (eRt v6)), (6, .p (iV (w64 ((x3.1.length : Int) - 1)))), (8, .ov false [.sl (some 23) (v2.map eRt)]), (9, .p (iV (v2.length : Int))), (10, .p (iV x3.2)), (30, .p (.bool false))] [(3, gF), (4, gF), (5, gF), (6, gF), (7, gF), (8, gF), (9, gF), (10, gF), (11, gF), (12, bF)] (B6 ha1 ha1 ha1 ha1 ha1 ha1 (A4 ha1 ha1 ha1 ha1)))
   ·refine kc w10 (fun hc6_10 => ?_) (fun hc6_10 => ?_)
    ·replace h := ite_t hc6_10 h
     replace h := bs h
     obtain ⟨v12, hv12, h⟩ := h
     replace h := bs h
     obtain ⟨v13, hv13, h⟩ := h
     refine k_reg (r_gq [(3, .ov false [.sl (some 60) ((x3.1.set (Int.toNat (w64 ((x3.1.length : Int) - 1))) (v12.set (Int.toNat 1) (w64 (x3.2 + 1)))).map (eO 3 eI))]), (8, .ov false [.sl (some 23) (v2.map eRt)]), (9, .p (iV (v2.length : Int))), (10, .p (iV x3.2))] [(2, {row := some [.sl (some 3) (v12.map eI)]}), (3, {row := some [.sl (some 3) (v12.map eI)]}), (6, {deep := some [.sl (some 3) (v12.map eI)], row := some (eI v13)}), (7, {row := some (eI v13), fix := some (3, .ov false [.sl (some 60) ((x3.1.set (Int.toNat (w64 ((x3.1.length : Int) - 1))) (v12.set (Int.toNat 1) (w64 (x3.2 + 1)))).map (eO 3 eI))])})] (B6 (idxO_some hv12).1 (map_get (eO 3 eI) (idxO_some hv12).2) (show frR [.sl (some 3) (v12.map eI)] = false from rfl) (show getRow [[.sl (some 60) (x3.1.map (eO 3 eI))]] [(0, 0), ((Int.toNat (w64 ((x3.1.length : Int) - 1))), 0)] = some [.sl (some 3) (v12.map eI)] from ((gr0 rfl).trans (gre (map_get (eO 3 eI) (idxO_some hv12).2)))) (idxO_some hv13).1 (map_get eI (idxO_some hv13).2) (A3 (show getRow [[.sl (some 60) (x3.1.map (eO 3 eI))]] [(0, 0), ((Int.toNat (w64 ((x3.1.length : Int) - 1))), 0)] = some [.sl (some 3) (v12.map eI)] from ((gr0 rfl).trans (gre (map_get (eO 3 eI) (idxO_some hv12).2)))) (show getRow [[.sl (some 60) (x3.1.map (eO 3 eI))]] [(0, 0), ((Int.toNat (w64 ((x3.1.length : Int) - 1))), 0), ((Int.toNat 1), 0)] = some (eI v13) from ((gr0 rfl).trans ((grs (map_get (eO 3 eI) (idxO_some hv12).2) rfl).trans (gre (map_get eI (idxO_some hv13).2))))) (show (SV.ov false [.sl (some 60) (setL (x3.1.map (eO 3 eI)) [((Int.toNat (w64 ((x3.1.length : Int) - 1))), 0), ((Int.toNat 1), 0)] [rI (w64 (x3.2 + 1))])] : SV) = .ov false [.sl (some 60) ((x3.1.set (Int.toNat (w64 ((x3.1.length : Int) - 1))) (v12.set (Int.toNat 1) (w64 (x3.2 + 1)))).map (eO 3 eI))] from (congrArg (fun z => SV.ov false [.sl (some 60) z]) (set2 (f := (eO 3 eI)) (y := (v12.set (Int.toNat 1) (w64 (x3.2 + 1)))) (idxO_some hv12).2 rfl (set1 (f := eI) (y := (w64 (x3.2 + 1))) (idxO_some hv13).2 rfl) rfl)))))) ?_
     refine b_n ?_
     refine q_n ?_
     refine k_reg (r_gq [(3, .ov false [.sl (some 60) ((x3.1.set (Int.toNat (w64 ((x3.1.length : Int) - 1))) (v12.set (Int.toNat 1) (w64 (x3.2 + 1)))).map (eO 3 eI))]), (8, .ov false [.sl (some 23) (v2.map eRt)]), (9, .p (iV (v2.length : Int))), (10, .p (iV (w64 (x3.2 + 1))))] [] trivial) ?_
     exact lqn ((x3.1.set (Int.toNat (w64 ((x3.1.length : Int) - 1))) (v12.set (Int.toNat 1) (w64 (x3.2 + 1)))), (w64 (x3.2 + 1))) h
    ·replace h := ite_f hc6_10 h
     replace h := bs h
     obtain ⟨v14, hv14, h⟩ := h
     replace h := bs h
     obtain ⟨u15, hu15, h⟩ := h
     refine k_reg (r_gq [(3, .ov false [.sl (some 60) ((x3.1 ++ [[x3.2, (w64 (x3.2 + 1)), v14]]).map (eO 3 eI))]), (8, .ov false [.sl (some 23) (v2.map eRt)]), (9, .p (iV (v2.length : Int))), (10, .p (iV x3.2))] [(5, {call := some (none, [.p (iV v14)], true)}), (8, {fix := some (46, .ov false [.sl (some 60) ((x3.1 ++ [[x3.2, (w64 (x3.2 + 1)), v14]]).map (eO 3 eI))])})] (A4 (wk_impl_sign hv14) (show List.length ((x3.1.map (eO 3 eI)) : List (List C)) + List.length ((([[x3.2, (w64 (x3.2 + 1)), v14]]).map (eO 3 eI)) : List (List C)) ≤ 1099511627776 from (by have hg := (guardO_some hu15); simpa using hg)) (show ∀ row ∈ ((([[x3.2, (w64 (x3.2 + 1)), v14]]).map (eO 3 eI)) : List (List C)), row.length = 1 from (rows_len fun _ => rfl)) (show (SV.ov false [.sl (some 60) ((x3.1.map (eO 3 eI)) ++ (([[x3.2, (w64 (x3.2 + 1)), v14]]).map (eO 3 eI)))] : SV) = .ov false [.sl (some 60) ((x3.1 ++ [[x3.2, (w64 (x3.2 + 1)), v14]]).map (eO 3 eI))] from (congrArg (fun z => SV.ov false [.sl (some 60) z]) (List.map_append ..).symm)))) ?_
     refine b_n ?_
     refine q_n ?_
     refine k_reg (r_gq [(3, .ov false [.sl (some 60) ((x3.1 ++ [[x3.2, (w64 (x3.2 + 1)), v14]]).map (eO 3 eI))]), (8, .ov false [.sl (some 23) (v2.map eRt)]), (9, .p (iV (v2.length : Int))), (10, .p (iV (w64 (x3.2 + 1))))] [] trivial) ?_
     exact lqn ((x3.1 ++ [[x3.2, (w64 (x3.2 + 1)), v14]]), (w64 (x3.2 + 1))) h
  ·replace h := ite_f hc5_4 h
   refine k_exit ?_
   refine q_x ?_
   refine lq_x ?_
   refine b_x ?_
   have hyy := hy_x3 _ (oi h).symm
   subst hyy
   have h := hk_x3
   refine q_n ?_
   exact jx x3.1 h
theorem wk_impl_isUnimodal {a0 : (List Qp)}  {r : Bool} (h : impl_isUnimodal a0 = some r) : Meets Tryz.prog 52 [.d false [.sl none (a0.map ePt)]] { vals := [.p (.bool r)] } := by
 refine mo Tryz.func52 [(0, .d false [.sl none (a0.map ePt)])] ?_
 unfold impl_isUnimodal at h
 refine k_sreg (r_gq [(0, .d false [.sl none (a0.map ePt)])] [] trivial) ?_
 refine k_seq ?_
 replace h := bs h
 obtain ⟨v1, hv1, h⟩ := h
 refine k_sreg (r_gq [(0, .d false [.sl none (a0.map ePt)]), (6, .p (.bool (!v1)))] [(1, {call := some (none, [.p (.bool v1)], true)})] (A1 (wk_impl_isStrict hv1))) ?_
 refine kc (!v1) (fun hc2_1 => ?_) (fun hc2_1 => ?_)
 ·replace h := ite_t hc2_1 h
  refine k_sreg (r_gq [(2, .p (.bool false))] [] trivial) ?_
  refine k_ret ?_
  refine q_r ?_
  obtain rfl := oi h
  exact er [(.p (.bool false), 2)]
 ·replace h := ite_f hc2_1 h
  refine k_skip ?_
  refine q_n ?_
  replace h := bs h
  obtain ⟨v3, hv3, h⟩ := h
  refine k_sreg (r_gq [(3, .ov false [.sl (some 60) (v3.map (eO 3 eI))])] [(1, {call := some (none, [.ov false [.sl (some 60) (v3.map (eO 3 eI))]], true)})] (A2 (wk_impl_laps hv3) (show List.all [.ov false [.sl (some 60) (v3.map (eO 3 eI))]] simpleR = true from (sa_o (wnR1 (wnL_enc (wn_O wn_I)) rfl) rfl)))) ?_
  replace h := bs h
  obtain ⟨w6, hw6, h⟩ := h
  refine k_sreg (l1 := [(2, .p (.bool w6))]) ?_ ?_
  ·clear h
   rcases ft ((v3.length : Int) == 2) with ha1 | ha1
   ·replace hw6 := ite_t ha1 hw6
    replace hw6 := bs hw6
    obtain ⟨v4, hv4, hw6⟩ := hw6
    replace hw6 := bs hw6
    obtain ⟨v5, hv5, hw6⟩ := hw6
    have hw6 := oi hw6
    subst hw6
    exact (r_gq [(2, .p (.bool (v5 == 1)))] [(1, {n := some v3.length}), (4, gT), (5, {g := some true, row := some [.sl (some 3) (v4.map eI)]}), (6, {g := some true, row := some [.sl (some 3) (v4.map eI)]}), (7, {g := some true, deep := some [.sl (some 3) (v4.map eI)], row := some (eI v5)}), (8, {g := some true, row := some (eI v5)}), (9, gT), (10, bT)] (B6 (show (v3.map (eO 3 eI)).length = v3.length from (List.length_map ..)) ha1 ha1 (idxO_some hv4).1 (map_get (eO 3 eI) (idxO_some hv4).2) ha1 (B6 (show frR [.sl (some 3) (v4.map eI)] = false from rfl) (show getRow [[.sl (some 60) (v3.map (eO 3 eI))]] [(0, 0), ((Int.toNat 0), 0)] = some [.sl (some 3) (v4.map eI)] from ((gr0 rfl).trans (gre (map_get (eO 3 eI) (idxO_some hv4).2)))) ha1 (idxO_some hv5).1 (map_get eI (idxO_some hv5).2) (show getRow [[.sl (some 60) (v3.map (eO 3 eI))]] [(0, 0), ((Int.toNat 0), 0)] = some [.sl (some 3) (v4.map eI)] from ((gr0 rfl).trans (gre (map_get (eO 3 eI) (idxO_some hv4).2)))) (A4 ha1 (show getRow [[.sl (some 60) (v3.map (eO 3 eI))]] [(0, 0), ((Int.toNat 0), 0), ((Int.toNat 2), 0)] = some (eI v5) from ((gr0 rfl).trans ((grs (map_get (eO 3 eI) (idxO_some hv4).2) rfl).trans (gre (map_get eI (idxO_some hv5).2))))) ha1 ha1))))
   ·replace hw6 := ite_f ha1 hw6
    have hw6 := oi hw6
    subst hw6
    exact (r_gq [(2, .p (.bool false))] [(1, {n := some v3.length}), (4, gF), (5, gF), (6, gF), (7, gF), (8, gF), (9, gF), (10, bF)] (B6 (show (v3.map (eO 3 eI)).length = v3.length from (List.length_map ..)) ha1 ha1 ha1 ha1 ha1 (A2 ha1 ha1)))
  ·refine k_ret ?_
   obtain rfl := oi h
   exact er [(.p (.bool w6), 2)]
theorem wk_impl_turns {a0 : (List Qp)}  {r : (List Qr)} (h : impl_turns a0 = some r) : Meets Tryz.prog 47 [.d false [.sl none (a0.map ePt)]] { vals := [.ov false [.sl (some 23) (r.map eRt)]] } := by
 refine mo Tryz.func47 [(0, .d false [.sl none (a0.map ePt)])] ?_
 unfold impl_turns at h
 refine k_sreg (r_gq [(0, .d false [.sl none (a0.map ePt)])] [] trivial) ?_
 refine k_sreg (r_gq [(0, .d false [.sl none (a0.map ePt)]), (3, .ov false [.sl (some 23) []])] [] trivial) ?_
 refine k_join (J := fun (x : (List Qr)) => [(3, .ov false [.sl (some 23) (x.map eRt)])]) (K := fun x => impl_turns_k1 x = some r) (fun x1 h => ?_) ?_
 ·unfold impl_turns_k1 at h
  refine k_sreg (r_gq [(2, .ov false [.sl (some 23) (x1.map eRt)])] [] trivial) ?_
  refine k_ret ?_
  obtain rfl := oi h
  exact er [(.ov false [.sl (some 23) (x1.map eRt)], 2)]
 ·replace h := bs h
  obtain ⟨v2, hv2, h⟩ := h
  replace h := bs h
  obtain ⟨u3, hu3, h⟩ := h
  refine k_sreg (r_gq [(0, .d false [.sl none (a0.map ePt)]), (3, .ov false [.sl (some 23) []]), (8, .d false [.sl none ((v2.drop (Int.toNat 1)).map (eF eI))]), (9, .p (iV ((v2.drop (Int.toNat 1)).length : Int))), (10, .p (iV 0))] [(1, {call := some (none, [.ov false [.sl (some 60) (v2.map (eO 3 eI))]], true)}), (2, {pre := some (7, .d false [.sl none (v2.map (eF eI))]), fix := some (8, .d false [.sl none ((v2.drop (Int.toNat 1)).map (eF eI))])}), (3, {n := some (v2.drop (Int.toNat 1)).length})] (B6 (wk_impl_laps hv2) (show List.all [.ov false [.sl (some 60) (v2.map (eO 3 eI))]] simpleR = true from (sa_o (wnR1 (wnL_enc (wn_O wn_I)) rfl) rfl)) (show (SV.d false (eraR [.sl (some 60) (v2.map (eO 3 eI))]) : SV) = .d false [.sl none (v2.map (eF eI))] from (congrArg (fun z => SV.d false z) (erc_sl (eraL_enc (era_O er_I)) rfl))) (show (Int.toNat 1) ≤ (v2.map (eF eI)).length from (by have hg := (guardO_some hu3); first | (simp only [List.length_map]; omega) | omega)) (show (v2.map (eF eI)).length ≤ (v2.map (eF eI)).length from (Nat.le_refl _)) (show ∀ row ∈ (v2.map (eF eI)), row.length = 1 from (rows_len fun _ => rfl)) (A3 (show (0 : Int) ≤ 1 from (by have hg := (guardO_some hu3); omega)) (show (SV.d false [.sl none (((v2.map (eF eI)).take (v2.map (eF eI)).length).drop (Int.toNat 1))] : SV) = .d false [.sl none ((v2.drop (Int.toNat 1)).map (eF eI))] from (congrArg (fun z => SV.d false [.sl none z]) sl_lo)) (show ((v2.drop (Int.toNat 1)).map (eF eI)).length = (v2.drop (Int.toNat 1)).length from (List.length_map ..))))) ?_
  refine k_block ?_
  obtain ⟨y5, hl_x4, hk_x4⟩ := bs h
  clear h
  refine k_loop (J := fun (x : ((List Qr) × Int)) => [(0, .d false [.sl none (a0.map ePt)]), (3, .ov false [.sl (some 23) (x.1.map eRt)]), (8, .d false [.sl none ((v2.drop (Int.toNat 1)).map (eF eI))]), (9, .p (iV ((v2.drop (Int.toNat 1)).length : Int))), (10, .p (iV x.2))]) hl_x4 (wk_of (by kernel_rfl) (by kernel_rfl)) (fun x4 o_x4 h hy_x4 => ?_)
  unfold impl_turns_b1 at h
  refine k_sreg (r_gq [(0, .d false [.sl none (a0.map ePt)]), (3, .ov false [.sl (some 23) (x4.1.map eRt)]), (8, .d false [.sl none ((v2.drop (Int.toNat 1)).map (eF eI))]), (9, .p (iV ((v2.drop (Int.toNat 1)).length : Int))), (10, .p (iV x4.2)), (11, .p (.bool (decide (x4.2 < ((v2.drop (Int.toNat 1)).length : Int)))))] [] trivial) ?_
  refine k_seq ?_
  refine kc (decide (x4.2 < ((v2.drop (Int.toNat 1)).length : Int))) (fun hc5_5 => ?_) (fun hc5_5 => ?_)
  ·replace h := ite_t hc5_5 h
   refine k_skip ?_
   refine q_n ?_
   refine k_seq ?_
   refine k_block ?_
   replace h := bs h
   obtain ⟨v7, hv7, h⟩ := h
   refine k_sreg (r_gq [(0, .d false [.sl none (a0.map ePt)]), (3, .ov false [.sl (some 23) (x4.1.map eRt)]), (5, .d false [.sl none (v7.map eI)]), (8, .d false [.sl none ((v2.drop (Int.toNat 1)).map (eF eI))]), (9, .p (iV ((v2.drop (Int.toNat 1)).length : Int))), (10, .p (iV x4.2))] [(0, {row := some [.sl none (v7.map eI)]})] (A2 (idxO_some hv7).1 (map_get (eF eI) (idxO_some hv7).2))) ?_
   replace h := bs h
   obtain ⟨v8, hv8, h⟩ := h
   replace h := bs h
   obtain ⟨v9, hv9, h⟩ := h
   replace h := bs h
   obtain ⟨u10, hu10, h⟩ := h
   refine k_reg (r_gq [(0, .d false [.sl none (a0.map ePt)]), (3, .ov false [.sl (some 23) ((x4.1 ++ [v9.1]).map eRt)]), (8, .d false [.sl none ((v2.drop (Int.toNat 1)).map (eF eI))]), (9, .p (iV ((v2.drop (Int.toNat 1)).length : Int))), (10, .p (iV x4.2))] [(3, {row := some (eI v8)}), (5, {row := some (ePt v9)}), (9, {fix := some (23, .ov false [.sl (some 23) ((x4.1 ++ [v9.1]).map eRt)])})] (B6 (idxO_some hv8).1 (map_get eI (idxO_some hv8).2) (idxO_some hv9).1 (map_get ePt (idxO_some hv9).2) (show List.length ((x4.1.map eRt) : List (List C)) + List.length ((([v9.1]).map eRt) : List (List C)) ≤ 1099511627776 from (by have hg := (guardO_some hu10); simpa using hg)) (show ∀ row ∈ ((([v9.1]).map eRt) : List (List C)), row.length = 2 from (rows_len fun _ => rfl)) (A1 (show (SV.ov false [.sl (some 23) ((x4.1.map eRt) ++ (([v9.1]).map eRt))] : SV) = .ov false [.sl (some 23) ((x4.1 ++ [v9.1]).map eRt)] from (congrArg (fun z => SV.ov false [.sl (some 23) z]) (List.map_append ..).symm))))) ?_
   refine b_n ?_
   refine q_n ?_
   refine k_reg (r_gq [(0, .d false [.sl none (a0.map ePt)]), (3, .ov false [.sl (some 23) ((x4.1 ++ [v9.1]).map eRt)]), (8, .d false [.sl none ((v2.drop (Int.toNat 1)).map (eF eI))]), (9, .p (iV ((v2.drop (Int.toNat 1)).length : Int))), (10, .p (iV (w64 (x4.2 + 1))))] [] trivial) ?_
   exact lqn ((x4.1 ++ [v9.1]), (w64 (x4.2 + 1))) h
  ·replace h := ite_f hc5_5 h
   refine k_exit ?_
   refine q_x ?_
   refine lq_x ?_
   refine b_x ?_
   have hyy := hy_x4 _ (oi h).symm
   subst hyy
   have h := hk_x4
   refine q_n ?_
   exact jx x4.1 h
theorem wk_slices_IndexFunc_Limpl_Point_impl_Point_d {a0 : (List Qp)} {a1 : (Qp → Option Bool)} {F1 : FuncId} {K1 : List (Bool × List C)} (hp1 : ∀ x0 y, a1 x0 = some y → Meets Tryz.prog F1 ([.v (vPt x0)] ++ (K1.map fun (g, cs) => mkA g cs)) { vals := [.p (.bool y)] }) {r : Int} (h : slices_IndexFunc_Limpl_Point_impl_Point a0 a1 = some r) : Meets Tryz.prog 109 [.d false [.sl none (a0.map ePt)], .d false [.fn F1 K1]] { vals := [.p (iV r)] } := by
 refine mo Tryz.func109 [(0, .d false [.sl none (a0.map ePt)]), (1, .d false [.fn F1 K1])] ?_
 unfold slices_IndexFunc_Limpl_Point_impl_Point at h
 refine k_sreg (r_gq [(0, .d false [.sl none (a0.map ePt)]), (1, .d false [.fn F1 K1])] [] trivial) ?_
 refine k_join (J := fun (x : Unit) => []) (K := fun x => slices_IndexFunc_Limpl_Point_impl_Point_k1 x = some r) (fun x1 h => ?_) ?_
 ·unfold slices_IndexFunc_Limpl_Point_impl_Point_k1 at h
  refine k_sreg (r_gq [(4, .p (iV (-1)))] [] trivial) ?_
  refine k_ret ?_
  obtain rfl := oi h
  exact er [(.p (iV (-1)), 4)]
 ·refine k_sreg (r_gq [(0, .d false [.sl none (a0.map ePt)]), (1, .d false [.fn F1 K1]), (7, .p (iV (a0.length : Int))), (8, .p (iV 0))] [(1, {n := some a0.length})] (A1 (show (a0.map ePt).length = a0.length from (List.length_map ..)))) ?_
  refine k_block ?_
  obtain ⟨y3, hl_x2, hk_x2⟩ := bs h
  clear h
  refine k_loop (J := fun (x : Int) => [(0, .d false [.sl none (a0.map ePt)]), (1, .d false [.fn F1 K1]), (7, .p (iV (a0.length : Int))), (8, .p (iV x))]) hl_x2 (wk_of (by kernel_rfl) (by kernel_rfl)) (fun x2 o_x2 h hy_x2 => ?_)
  unfold slices_IndexFunc_Limpl_Point_impl_Point_b1 at h
  refine k_sreg (r_gq [(0, .d false [.sl none (a0.map ePt)]), (1, .d false [.fn F1 K1]), (7, .p (iV (a0.length : Int))), (8, .p (iV x2)), (9, .p (.bool (decide (x2 < (a0.length : Int)))))] [] trivial) ?_
  refine k_seq ?_
  refine kc (decide (x2 < (a0.length : Int))) (fun hc5_3 => ?_) (fun hc5_3 => ?_)
  ·replace h := ite_t hc5_3 h
   refine k_skip ?_
   refine q_n ?_
   refine k_seq ?_
   refine k_block ?_
   refine k_sreg (r_gq [(0, .d false [.sl none (a0.map ePt)]), (1, .d false [.fn F1 K1]), (5, .p (iV x2)), (7, .p (iV (a0.length : Int))), (8, .p (iV x2))] [] trivial) ?_
   replace h := bs h
   obtain ⟨v5, hv5, h⟩ := h
   replace h := bs h
   obtain ⟨v6, hv6, h⟩ := h
   refine k_sreg (r_gq [(0, .d false [.sl none (a0.map ePt)]), (1, .d false [.fn F1 K1]), (5, .p (iV x2)), (7, .p (iV (a0.length : Int))), (8, .p (iV x2)), (16, .p (.bool v6))] [(3, {row := some (ePt v5)}), (5, {call := some (none, [.p (.bool v6)], true)})] (A3 (idxO_some hv5).1 (map_get ePt (idxO_some hv5).2) (hp1 _ _ hv6))) ?_
   refine kc v6 (fun hc6_6 => ?_) (fun hc6_6 => ?_)
   ·replace h := ite_t hc6_6 h
    refine k_sreg (r_gq [(4, .p (iV x2))] [] trivial) ?_
    refine k_ret ?_
    refine b_r ?_
    refine q_r ?_
    refine lq_r ?_
    refine b_r ?_
    refine q_r ?_
    have hyy := hy_x2 _ (oi h).symm
    subst hyy
    have h := hk_x2
    dsimp only [Sum.elim] at h
    obtain rfl := oi h
    exact er [(.p (iV x2), 4)]
   ·replace h := ite_f hc6_6 h
    refine k_skip ?_
    refine b_n ?_
    refine q_n ?_
    refine k_reg (r_gq [(0, .d false [.sl none (a0.map ePt)]), (1, .d false [.fn F1 K1]), (7, .p (iV (a0.length : Int))), (8, .p (iV (w64 (x2 + 1))))] [] trivial) ?_
    exact lqn (w64 (x2 + 1)) h
  ·replace h := ite_f hc5_3 h
   refine k_exit ?_
   refine q_x ?_
   refine lq_x ?_
   refine b_x ?_
   have hyy := hy_x2 _ (oi h).symm
   subst hyy
   have h := hk_x2
   dsimp only [Sum.elim] at h
   refine q_n ?_
   exact jx () h
theorem wk_impl_pieceAt_1 {a0 : Qp} {c0 : Qr}  {r : Bool} (h : impl_pieceAt_1 a0 c0 = some r) : Meets Tryz.prog 136 [.v (vPt a0), .d false [.pt (eRt c0)]] { vals := [.p (.bool r)] } := by
 refine mo Tryz.func136 [(0, .p (vPt a0)), (1, .d false [.pt (eRt c0)])] ?_
 unfold impl_pieceAt_1 at h
 refine k_sreg (r_gq [(1, .d false [.pt (eRt c0)]), (2, .box (ePt a0))] [] trivial) ?_
 replace h := bs h
 obtain ⟨v1, hv1, h⟩ := h
 refine k_sreg (r_gq [(3, .p (.bool (!v1)))] [(3, {call := some (none, [.p (.bool v1)], true)})] (A1 (wk_impl_less hv1))) ?_
 refine k_ret ?_
 obtain rfl := oi h
 exact er [(.p (.bool (!v1)), 3)]
theorem wk_impl_pieceAt {a0 : (List Qp)} {a1 : Qr}  {r : Int} (h : impl_pieceAt a0 a1 = some r) : Meets Tryz.prog 124 [.d false [.sl none (a0.map ePt)], .v (vRt a1)] { vals := [.p (iV r)] } := by
 refine mo Tryz.func124 [(0, .d false [.sl none (a0.map ePt)]), (1, .p (vRt a1))] ?_
 unfold impl_pieceAt at h
 refine k_sreg (r_gq [(0, .d false [.sl none (a0.map ePt)]), (3, .box (eRt a1))] [] trivial) ?_
 refine k_frz 3 (eRt a1) (eRt a1) [(0, .d false [.sl none (a0.map ePt)]), (3, .d false [.pt (eRt a1)])] (by kernel_rfl) (erc_raw (erc_raw rfl)) (by kernel_rfl) (by kernel_rfl) ?_
 replace h := bs h
 obtain ⟨v1, hv1, h⟩ := h
 refine k_sreg (r_gq [(5, .p (iV v1))] [(2, {call := some (none, [.p (iV v1)], true)})] (A1 (show Meets Tryz.prog 109 ([.d false [.sl none (a0.map ePt)], .d false [.fn 136 [(false, [.pt (eRt a1)])]]] ++ []) { vals := [.p (iV v1)] } from (wk_slices_IndexFunc_Limpl_Point_impl_Point_d (fun x0 y hy => wk_impl_pieceAt_1 hy) hv1)))) ?_
 refine k_sreg (r_gq [(4, .p (iV (if (w64 (v1 - 1)) < 0 then 0 else (w64 (v1 - 1)))))] [] trivial) ?_
 refine k_ret ?_
 obtain rfl := oi h
 exact er [(.p (iV (if (w64 (v1 - 1)) < 0 then 0 else (w64 (v1 - 1)))), 4)]
theorem wk_impl_MultiplyRats {a0 : Qr} {a1 : Qr}  {r : (Qr × Bool)} (h : impl_MultiplyRats a0 a1 = some r) : Meets Tryz.prog 149 [.v (vRt a0), .v (vRt a1)] { vals := [.p (vRt r.1), .p (.bool r.2)] } := by
 refine mo Tryz.func149 [(0, .p (vRt a0)), (1, .p (vRt a1))] ?_
 unfold impl_MultiplyRats at h
 refine k_sreg (r_gq [(2, .box (eRt a0)), (3, .box (eRt a1)), (4, .box [rI 0, rI 0])] [] trivial) ?_
 refine k_seq ?_
 replace h := bs h
 obtain ⟨v1, hv1, h⟩ := h
 refine k_sreg (r_gq [(2, .box (eRt a0)), (3, .box (eRt a1)), (4, .box [rI 0, rI 0]), (10, .p (.bool (!v1)))] [(3, {call := some (some [.d false [.sl none (([a0, a1]).map eRt)]], [.p (.bool v1)], true)})] (A2 (show ([.d false [.sl none (eraL (([a0, a1]).map eRt))]] : List Arg) = [.d false [.sl none (([a0, a1]).map eRt)]] from (by simp only [eraL_enc (h := eRt) (era_P er_I er_I)])) (wk_impl_areRats hv1))) ?_
 refine kc (!v1) (fun hc2_1 => ?_) (fun hc2_1 => ?_)
 ·replace h := ite_t hc2_1 h
  refine k_sreg (r_gq [(4, .box [rI 0, rI 0]), (5, .p (.bool false))] [] trivial) ?_
  refine k_ret ?_
  refine q_r ?_
  obtain rfl := oi h
  exact er [(.p (.agg #[.int .i64 0, .int .i64 0]), 4), (.p (.bool false), 5)]
 ·replace h := ite_f hc2_1 h
  refine k_skip ?_
  refine q_n ?_
  replace h := bs h
  obtain ⟨v3, hv3, h⟩ := h
  refine k_sreg (r_gq [(4, .box (eRt v3.1)), (5, .p (.bool v3.2))] [(10, {call := some (none, [.p (vRt v3.1), .p (.bool v3.2)], true)})] (A1 (wk_impl_lowest hv3))) ?_
  refine k_ret ?_
  obtain rfl := oi h
  exact er [(.p (vRt v3.1), 4), (.p (.bool v3.2), 5)]
theorem wk_impl_calc_mul {a0 : Bool} {a1 : Qr} {a2 : Qr}  {r : (Qr × Bool)} (h : impl_calc_mul a0 a1 a2 = some r) : MeetsB Tryz.prog 138 (.box [.raw (.bool a0)]) [.v (vRt a1), .v (vRt a2)] [.p (vRt r.1)] (.box [.raw (.bool r.2)]) := by
 refine mob Tryz.func138 [(0, .box [.raw (.bool a0)]), (1, .p (vRt a1)), (2, .p (vRt a2))] ?_
 unfold impl_calc_mul at h
 refine k_sreg (r_gq [(0, .box [.raw (.bool a0)]), (4, .box (eRt a1)), (5, .box (eRt a2)), (6, .box [rI 0, rI 0])] [] trivial) ?_
 replace h := bs h
 obtain ⟨v1, hv1, h⟩ := h
 replace h := bs h
 obtain ⟨v2, hv2, h⟩ := h
 refine k_sreg (r_gq [(0, .box [.raw (.bool v2.2)]), (6, .box (eRt v2.1))] [(3, {call := some (none, [.p (vRt v1.1), .p (.bool v1.2)], true)}), (6, {lend := some (none, [.p (vRt v2.1)], .box [.raw (.bool v2.2)], true)})] (A2 (wk_impl_MultiplyRats hv1) (wk_impl_calc_keep hv2))) ?_
 refine k_ret ?_
 obtain rfl := oi h
 exact ebr [(.p (vRt v2.1), 6)]
theorem wk_impl_calc_add {a0 : Bool} {a1 : Qr} {a2 : Qr}  {r : (Qr × Bool)} (h : impl_calc_add a0 a1 a2 = some r) : MeetsB Tryz.prog 137 (.box [.raw (.bool a0)]) [.v (vRt a1), .v (vRt a2)] [.p (vRt r.1)] (.box [.raw (.bool r.2)]) := by
 refine mob Tryz.func137 [(0, .box [.raw (.bool a0)]), (1, .p (vRt a1)), (2, .p (vRt a2))] ?_
 unfold impl_calc_add at h
 refine k_sreg (r_gq [(0, .box [.raw (.bool a0)]), (4, .box (eRt a1)), (5, .box (eRt a2)), (6, .box [rI 0, rI 0])] [] trivial) ?_
 replace h := bs h
 obtain ⟨v1, hv1, h⟩ := h
 replace h := bs h
 obtain ⟨v2, hv2, h⟩ := h
 refine k_sreg (r_gq [(0, .box [.raw (.bool v2.2)]), (6, .box (eRt v2.1))] [(3, {call := some (none, [.p (vRt v1.1), .p (.bool v1.2)], true)}), (6, {lend := some (none, [.p (vRt v2.1)], .box [.raw (.bool v2.2)], true)})] (A2 (wk_impl_AddRats hv1) (wk_impl_calc_keep hv2))) ?_
 refine k_ret ?_
 obtain rfl := oi h
 exact ebr [(.p (vRt v2.1), 6)]
theorem wk_impl_calc_line {a0 : Bool} {a1 : Qp} {a2 : Qr} {a3 : Qr}  {r : (Qr × Bool)} (h : impl_calc_line a0 a1 a2 a3 = some r) : MeetsB Tryz.prog 125 (.box [.raw (.bool a0)]) [.v (vPt a1), .v (vRt a2), .v (vRt a3)] [.p (vRt r.1)] (.box [.raw (.bool r.2)]) := by
 refine mob Tryz.func125 [(0, .box [.raw (.bool a0)]), (1, .p (vPt a1)), (2, .p (vRt a2)), (3, .p (vRt a3))] ?_
 unfold impl_calc_line at h
 refine k_sreg (r_gq [(0, .box [.raw (.bool a0)]), (5, .box (ePt a1)), (6, .box (eRt a2)), (7, .box (eRt a3)), (8, .box [rI 0, rI 0])] [] trivial) ?_
 replace h := bs h
 obtain ⟨v1, hv1, h⟩ := h
 replace h := bs h
 obtain ⟨v2, hv2, h⟩ := h
 replace h := bs h
 obtain ⟨v3, hv3, h⟩ := h
 refine k_sreg (r_dq Tryz_mixed 11 [(9, 0), (10, 0)] [(0, .box [.raw (.bool v3.2)]), (8, .box (eRt v3.1))] [(9, {lend := some (none, [.p (vRt v1.1)], .box [.raw (.bool v1.2)], true)}), (10, {lend := some (none, [.p (vRt v2.1)], .box [.raw (.bool v2.2)], true)}), (11, {lend := some (none, [.p (vRt v3.1)], .box [.raw (.bool v3.2)], true)})] (A3 (wk_impl_calc_sub hv1) (wk_impl_calc_mul hv2) (wk_impl_calc_add hv3))) ?_
 refine k_ret ?_
 obtain rfl := oi h
 exact ebr [(.p (vRt v3.1), 8)]
theorem wk_impl_calc_value {a0 : Bool} {a1 : (List Qp)} {a2 : Qr}  {r : (Qr × Bool)} (h : impl_calc_value a0 a1 a2 = some r) : MeetsB Tryz.prog 106 (.box [.raw (.bool a0)]) [.d false [.sl none (a1.map ePt)], .v (vRt a2)] [.p (vRt r.1)] (.box [.raw (.bool r.2)]) := by
 refine mob Tryz.func106 [(0, .box [.raw (.bool a0)]), (1, .d false [.sl none (a1.map ePt)]), (2, .p (vRt a2))] ?_
 unfold impl_calc_value at h
 refine k_sreg (r_gq [(0, .box [.raw (.bool a0)]), (1, .d false [.sl none (a1.map ePt)]), (5, .box (eRt a2)), (6, .box [rI 0, rI 0])] [] trivial) ?_
 replace h := bs h
 obtain ⟨v1, hv1, h⟩ := h
 refine k_sreg (r_gq [(0, .box [.raw (.bool a0)]), (1, .d false [.sl none (a1.map ePt)]), (5, .box (eRt a2)), (6, .box [rI 0, rI 0]), (7, .p (iV v1))] [(2, {call := some (none, [.p (iV v1)], true)})] (A1 (wk_impl_pieceAt hv1))) ?_
 replace h := bs h
 obtain ⟨v2, hv2, h⟩ := h
 replace h := bs h
 obtain ⟨v3, hv3, h⟩ := h
 replace h := bs h
 obtain ⟨v4, hv4, h⟩ := h
 replace h := bs h
 obtain ⟨v5, hv5, h⟩ := h
 refine k_sreg (r_dq Tryz_mixed 17 [(15, 0)] [(0, .box [.raw (.bool v5.2)]), (6, .box (eRt v5.1))] [(3, {row := some (ePt v2)}), (8, {row := some (ePt v2)}), (13, {row := some (ePt v3)}), (15, {lend := some (none, [.p (vRt v4.1)], .box [.raw (.bool v4.2)], true)}), (17, {lend := some (none, [.p (vRt v5.1)], .box [.raw (.bool v5.2)], true)})] (B6 (idxO_some hv2).1 (map_get ePt (idxO_some hv2).2) (idxO_some hv2).1 (map_get ePt (idxO_some hv2).2) (idxO_some hv3).1 (map_get ePt (idxO_some hv3).2) (A2 (wk_impl_calc_slope hv4) (wk_impl_calc_line hv5)))) ?_
 refine k_ret ?_
 obtain rfl := oi h
 exact ebr [(.p (vRt v5.1), 6)]
theorem wk_impl_orbit {a0 : (List Qp)} {a1 : Qr} {a2 : Int}  {r : (List Qr)} (h : impl_orbit a0 a1 a2 = some r) : Meets Tryz.prog 77 [.d false [.sl none (a0.map ePt)], .v (vRt a1), wI a2] { vals := [.ov false [.sl (some 23) (r.map eRt)]] } := by
 refine mo Tryz.func77 [(0, .d false [.sl none (a0.map ePt)]), (1, .p (vRt a1)), (2, .p (iV a2))] ?_
 unfold impl_orbit at h
 refine k_sreg (r_gq [(0, .d false [.sl none (a0.map ePt)]), (2, .p (iV a2)), (4, .box (eRt a1))] [] trivial) ?_
 refine k_sreg (r_gq [(0, .d false [.sl none (a0.map ePt)]), (2, .p (iV a2)), (4, .box (eRt a1)), (7, .ov false [.sl (some 23) (([a1]).map eRt)])] [] trivial) ?_
 refine k_sreg (r_gq [(0, .d false [.sl none (a0.map ePt)]), (2, .p (iV a2)), (4, .box (eRt a1)), (7, .ov false [.sl (some 23) (([a1]).map eRt)]), (8, .box [.raw (.bool false)])] [] trivial) ?_
 refine k_join (J := fun (x : (List Qr)) => [(7, .ov false [.sl (some 23) (x.map eRt)])]) (K := fun x => impl_orbit_k1 x = some r) (fun x1 h => ?_) ?_
 ·unfold impl_orbit_k1 at h
  refine k_sreg (r_gq [(6, .ov false [.sl (some 23) (x1.map eRt)])] [] trivial) ?_
  refine k_ret ?_
  obtain rfl := oi h
  exact er [(.ov false [.sl (some 23) (x1.map eRt)], 6)]
 ·refine k_sreg (r_gq [(0, .d false [.sl none (a0.map ePt)]), (4, .box (eRt a1)), (7, .ov false [.sl (some 23) (([a1]).map eRt)]), (8, .box [.raw (.bool false)]), (11, .p (iV a2)), (12, .p (iV 0))] [] trivial) ?_
  refine k_block ?_
  obtain ⟨y3, hl_x2, hk_x2⟩ := bs h
  clear h
  refine k_loop (J := fun (x : (Int × Int × (List Qr) × Bool × Int)) => [(0, .d false [.sl none (a0.map ePt)]), (4, .box [rI x.1, rI x.2.1]), (7, .ov false [.sl (some 23) (x.2.2.1.map eRt)]), (8, .box [.raw (.bool x.2.2.2.1)]), (11, .p (iV a2)), (12, .p (iV x.2.2.2.2))]) hl_x2 (wk_of (by kernel_rfl) (by kernel_rfl)) (fun x2 o_x2 h hy_x2 => ?_)
  unfold impl_orbit_b1 at h
  refine k_sreg (r_gq [(0, .d false [.sl none (a0.map ePt)]), (4, .box [rI x2.1, rI x2.2.1]), (7, .ov false [.sl (some 23) (x2.2.2.1.map eRt)]), (8, .box [.raw (.bool x2.2.2.2.1)]), (11, .p (iV a2)), (12, .p (iV x2.2.2.2.2)), (13, .p (.bool (decide (x2.2.2.2.2 < a2))))] [] trivial) ?_
  refine k_seq ?_
  refine kc (decide (x2.2.2.2.2 < a2)) (fun hc5_3 => ?_) (fun hc5_3 => ?_)
  ·replace h := ite_t hc5_3 h
   refine k_skip ?_
   refine q_n ?_
   refine k_seq ?_
   refine k_block ?_
   refine k_seq ?_
   replace h := bs h
   obtain ⟨v5, hv5, h⟩ := h
   refine k_sreg (r_gq [(0, .d false [.sl none (a0.map ePt)]), (4, .box (eRt v5.1)), (7, .ov false [.sl (some 23) (x2.2.2.1.map eRt)]), (8, .box [.raw (.bool v5.2)]), (11, .p (iV a2)), (12, .p (iV x2.2.2.2.2))] [(2, {lend := some (none, [.p (vRt v5.1)], .box [.raw (.bool v5.2)], true)})] (A1 (wk_impl_calc_value hv5))) ?_
   refine k_sreg (r_gq [(0, .d false [.sl none (a0.map ePt)]), (4, .box (eRt v5.1)), (7, .ov false [.sl (some 23) (x2.2.2.1.map eRt)]), (8, .box [.raw (.bool v5.2)]), (11, .p (iV a2)), (12, .p (iV x2.2.2.2.2)), (18, .p (.bool v5.2))] [] trivial) ?_
   refine kc v5.2 (fun hc7_5 => ?_) (fun hc7_5 => ?_)
   ·replace h := ite_t hc7_5 h
    refine k_exit ?_
    refine q_x ?_
    refine b_y rfl ?_
    refine q_x ?_
    refine lq_x ?_
    refine b_x ?_
    have hyy := hy_x2 _ (oi h).symm
    subst hyy
    have h := hk_x2
    refine q_n ?_
    exact jx x2.2.2.1 h
   ·replace h := ite_f hc7_5 h
    refine k_skip ?_
    refine q_n ?_
    replace h := bs h
    obtain ⟨u7, hu7, h⟩ := h
    refine k_reg (r_gq [(0, .d false [.sl none (a0.map ePt)]), (4, .box (eRt v5.1)), (7, .ov false [.sl (some 23) ((x2.2.2.1 ++ [v5.1]).map eRt)]), (8, .box [.raw (.bool v5.2)]), (11, .p (iV a2)), (12, .p (iV x2.2.2.2.2))] [(3, {fix := some (22, .ov false [.sl (some 23) ((x2.2.2.1 ++ [v5.1]).map eRt)])})] (A3 (show List.length ((x2.2.2.1.map eRt) : List (List C)) + List.length ((([v5.1]).map eRt) : List (List C)) ≤ 1099511627776 from (by have hg := (guardO_some hu7); simpa using hg)) (show ∀ row ∈ ((([v5.1]).map eRt) : List (List C)), row.length = 2 from (rows_len fun _ => rfl)) (show (SV.ov false [.sl (some 23) ((x2.2.2.1.map eRt) ++ (([v5.1]).map eRt))] : SV) = .ov false [.sl (some 23) ((x2.2.2.1 ++ [v5.1]).map eRt)] from (congrArg (fun z => SV.ov false [.sl (some 23) z]) (List.map_append ..).symm)))) ?_
    refine b_n ?_
    refine q_n ?_
    refine k_reg (r_gq [(0, .d false [.sl none (a0.map ePt)]), (4, .box (eRt v5.1)), (7, .ov false [.sl (some 23) ((x2.2.2.1 ++ [v5.1]).map eRt)]), (8, .box [.raw (.bool v5.2)]), (11, .p (iV a2)), (12, .p (iV (w64 (x2.2.2.2.2 + 1))))] [] trivial) ?_
    exact lqn (v5.1.1, v5.1.2, (x2.2.2.1 ++ [v5.1]), v5.2, (w64 (x2.2.2.2.2 + 1))) h
  ·replace h := ite_f hc5_3 h
   refine k_exit ?_
   refine q_x ?_
   refine lq_x ?_
   refine b_x ?_
   have hyy := hy_x2 _ (oi h).symm
   subst hyy
   have h := hk_x2
   refine q_n ?_
   exact jx x2.2.2.1 h
theorem wk_impl_kneading {a0 : (List Qp)} {a1 : Int}  {r : ((List Qr) × Qr × Bool)} (h : impl_kneading a0 a1 = some r) : Meets Tryz.prog 38 [.d false [.sl none (a0.map ePt)], wI a1] { vals := [.d false [.sl none (r.1.map eRt)], .p (vRt r.2.1), .p (.bool r.2.2)] } := by
 refine mo Tryz.func38 [(0, .d false [.sl none (a0.map ePt)]), (1, .p (iV a1))] ?_
 unfold impl_kneading at h
 refine k_sreg (r_gq [(0, .d false [.sl none (a0.map ePt)]), (1, .p (iV a1)), (5, .box [rI 0, rI 0])] [(1, {pre := some (4, .d false [.sl none []])})] (A1 (show (SV.d false (eraR [.sl (some 23) []]) : SV) = .d false [.sl none []] from (congrArg (fun z => SV.d false z) (erc_sl rfl rfl))))) ?_
 refine k_seq ?_
 replace h := bs h
 obtain ⟨v1, hv1, h⟩ := h
 replace h := bs h
 obtain ⟨w3, hw3, h⟩ := h
 refine k_sreg (l1 := [(0, .d false [.sl none (a0.map ePt)]), (1, .p (iV a1)), (5, .box [rI 0, rI 0]), (16, .p (.bool w3))]) ?_ ?_
 ·clear h
  rcases ft (!v1) with ha0 | ha0
  ·replace hw3 := ite_t ha0 hw3
   have hw3 := oi hw3
   subst hw3
   exact (r_gq [(0, .d false [.sl none (a0.map ePt)]), (1, .p (iV a1)), (5, .box [rI 0, rI 0]), (16, .p (.bool true))] [(1, {call := some (none, [.p (.bool v1)], true)}), (4, gT), (5, gT), (6, gT), (7, bT)] (A5 (wk_impl_isUnimodal hv1) ha0 ha0 ha0 ha0))
  ·replace hw3 := ite_f ha0 hw3
   replace hw3 := bs hw3
   obtain ⟨v2, hv2, hw3⟩ := hw3
   have hw3 := oi hw3
   subst hw3
   exact (r_gq [(0, .d false [.sl none (a0.map ePt)]), (1, .p (iV a1)), (5, .box [rI 0, rI 0]), (16, .p (.bool (!v2)))] [(1, {call := some (none, [.p (.bool v1)], true)}), (4, gF), (5, {g := some false, call := some (none, [.p (.bool v2)], true)}), (6, gF), (7, bF)] (A6 (wk_impl_isUnimodal hv1) ha0 ha0 (wk_impl_within hv2) ha0 ha0))
 ·refine kc w3 (fun hc2_3 => ?_) (fun hc2_3 => ?_)
  ·replace h := ite_t hc2_3 h
   refine k_sreg (r_gq [(4, .d false [.sl none []]), (5, .box [rI 0, rI 0]), (6, .p (.bool false))] [(2, {pre := some (4, .d false [.sl none []])})] (A1 (show (SV.d false (eraR [.sl (some 23) []]) : SV) = .d false [.sl none []] from (congrArg (fun z => SV.d false z) (erc_sl rfl rfl))))) ?_
   refine k_ret ?_
   refine q_r ?_
   obtain rfl := oi h
   exact er [(.d false [.sl none []], 4), (.p (.agg #[.int .i64 0, .int .i64 0]), 5), (.p (.bool false), 6)]
  ·replace h := ite_f hc2_3 h
   refine k_skip ?_
   refine q_n ?_
   replace h := bs h
   obtain ⟨v5, hv5, h⟩ := h
   replace h := bs h
   obtain ⟨v6, hv6, h⟩ := h
   refine k_sreg (r_gq [(0, .d false [.sl none (a0.map ePt)]), (1, .p (iV a1)), (5, .box [rI 0, rI 0]), (7, .box (eRt v6))] [(1, {call := some (none, [.ov false [.sl (some 23) (v5.map eRt)]], true)}), (2, {row := some (eRt v6)}), (3, {row := some (eRt v6)})] (A5 (wk_impl_turns hv5) (show List.all [.ov false [.sl (some 23) (v5.map eRt)]] simpleR = true from (sa_o (wnR1 (wnL_enc (wn_P wn_I wn_I)) rfl) rfl)) (idxO_some hv6).1 (map_get eRt (idxO_some hv6).2) (show getRow [[.sl (some 23) (v5.map eRt)]] [(0, 0), ((Int.toNat 0), 0)] = some (eRt v6) from ((gr0 rfl).trans (gre (map_get eRt (idxO_some hv6).2)))))) ?_
   replace h := bs h
   obtain ⟨v7, hv7, h⟩ := h
   refine k_sreg (r_gq [(1, .p (iV a1)), (5, .box [rI 0, rI 0]), (7, .box (eRt v6)), (8, .d false [.sl none (v7.map eRt)])] [(3, {call := some (none, [.ov false [.sl (some 23) (v7.map eRt)]], true)}), (4, {pre := some (25, .d false [.sl none (v7.map eRt)])})] (A3 (wk_impl_orbit hv7) (show List.all [.ov false [.sl (some 23) (v7.map eRt)]] simpleR = true from (sa_o (wnR1 (wnL_enc (wn_P wn_I wn_I)) rfl) rfl)) (show (SV.d false (eraR [.sl (some 23) (v7.map eRt)]) : SV) = .d false [.sl none (v7.map eRt)] from (congrArg (fun z => SV.d false z) (erc_sl (eraL_enc (era_P er_I er_I)) rfl))))) ?_
   refine k_seq ?_
   refine k_sreg (r_gq [(5, .box [rI 0, rI 0]), (7, .box (eRt v6)), (8, .d false [.sl none (v7.map eRt)]), (29, .p (.bool (decide ((v7.length : Int) ≤ a1))))] [(1, {n := some v7.length})] (A1 (show (v7.map eRt).length = v7.length from (List.length_map ..)))) ?_
   refine kc (decide ((v7.length : Int) ≤ a1)) (fun hc2_7 => ?_) (fun hc2_7 => ?_)
   ·replace h := ite_t hc2_7 h
    refine k_sreg (r_gq [(4, .d false [.sl none []]), (5, .box [rI 0, rI 0]), (6, .p (.bool false))] [(2, {pre := some (4, .d false [.sl none []])})] (A1 (show (SV.d false (eraR [.sl (some 23) []]) : SV) = .d false [.sl none []] from (congrArg (fun z => SV.d false z) (erc_sl rfl rfl))))) ?_
    refine k_ret ?_
    refine q_r ?_
    obtain rfl := oi h
    exact er [(.d false [.sl none []], 4), (.p (.agg #[.int .i64 0, .int .i64 0]), 5), (.p (.bool false), 6)]
   ·replace h := ite_f hc2_7 h
    refine k_skip ?_
    refine q_n ?_
    replace h := bs h
    obtain ⟨u9, hu9, h⟩ := h
    refine k_sreg (r_dq Tryz_mixed 4 [] [(4, .d false [.sl none ((v7.drop (Int.toNat 1)).map eRt)]), (5, .box (eRt v6)), (6, .p (.bool true))] [(1, {fix := some (32, .d false [.sl none ((v7.drop (Int.toNat 1)).map eRt)])})] (A5 (show (Int.toNat 1) ≤ (v7.map eRt).length from (by have hg := (guardO_some hu9); first | (simp only [List.length_map]; omega) | omega)) (show (v7.map eRt).length ≤ (v7.map eRt).length from (Nat.le_refl _)) (show ∀ row ∈ (v7.map eRt), row.length = 2 from (rows_len fun _ => rfl)) (show (0 : Int) ≤ 1 from (by have hg := (guardO_some hu9); omega)) (show (SV.d false [.sl none (((v7.map eRt).take (v7.map eRt).length).drop (Int.toNat 1))] : SV) = .d false [.sl none ((v7.drop (Int.toNat 1)).map eRt)] from (congrArg (fun z => SV.d false [.sl none z]) sl_lo)))) ?_
    refine k_ret ?_
    obtain rfl := oi h
    exact er [(.d false [.sl none ((v7.drop (Int.toNat 1)).map eRt)], 4), (.p (vRt v6), 5), (.p (.bool true), 6)]
end Go.PV
namespace Go.Proofs
open Go.Shelf
def Tryz.lays169_ren : Go.Shelf.Ren := ⟨fun | 169 => 41 | n => n, fun | 70 => 63 | 9 => 9 | 0 => 0 | 72 => 65 | 37 => 28 | 127 => 93 | 3 => 3 | 5 => 5 | n => n, fun | n => n⟩
theorem Tryz.lays169 : Go.Proofs.Lays.n169 Tryz.prog Tryz.lays169_ren := {
 mixed := by kernel_rfl
 f169 := Tryz.func41.trans (congrArg some (by kernel_rfl))
 t0 := Tryz.underlying0
 a0 := Tryz.isAgg0
 z0 := Tryz.sizeOf0
 v0 := Tryz.zeroValue0
 t3 := Tryz.underlying3
 a3 := Tryz.isAgg3
 z3 := Tryz.sizeOf3
 v3 := Tryz.zeroValue3
 t9 := Tryz.underlying9
 a9 := Tryz.isAgg9
 z9 := Tryz.sizeOf9
 v9 := Tryz.zeroValue9
 t37 := Tryz.underlying28
 a37 := Tryz.isAgg28
 z37 := Tryz.sizeOf28
 v37 := Tryz.zeroValue28
 t70 := Tryz.underlying63
 a70 := Tryz.isAgg63
 z70 := Tryz.sizeOf63
 v70 := Tryz.zeroValue63
 t72 := Tryz.underlying65
 a72 := Tryz.isAgg65
 z72 := Tryz.sizeOf65
 v72 := Tryz.zeroValue65
 t127 := Tryz.underlying93
 a127 := Tryz.isAgg93
 z127 := Tryz.sizeOf93
 v127 := Tryz.zeroValue93 }
theorem Tryz.Builder_Extra_169 : Builder.Extra Tryz.prog Tryz.lays169_ren := {
 sizeBuilder := by kernel_rfl
 liesBuilder := by kernel_rfl
 t5 := Tryz.underlying5
 a5 := Tryz.isAgg5
 z5 := Tryz.sizeOf5
 v5 := Tryz.zeroValue5
 infoByte := by kernel_rfl
 cellsByte := by kernel_rfl
 sizeByte := by kernel_rfl
 neB5 := by decide }
def Tryz.lays160_ren : Go.Shelf.Ren := ⟨fun | 160 => 66 | 232 => 95 | 231 => 94 | 227 => 96 | 234 => 98 | 233 => 97 | 236 => 100 | 235 => 99 | 228 => 118 | 271 => 121 | 151 => 120 | 197 => 119 | 120 => 134 | 152 => 133 | 260 => 132 | 137 => 71 | 119 => 143 | 224 => 144 | 225 => 145 | 217 => 102 | 266 => 122 | n => n, fun | 9 => 9 | 4 => 4 | 3 => 3 | 5 => 5 | 117 => 100 | 116 => 99 | 0 => 0 | 124 => 103 | 21 => 21 | 105 => 117 | 46 => 121 | 119 => 131 | 139 => 134 | 138 => 133 | n => n, fun | 3 => 1 | 4 => 2 | n => n⟩
theorem Tryz.lays160 : Go.Proofs.Lays.n160 Tryz.prog Tryz.lays160_ren := {
 mixed := by kernel_rfl
 f119 := Tryz.func143.trans (congrArg some (by kernel_rfl))
 f120 := Tryz.func134.trans (congrArg some (by kernel_rfl))
 f137 := Tryz.func71.trans (congrArg some (by kernel_rfl))
 f151 := Tryz.func120.trans (congrArg some (by kernel_rfl))
 f152 := Tryz.func133.trans (congrArg some (by kernel_rfl))
 f160 := Tryz.func66.trans (congrArg some (by kernel_rfl))
 f197 := Tryz.func119.trans (congrArg some (by kernel_rfl))
 f217 := Tryz.func102.trans (congrArg some (by kernel_rfl))
 f224 := Tryz.func144.trans (congrArg some (by kernel_rfl))
 f225 := Tryz.func145.trans (congrArg some (by kernel_rfl))
 f227 := Tryz.func96.trans (congrArg some (by kernel_rfl))
 f228 := Tryz.func118.trans (congrArg some (by kernel_rfl))
 f231 := Tryz.func94.trans (congrArg some (by kernel_rfl))
 f232 := Tryz.func95.trans (congrArg some (by kernel_rfl))
 f233 := Tryz.func97.trans (congrArg some (by kernel_rfl))
 f234 := Tryz.func98.trans (congrArg some (by kernel_rfl))
 f235 := Tryz.func99.trans (congrArg some (by kernel_rfl))
 f236 := Tryz.func100.trans (congrArg some (by kernel_rfl))
 f260 := Tryz.func132.trans (congrArg some (by kernel_rfl))
 f266 := Tryz.func122.trans (congrArg some (by kernel_rfl))
 f271 := Tryz.func121.trans (congrArg some (by kernel_rfl))
 t0 := Tryz.underlying0
 a0 := Tryz.isAgg0
 z0 := Tryz.sizeOf0
 v0 := Tryz.zeroValue0
 t3 := Tryz.underlying3
 a3 := Tryz.isAgg3
 z3 := Tryz.sizeOf3
 v3 := Tryz.zeroValue3
 t4 := Tryz.underlying4
 a4 := Tryz.isAgg4
 z4 := Tryz.sizeOf4
 v4 := Tryz.zeroValue4
 t5 := Tryz.underlying5
 a5 := Tryz.isAgg5
 z5 := Tryz.sizeOf5
 v5 := Tryz.zeroValue5
 t9 := Tryz.underlying9
 a9 := Tryz.isAgg9
 z9 := Tryz.sizeOf9
 v9 := Tryz.zeroValue9
 t21 := Tryz.underlying21
 a21 := Tryz.isAgg21
 z21 := Tryz.sizeOf21
 v21 := Tryz.zeroValue21
 t46 := Tryz.underlying121
 a46 := Tryz.isAgg121
 z46 := Tryz.sizeOf121
 v46 := Tryz.zeroValue121
 t105 := Tryz.underlying117
 a105 := Tryz.isAgg117
 z105 := Tryz.sizeOf117
 v105 := Tryz.zeroValue117
 t116 := Tryz.underlying99
 a116 := Tryz.isAgg99
 z116 := Tryz.sizeOf99
 t117 := Tryz.underlying100
 a117 := Tryz.isAgg100
 z117 := Tryz.sizeOf100
 v117 := Tryz.zeroValue100
 t119 := Tryz.underlying131
 a119 := Tryz.isAgg131
 z119 := Tryz.sizeOf131
 t124 := Tryz.underlying103
 a124 := Tryz.isAgg103
 z124 := Tryz.sizeOf103
 v124 := Tryz.zeroValue103
 t138 := Tryz.underlying133
 a138 := Tryz.isAgg133
 z138 := Tryz.sizeOf133
 v138 := Tryz.zeroValue133
 t139 := Tryz.underlying134
 a139 := Tryz.isAgg134
 z139 := Tryz.sizeOf134
 v139 := Tryz.zeroValue134
 g3 := by kernel_rfl
 g4 := by kernel_rfl }
def Tryz.lays137_ren : Go.Shelf.Ren := ⟨fun | 137 => 71 | 217 => 102 | 266 => 122 | n => n, fun | 9 => 9 | 5 => 5 | 3 => 3 | n => n, fun | n => n⟩
theorem Tryz.lays137 : Go.Proofs.Lays.n137 Tryz.prog Tryz.lays137_ren := {
 mixed := by kernel_rfl
 f137 := Tryz.func71.trans (congrArg some (by kernel_rfl))
 f217 := Tryz.func102.trans (congrArg some (by kernel_rfl))
 f266 := Tryz.func122.trans (congrArg some (by kernel_rfl))
 t3 := Tryz.underlying3
 a3 := Tryz.isAgg3
 z3 := Tryz.sizeOf3
 v3 := Tryz.zeroValue3
 t5 := Tryz.underlying5
 a5 := Tryz.isAgg5
 z5 := Tryz.sizeOf5
 v5 := Tryz.zeroValue5
 t9 := Tryz.underlying9
 a9 := Tryz.isAgg9
 z9 := Tryz.sizeOf9
 v9 := Tryz.zeroValue9 }
end Go.Proofs
namespace Go.PV
open Go Go.PV Go.Proofs
end Go.PV
namespace Go.Proofs
open Go.Shelf Go.RowKit
set_option maxHeartbeats 1000000 in
set_option maxRecDepth 100000 in
theorem Tryz.bld_used (b : Nat) (w : World) (h0 : w.cell? ⟨b, 0, none⟩ = some (.pointer (some ⟨b, 0, none⟩))) :
  Calls Tryz.prog 78 #[.pointer (some ⟨b, 0, none⟩)] w fun e w' => e = .returned (.tuple #[]) ∧ w' = w := by
 have hsz : (Tryz.prog.info? 65).map (·.size) = some 2 := by kernel_rfl
 obtain ⟨j, hj, _⟩ := Option.map_eq_some_iff.1 hsz
 have mixed : Tryz.prog.follows .mixedOrders = true := by kernel_rfl
 have t72 := Tryz.underlying65; have a72 := Tryz.isAgg65; have z72 := Tryz.sizeOf65; have v72 := Tryz.zeroValue65; have u72 := run_underlying Tryz.underlying65
 have t70 := Tryz.underlying63; have a70 := Tryz.isAgg63; have z70 := Tryz.sizeOf63; have v70 := Tryz.zeroValue63; have u70 := run_underlying Tryz.underlying63
 have t4 := Tryz.underlying4; have a4 := Tryz.isAgg4; have z4 := Tryz.sizeOf4; have v4 := Tryz.zeroValue4; have u4 := run_underlying Tryz.underlying4
 go_enter Tryz.func78, Tryz.ntmps78
 go_wp2
 rw [Lib.run_neq_ptr_same w _ Tryz.underlying63 hj]
 go_wp2
 go_end0
 exact ⟨rfl, rfl⟩
set_option maxHeartbeats 1000000 in
set_option maxRecDepth 100000 in
theorem Tryz.bld_fresh (b : Nat) (w : World) (h0 : w.cell? ⟨b, 0, none⟩ = some (.pointer none)) (hsh : w.shape? b = some (65, 2)) (hfz : w.frozen? ⟨b, 0, none⟩ = false) :
  Calls Tryz.prog 78 #[.pointer (some ⟨b, 0, none⟩)] w fun e w' => e = .returned (.tuple #[]) ∧ w' = w.setCell ⟨b, 0, none⟩ (.pointer (some ⟨b, 0, none⟩)) := by
 have hsz : (Tryz.prog.info? 65).map (·.size) = some 2 := by kernel_rfl
 have hlies : liesAt Tryz.prog Tryz.prog.depth 65 (2 / Tryz.prog.cellsOf 65) 0 65 1 = true := by kernel_rfl
 obtain ⟨j, hj, hjs⟩ := Option.map_eq_some_iff.1 hsz
 have mixed : Tryz.prog.follows .mixedOrders = true := by kernel_rfl
 have t72 := Tryz.underlying65; have a72 := Tryz.isAgg65; have z72 := Tryz.sizeOf65; have v72 := Tryz.zeroValue65; have u72 := run_underlying Tryz.underlying65
 have t70 := Tryz.underlying63; have a70 := Tryz.isAgg63; have z70 := Tryz.sizeOf63; have v70 := Tryz.zeroValue63; have u70 := run_underlying Tryz.underlying63
 have t4 := Tryz.underlying4; have a4 := Tryz.isAgg4; have z4 := Tryz.sizeOf4; have v4 := Tryz.zeroValue4; have u4 := run_underlying Tryz.underlying4
 have t164 := Tryz.underlying109; have a164 := Tryz.isAgg109; have z164 := Tryz.sizeOf109; have v164 := Tryz.zeroValue109; have u164 := run_underlying Tryz.underlying109
 go_enter Tryz.func78, Tryz.ntmps78
 go_wp2
 rw [Lib.run_to_unsafe w ⟨b, 0, none⟩ Tryz.underlying63 Tryz.underlying109 hj (by rw [hjs]; decide) hsh (Nat.zero_lt_succ 1)]
 simp only [Result.andThen]
 rw [Oper.upon_value]
 go_wp2
 rw [run_callFunc_extern Tryz.func107 (by kernel_rfl) (by kernel_rfl) (by kernel_rfl) (e := Extern.AbiNoEscape.same) (by kernel_rfl)]
 rw [Lib.run_noEscape]
 simp only [Result.andThen]
 rw [Oper.upon_value]
 go_wp2
 rw [Lib.run_from_unsafe w ⟨b, 0, none⟩ Tryz.underlying109 Tryz.underlying63 hj hsh hlies]
 simp only [Result.andThen]
 rw [Oper.upon_value]
 go_wp2
 go_end0
 exact ⟨rfl, rfl⟩
end Go.Proofs
namespace Go.PV
open Go Go.PV Go.Proofs
theorem wk_strings_Builder_copyCheck {a0 : (Unit × (List Int))} {r : (Unit × (List Int))} (h : strings_Builder_copyCheck a0 = some r) : MeetsB Tryz.prog 78 (.box [.bp 65, .sl (some 5) (a0.2.map (eU .u8))]) [] [] (.box [.bp 65, .sl (some 5) (r.2.map (eU .u8))]) := by
 unfold strings_Builder_copyCheck at h
 obtain rfl := Option.some.inj h
 exact meets_copyCheck (by kernel_rfl) (fun b w h => Go.Proofs.Tryz.bld_used b w h) (fun b w h1 h2 h3 => Go.Proofs.Tryz.bld_fresh b w h1 h2 h3)
end Go.PV

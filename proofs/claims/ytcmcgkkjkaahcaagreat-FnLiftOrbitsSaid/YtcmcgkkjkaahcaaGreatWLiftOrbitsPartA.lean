/-
  Walks through the functions that the law reaches: each answers as its plain definition does.
  Conditions: none.
-/
import Derived.KernelRfl
import Derived.Test.YtcmcgkkjkaahcaaGreatDf
import Derived.Test.YtcmcgkkjkaahcaaGreatProg
open Go Go.PV Go.Proofs
set_option linter.all false
namespace Go.PV
attribute [local irreducible] pvC pvL pvD sOp seqQ blockQ Meets MeetsB Ok OkL RegOk agree endQ seqL blockL loopQ endL endLB
theorem Tryz_mixed : Tryz.prog.follows .mixedOrders = true := by kernel_rfl
theorem Tryz_und5 : Tryz.prog.underlying 5 = some (.int .u8) := by kernel_rfl
theorem Tryz_und3 : Tryz.prog.underlying 3 = some (.int .i64) := by kernel_rfl
theorem Tryz_und71 : Tryz.prog.underlying 71 = some (.int .u64) := by kernel_rfl
theorem wk_spec_l1Cur_next {a0 : Cu}  {r : (Int × Cu)} (h : spec_l1Cur_next a0 = some r) : MeetsB Tryz.prog 156 (.box (eCu a0)) [] [.p (iV r.1)] (.box (eCu r.2)) := by
 refine mob Tryz.func156 [(0, .box (eCu a0))] ?_
 unfold spec_l1Cur_next at h
 refine k_sreg (r_gq [(0, .box (eCu a0))] [] trivial) ?_
 refine k_sreg (r_gq [(0, .box (eCu a0)), (3, .p (iV 0))] [] trivial) ?_
 refine k_join (J := fun (x : Int) => [(0, .box (eCu a0)), (3, .p (iV x))]) (K := fun x => spec_l1Cur_next_k1 a0 x = some r) (fun x1 h => ?_) ?_
 ·unfold spec_l1Cur_next_k1 at h
  refine k_sreg (r_gq [(0, .box [.sl none (a0.1.map (eU .u8)), rI (w64 (a0.2.1 + 1)), .raw (.int .u64 a0.2.2)]), (3, .p (iV x1))] [] trivial) ?_
  refine k_sreg (r_gq [(0, .box [.sl none (a0.1.map (eU .u8)), rI (w64 (a0.2.1 + 1)), .raw (.int .u64 (IntKind.wrap .u64 ((IntKind.wrap .u64 ((IntKind.wrap .u64 (a0.2.2 * 6364136223846793005)) + (IntKind.wrap .u64 x1))) + 1442695040888963407)))]), (3, .p (iV x1))] [(7, {pv := some (.int .u64 (IntKind.wrap .u64 x1))})] (A1 (show PureAt Tryz.prog (.convert 3 71 (.tmp 38)) [.int .i64 x1] (.int .u64 (IntKind.wrap .u64 x1)) from (pure_conv Tryz_und3 Tryz_und71)))) ?_
  refine k_seq ?_
  refine k_sreg (r_dq Tryz_mixed 9 [] [(0, .box [.sl none (a0.1.map (eU .u8)), rI (w64 (a0.2.1 + 1)), .raw (.int .u64 (IntKind.wrap .u64 ((IntKind.wrap .u64 ((IntKind.wrap .u64 (a0.2.2 * 6364136223846793005)) + (IntKind.wrap .u64 x1))) + 1442695040888963407)))]), (3, .p (iV x1)), (53, .p (.bool (decide ((w64 (a0.2.1 + 1)) ≤ (a0.1.length : Int)))))] [(7, bT), (8, {n := some a0.1.length})] (A2 (show frR [.sl none (a0.1.map (eU .u8))] = true from (frR1 (frL_enc (fr_U .u8)) rfl)) (show (a0.1.map (eU .u8)).length = a0.1.length from (List.length_map ..)))) ?_
  refine kc (decide ((w64 (a0.2.1 + 1)) ≤ (a0.1.length : Int))) (fun hc2_1 => ?_) (fun hc2_1 => ?_)
  ·replace h := ite_t hc2_1 h
   refine k_sreg (r_gq [(0, .box [.sl none (a0.1.map (eU .u8)), rI (w64 (a0.2.1 + 1)), .raw (.int .u64 (IntKind.wrap .u64 ((IntKind.wrap .u64 ((IntKind.wrap .u64 (a0.2.2 * 6364136223846793005)) + (IntKind.wrap .u64 x1))) + 1442695040888963407)))]), (2, .p (iV x1))] [] trivial) ?_
   refine k_ret ?_
   refine q_r ?_
   obtain rfl := oi h
   exact ebr [(.p (iV x1), 2)]
  ·replace h := ite_f hc2_1 h
   refine k_skip ?_
   refine q_n ?_
   refine k_sreg (r_gq [(0, .box [.sl none (a0.1.map (eU .u8)), rI (w64 (a0.2.1 + 1)), .raw (.int .u64 (IntKind.wrap .u64 ((IntKind.wrap .u64 ((IntKind.wrap .u64 (a0.2.2 * 6364136223846793005)) + (IntKind.wrap .u64 x1))) + 1442695040888963407)))]), (2, .p (iV (IntKind.wrap .i64 (iand .u64 (ishr .u64 (IntKind.wrap .u64 ((IntKind.wrap .u64 ((IntKind.wrap .u64 (a0.2.2 * 6364136223846793005)) + (IntKind.wrap .u64 x1))) + 1442695040888963407)) 40) 255))))] [(4, {pv := some (.int .u64 (ishr .u64 (IntKind.wrap .u64 ((IntKind.wrap .u64 ((IntKind.wrap .u64 (a0.2.2 * 6364136223846793005)) + (IntKind.wrap .u64 x1))) + 1442695040888963407)) 40))}), (5, {pv := some (.int .u64 (iand .u64 (ishr .u64 (IntKind.wrap .u64 ((IntKind.wrap .u64 ((IntKind.wrap .u64 (a0.2.2 * 6364136223846793005)) + (IntKind.wrap .u64 x1))) + 1442695040888963407)) 40) 255))}), (6, {pv := some (iV (IntKind.wrap .i64 (iand .u64 (ishr .u64 (IntKind.wrap .u64 ((IntKind.wrap .u64 ((IntKind.wrap .u64 (a0.2.2 * 6364136223846793005)) + (IntKind.wrap .u64 x1))) + 1442695040888963407)) 40) 255)))})] (A3 (show PureAt Tryz.prog (.binOp .shr 71 (.tmp 58) (.const (.int .u64 40)) 136) [.int .u64 (IntKind.wrap .u64 ((IntKind.wrap .u64 ((IntKind.wrap .u64 (a0.2.2 * 6364136223846793005)) + (IntKind.wrap .u64 x1))) + 1442695040888963407)), .int .u64 40] (.int .u64 (ishr .u64 (IntKind.wrap .u64 ((IntKind.wrap .u64 ((IntKind.wrap .u64 (a0.2.2 * 6364136223846793005)) + (IntKind.wrap .u64 x1))) + 1442695040888963407)) 40)) from (pure_shr (by decide))) (show PureAt Tryz.prog (.binOp .and 71 (.tmp 59) (.const (.int .u64 255)) 71) [.int .u64 (ishr .u64 (IntKind.wrap .u64 ((IntKind.wrap .u64 ((IntKind.wrap .u64 (a0.2.2 * 6364136223846793005)) + (IntKind.wrap .u64 x1))) + 1442695040888963407)) 40), .int .u64 255] (.int .u64 (iand .u64 (ishr .u64 (IntKind.wrap .u64 ((IntKind.wrap .u64 ((IntKind.wrap .u64 (a0.2.2 * 6364136223846793005)) + (IntKind.wrap .u64 x1))) + 1442695040888963407)) 40) 255)) from (pure_and)) (show PureAt Tryz.prog (.convert 71 3 (.tmp 60)) [.int .u64 (iand .u64 (ishr .u64 (IntKind.wrap .u64 ((IntKind.wrap .u64 ((IntKind.wrap .u64 (a0.2.2 * 6364136223846793005)) + (IntKind.wrap .u64 x1))) + 1442695040888963407)) 40) 255)] (iV (IntKind.wrap .i64 (iand .u64 (ishr .u64 (IntKind.wrap .u64 ((IntKind.wrap .u64 ((IntKind.wrap .u64 (a0.2.2 * 6364136223846793005)) + (IntKind.wrap .u64 x1))) + 1442695040888963407)) 40) 255))) from (pure_conv Tryz_und71 Tryz_und3)))) ?_
   refine k_ret ?_
   obtain rfl := oi h
   exact ebr [(.p (iV (IntKind.wrap .i64 (iand .u64 (ishr .u64 (IntKind.wrap .u64 ((IntKind.wrap .u64 ((IntKind.wrap .u64 (a0.2.2 * 6364136223846793005)) + (IntKind.wrap .u64 x1))) + 1442695040888963407)) 40) 255))), 2)]
 ·refine k_sreg (r_dq Tryz_mixed 9 [] [(0, .box (eCu a0)), (3, .p (iV 0)), (13, .p (.bool (decide (a0.2.1 < (a0.1.length : Int)))))] [(7, bT), (8, {n := some a0.1.length})] (A2 (show frR [.sl none (a0.1.map (eU .u8))] = true from (frR1 (frL_enc (fr_U .u8)) rfl)) (show (a0.1.map (eU .u8)).length = a0.1.length from (List.length_map ..)))) ?_
  refine kc (decide (a0.2.1 < (a0.1.length : Int))) (fun hc2_2 => ?_) (fun hc2_2 => ?_)
  ·replace h := ite_t hc2_2 h
   replace h := bs h
   obtain ⟨v4, hv4, h⟩ := h
   refine k_reg (r_dq Tryz_mixed 8 [] [(0, .box (eCu a0)), (3, .p (iV (IntKind.wrap .i64 v4)))] [(3, bT), (8, {row := some [.raw (.int .u8 v4)]}), (10, {pv := some (iV (IntKind.wrap .i64 v4))})] (A4 (show frR [.sl none (a0.1.map (eU .u8))] = true from (frR1 (frL_enc (fr_U .u8)) rfl)) (idxO_some hv4).1 (map_get (eU .u8) (idxO_some hv4).2) (show PureAt Tryz.prog (.convert 5 3 (.tmp 23)) [.int .u8 v4] (iV (IntKind.wrap .i64 v4)) from (pure_conv Tryz_und5 Tryz_und3)))) ?_
   refine q_n ?_
   exact jx (IntKind.wrap .i64 v4) h
  ·replace h := ite_f hc2_2 h
   refine k_skip ?_
   refine q_n ?_
   exact jx 0 h
theorem wk_spec_l1Cur_pick {a0 : Cu} {a1 : Int}  {r : (Int × Cu)} (h : spec_l1Cur_pick a0 a1 = some r) : MeetsB Tryz.prog 113 (.box (eCu a0)) [wI a1] [.p (iV r.1)] (.box (eCu r.2)) := by
 refine mob Tryz.func113 [(0, .box (eCu a0)), (1, .p (iV a1))] ?_
 unfold spec_l1Cur_pick at h
 refine k_sreg (r_gq [(0, .box (eCu a0)), (1, .p (iV a1))] [] trivial) ?_
 refine k_seq ?_
 refine k_sreg (r_gq [(0, .box (eCu a0)), (1, .p (iV a1)), (7, .p (.bool (decide (a1 ≤ 1))))] [] trivial) ?_
 refine kc (decide (a1 ≤ 1)) (fun hc2_0 => ?_) (fun hc2_0 => ?_)
 ·replace h := ite_t hc2_0 h
  refine k_sreg (r_gq [(0, .box (eCu a0)), (4, .p (iV 0))] [] trivial) ?_
  refine k_ret ?_
  refine q_r ?_
  obtain rfl := oi h
  exact ebr [(.p (iV 0), 4)]
 ·replace h := ite_f hc2_0 h
  refine k_skip ?_
  refine q_n ?_
  replace h := bs h
  obtain ⟨v2, hv2, h⟩ := h
  refine k_sreg (r_gq [(0, .box (eCu v2.2)), (1, .p (iV a1)), (5, .p (iV v2.1))] [(1, {lend := some (none, [.p (iV v2.1)], .box (eCu v2.2), false)})] (A1 (wk_spec_l1Cur_next hv2))) ?_
  refine k_join (J := fun (x : ((List Int) × Int × Int × Int)) => [(0, .box (eCu (x.1, x.2.1, x.2.2.1))), (1, .p (iV a1)), (5, .p (iV x.2.2.2))]) (K := fun x => spec_l1Cur_pick_k1 a1 x = some r) (fun x3 h => ?_) ?_
  ·unfold spec_l1Cur_pick_k1 at h
   replace h := bs h
   obtain ⟨u4, hu4, h⟩ := h
   refine k_sreg (r_gq [(0, .box (eCu (x3.1, x3.2.1, x3.2.2.1))), (4, .p (iV (Int.tmod x3.2.2.2 a1)))] [] (A1 (guardO_some hu4))) ?_
   refine k_ret ?_
   obtain rfl := oi h
   exact ebr [(.p (iV (Int.tmod x3.2.2.2 a1)), 4)]
  ·refine k_sreg (r_gq [(0, .box (eCu v2.2)), (1, .p (iV a1)), (5, .p (iV v2.1)), (11, .p (.bool (decide (a1 > 200))))] [] trivial) ?_
   refine kc (decide (a1 > 200)) (fun hc2_4 => ?_) (fun hc2_4 => ?_)
   ·replace h := ite_t hc2_4 h
    replace h := bs h
    obtain ⟨v6, hv6, h⟩ := h
    refine k_reg (r_gq [(0, .box (eCu v6.2)), (1, .p (iV a1)), (5, .p (iV (w64 ((w64 (v2.1 * 256)) + v6.1))))] [(3, {lend := some (none, [.p (iV v6.1)], .box (eCu v6.2), false)})] (A1 (wk_spec_l1Cur_next hv6))) ?_
    refine q_n ?_
    exact jx (v6.2.1, v6.2.2.1, v6.2.2.2, (w64 ((w64 (v2.1 * 256)) + v6.1))) h
   ·replace h := ite_f hc2_4 h
    refine k_skip ?_
    refine q_n ?_
    exact jx (v2.2.1, v2.2.2.1, v2.2.2.2, v2.1) h
theorem wk_spec_l1Cur_among {a0 : Cu} {a1 : (List Int)}  {r : (Int × Cu)} (h : spec_l1Cur_among a0 a1 = some r) : MeetsB Tryz.prog 68 (.box (eCu a0)) [.d false [.sl none (a1.map eI)]] [.p (iV r.1)] (.box (eCu r.2)) := by
 refine mob Tryz.func68 [(0, .box (eCu a0)), (1, .d false [.sl none (a1.map eI)])] ?_
 unfold spec_l1Cur_among at h
 refine k_sreg (r_gq [(0, .box (eCu a0)), (1, .d false [.sl none (a1.map eI)])] [] trivial) ?_
 replace h := bs h
 obtain ⟨v1, hv1, h⟩ := h
 replace h := bs h
 obtain ⟨v2, hv2, h⟩ := h
 refine k_sreg (r_gq [(0, .box (eCu v1.2)), (4, .p (iV v2))] [(3, {n := some a1.length}), (4, {lend := some (none, [.p (iV v1.1)], .box (eCu v1.2), false)}), (5, {row := some (eI v2)})] (A4 (show (a1.map eI).length = a1.length from (List.length_map ..)) (wk_spec_l1Cur_pick hv1) (idxO_some hv2).1 (map_get eI (idxO_some hv2).2))) ?_
 refine k_ret ?_
 obtain rfl := oi h
 exact ebr [(.p (iV v2), 4)]
theorem wk_spec_l1Cur_one {a0 : Cu} {a1 : Int}  {r : (Bool × Cu)} (h : spec_l1Cur_one a0 a1 = some r) : MeetsB Tryz.prog 103 (.box (eCu a0)) [wI a1] [.p (.bool r.1)] (.box (eCu r.2)) := by
 refine mob Tryz.func103 [(0, .box (eCu a0)), (1, .p (iV a1))] ?_
 unfold spec_l1Cur_one at h
 refine k_sreg (r_gq [(0, .box (eCu a0)), (1, .p (iV a1))] [] trivial) ?_
 replace h := bs h
 obtain ⟨v1, hv1, h⟩ := h
 refine k_sreg (r_gq [(0, .box (eCu v1.2)), (4, .p (.bool (v1.1 == 0)))] [(2, {lend := some (none, [.p (iV v1.1)], .box (eCu v1.2), false)})] (A1 (wk_spec_l1Cur_pick hv1))) ?_
 refine k_ret ?_
 obtain rfl := oi h
 exact ebr [(.p (.bool (v1.1 == 0)), 4)]
theorem wk_spec_raInt {a0 : Int}  {r : Qr} (h : spec_raInt a0 = some r) : Meets Tryz.prog 83 [wI a0] { vals := [.p (vRt r)] } := by
 refine mo Tryz.func83 [(0, .p (iV a0))] ?_
 unfold spec_raInt at h
 refine k_sreg (r_gq [(0, .p (iV a0)), (2, .box [rI 0, rI 0])] [] trivial) ?_
 refine k_sreg (r_gq [(2, .box [rI a0, rI 1])] [] trivial) ?_
 refine k_ret ?_
 obtain rfl := oi h
 exact er [(.p (.agg #[.int .i64 a0, .int .i64 1]), 2)]
theorem wk_spec_l1Most {a0 : Int} {a1 : Int}  {r : Int} (h : spec_l1Most a0 a1 = some r) : Meets Tryz.prog 172 [wI a0, wI a1] { vals := [.p (iV r)] } := by
 refine mo Tryz.func172 [(0, .p (iV a0)), (1, .p (iV a1))] ?_
 unfold spec_l1Most at h
 refine k_sreg (r_gq [(0, .p (iV a0)), (1, .p (iV a1))] [] trivial) ?_
 refine k_seq ?_
 refine k_sreg (r_gq [(0, .p (iV a0)), (1, .p (iV a1)), (7, .p (.bool (decide (a0 > a1))))] [] trivial) ?_
 refine kc (decide (a0 > a1)) (fun hc2_0 => ?_) (fun hc2_0 => ?_)
 ·replace h := ite_t hc2_0 h
  refine k_sreg (r_gq [(4, .p (iV a0))] [] trivial) ?_
  refine k_ret ?_
  refine q_r ?_
  obtain rfl := oi h
  exact er [(.p (iV a0), 4)]
 ·replace h := ite_f hc2_0 h
  refine k_skip ?_
  refine q_n ?_
  refine k_sreg (r_gq [(4, .p (iV a1))] [] trivial) ?_
  refine k_ret ?_
  obtain rfl := oi h
  exact er [(.p (iV a1), 4)]
theorem wk_spec_l1Abs {a0 : Int}  {r : Int} (h : spec_l1Abs a0 = some r) : Meets Tryz.prog 137 [wI a0] { vals := [.p (iV r)] } := by
 refine mo Tryz.func137 [(0, .p (iV a0))] ?_
 unfold spec_l1Abs at h
 refine k_sreg (r_gq [(0, .p (iV a0))] [] trivial) ?_
 replace h := bs h
 obtain ⟨v1, hv1, h⟩ := h
 refine k_sreg (r_gq [(2, .p (iV v1))] [(3, {call := some (none, [.p (iV v1)], true)})] (A1 (wk_spec_l1Most hv1))) ?_
 refine k_ret ?_
 obtain rfl := oi h
 exact er [(.p (iV v1), 2)]
theorem wk_spec_raCommon {a0 : Int} {a1 : Int}  {r : Int} (h : spec_raCommon a0 a1 = some r) : Meets Tryz.prog 158 [wI a0, wI a1] { vals := [.p (iV r)] } := by
 refine mo Tryz.func158 [(0, .p (iV a0)), (1, .p (iV a1))] ?_
 unfold spec_raCommon at h
 refine k_sreg (r_gq [(0, .p (iV a0)), (1, .p (iV a1))] [] trivial) ?_
 refine k_join (J := fun (x : Int) => [(0, .p (iV x))]) (K := fun x => spec_raCommon_k1 x = some r) (fun x1 h => ?_) ?_
 ·unfold spec_raCommon_k1 at h
  refine k_sreg (r_gq [(4, .p (iV x1))] [] trivial) ?_
  refine k_ret ?_
  obtain rfl := oi h
  exact er [(.p (iV x1), 4)]
 ·refine k_block ?_
  obtain ⟨y3, hl_x2, hk_x2⟩ := bs h
  clear h
  refine k_loop (J := fun (x : Qr) => [(0, .p (iV x.1)), (1, .p (iV x.2))]) hl_x2 (wk_of (by kernel_rfl) (by kernel_rfl)) (fun x2 o_x2 h hy_x2 => ?_)
  unfold spec_raCommon_b1 at h
  refine k_seq ?_
  refine k_sreg (r_gq [(0, .p (iV x2.1)), (1, .p (iV x2.2)), (7, .p (.bool (decide (x2.2 > 0))))] [] trivial) ?_
  refine kc (decide (x2.2 > 0)) (fun hc5_3 => ?_) (fun hc5_3 => ?_)
  ·replace h := ite_t hc5_3 h
   refine k_skip ?_
   refine q_n ?_
   refine k_block ?_
   replace h := bs h
   obtain ⟨u5, hu5, h⟩ := h
   refine k_sreg (r_gq [(1, .p (iV x2.2)), (5, .p (iV (Int.tmod x2.1 x2.2)))] [] (A1 (guardO_some hu5))) ?_
   refine k_sreg (r_gq [(0, .p (iV x2.2)), (5, .p (iV (Int.tmod x2.1 x2.2)))] [] trivial) ?_
   refine k_reg (r_gq [(0, .p (iV x2.2)), (1, .p (iV (Int.tmod x2.1 x2.2)))] [] trivial) ?_
   refine b_n ?_
   exact lqn (x2.2, (Int.tmod x2.1 x2.2)) h
  ·replace h := ite_f hc5_3 h
   refine k_exit ?_
   refine q_x ?_
   refine lq_x ?_
   refine b_x ?_
   have hyy := hy_x2 _ (oi h).symm
   subst hyy
   have h := hk_x2
   refine q_n ?_
   exact jx x2.1 h
theorem wk_spec_l1In {a0 : Int} {a1 : Int} {a2 : Int}  {r : Bool} (h : spec_l1In a0 a1 a2 = some r) : Meets Tryz.prog 70 [wI a0, wI a1, wI a2] { vals := [.p (.bool r)] } := by
 refine mo Tryz.func70 [(0, .p (iV a0)), (1, .p (iV a1)), (2, .p (iV a2))] ?_
 unfold spec_l1In at h
 refine k_sreg (r_gq [(0, .p (iV a0)), (1, .p (iV a1)), (2, .p (iV a2))] [] trivial) ?_
 refine k_sreg (l1 := [(6, .p (.bool ((decide (a0 ≥ a1)) && (decide (a0 ≤ a2)))))]) ?_ ?_
 ·rcases ft (decide (a0 ≥ a1)) with ha0 | ha0
  ·exact RegOk.of_eq (l2 := [(6, .p (.bool ((decide (a0 ≥ a1)) && (decide (a0 ≤ a2)))))]) (r_gq [(6, .p (.bool (decide (a0 ≤ a2))))] [(4, gT), (5, gT), (6, gT), (7, bT)] (A4 ha0 ha0 ha0 ha0)) (by simp [ha0])
  ·exact RegOk.of_eq (l2 := [(6, .p (.bool ((decide (a0 ≥ a1)) && (decide (a0 ≤ a2)))))]) (r_gq [(6, .p (.bool false))] [(4, gF), (5, gF), (6, gF), (7, bF)] (A4 ha0 ha0 ha0 ha0)) (by simp [ha0])
 ·refine k_ret ?_
  obtain rfl := oi h
  exact er [(.p (.bool ((decide (a0 ≥ a1)) && (decide (a0 ≤ a2)))), 6)]
theorem wk_spec_raGood {a0 : Qr}  {r : Bool} (h : spec_raGood a0 = some r) : Meets Tryz.prog 126 [.v (vRt a0)] { vals := [.p (.bool r)] } := by
 refine mo Tryz.func126 [(0, .p (vRt a0))] ?_
 unfold spec_raGood at h
 refine k_sreg (r_gq [(1, .box (eRt a0))] [] trivial) ?_
 replace h := bs h
 obtain ⟨v1, hv1, h⟩ := h
 replace h := bs h
 obtain ⟨w5, hw5, h⟩ := h
 refine k_sreg (l1 := [(2, .p (.bool w5))]) ?_ ?_
 ·clear h
  rcases ft v1 with ha0 | ha0
  ·replace hw5 := ite_t ha0 hw5
   replace hw5 := bs hw5
   obtain ⟨v2, hv2, hw5⟩ := hw5
   rcases ft v2 with ha1 | ha1
   ·replace hw5 := ite_t ha1 hw5
    replace hw5 := bs hw5
    obtain ⟨v3, hv3, hw5⟩ := hw5
    replace hw5 := bs hw5
    obtain ⟨v4, hv4, hw5⟩ := hw5
    have hw5 := oi hw5
    subst hw5
    exact (r_dq Tryz_mixed 14 [] [(2, .p (.bool (v4 == 1)))] [(2, {call := some (none, [.p (.bool v1)], true)}), (4, gT), (5, gT), (6, {g := some true, call := some (none, [.p (.bool v2)], true)}), (7, bT), (9, gT), (10, gT), (11, {g := some true, call := some (none, [.p (iV v3)], true)}), (12, gT), (13, gT), (14, {g := some true, call := some (none, [.p (iV v4)], true)}), (15, gT), (16, bT)] (B6 (wk_spec_l1In hv1) ha0 ha0 ha0 (wk_spec_l1In hv2) ha0 (B6 ha1 ha1 ha1 (wk_spec_l1Abs hv3) ha1 ha1 (A4 ha1 (wk_spec_raCommon hv4) ha1 ha1))))
   ·replace hw5 := ite_f ha1 hw5
    have hw5 := oi hw5
    subst hw5
    exact (r_dq Tryz_mixed 14 [] [(2, .p (.bool false))] [(2, {call := some (none, [.p (.bool v1)], true)}), (4, gT), (5, gT), (6, {g := some true, call := some (none, [.p (.bool v2)], true)}), (7, bT), (9, gF), (10, gF), (11, gF), (12, gF), (13, gF), (14, gF), (15, gF), (16, bF)] (B6 (wk_spec_l1In hv1) ha0 ha0 ha0 (wk_spec_l1In hv2) ha0 (B6 ha1 ha1 ha1 ha1 ha1 ha1 (A2 ha1 ha1))))
  ·replace hw5 := ite_f ha0 hw5
   have hw5 := oi hw5
   subst hw5
   exact (r_dq Tryz_mixed 14 [] [(2, .p (.bool false))] [(2, {call := some (none, [.p (.bool v1)], true)}), (4, gF), (5, gF), (6, gF), (7, bF), (9, gF), (10, gF), (11, gF), (12, gF), (13, gF), (14, gF), (15, gF), (16, bF)] (B6 (wk_spec_l1In hv1) ha0 ha0 ha0 ha0 (show false = false from rfl) (B6 (show false = false from rfl) (show false = false from rfl) (show false = false from rfl) (show false = false from rfl) (show false = false from rfl) (show false = false from rfl) (A1 (show false = false from rfl)))))
 ·refine k_ret ?_
  obtain rfl := oi h
  exact er [(.p (.bool w5), 2)]
theorem wk_spec_raMake {a0 : Int} {a1 : Int}  {r : (Qr × Bool)} (h : spec_raMake a0 a1 = some r) : Meets Tryz.prog 116 [wI a0, wI a1] { vals := [.p (vRt r.1), .p (.bool r.2)] } := by
 refine mo Tryz.func116 [(0, .p (iV a0)), (1, .p (iV a1))] ?_
 unfold spec_raMake at h
 refine k_sreg (r_gq [(0, .p (iV a0)), (1, .p (iV a1)), (4, .box [rI 0, rI 0])] [] trivial) ?_
 refine k_seq ?_
 refine k_sreg (r_gq [(0, .p (iV a0)), (1, .p (iV a1)), (4, .box [rI 0, rI 0]), (9, .p (.bool (a1 == 0)))] [] trivial) ?_
 refine kc (a1 == 0) (fun hc2_0 => ?_) (fun hc2_0 => ?_)
 ·replace h := ite_t hc2_0 h
  refine k_sreg (r_gq [(4, .box [rI 0, rI 0]), (5, .p (.bool false))] [] trivial) ?_
  refine k_ret ?_
  refine q_r ?_
  obtain rfl := oi h
  exact er [(.p (.agg #[.int .i64 0, .int .i64 0]), 4), (.p (.bool false), 5)]
 ·replace h := ite_f hc2_0 h
  refine k_skip ?_
  refine q_n ?_
  replace h := bs h
  obtain ⟨v2, hv2, h⟩ := h
  replace h := bs h
  obtain ⟨v3, hv3, h⟩ := h
  replace h := bs h
  obtain ⟨v4, hv4, h⟩ := h
  refine k_sreg (r_gq [(0, .p (iV a0)), (1, .p (iV a1)), (4, .box [rI 0, rI 0]), (6, .p (iV v4))] [(1, {call := some (none, [.p (iV v2)], true)}), (3, {call := some (none, [.p (iV v3)], true)}), (4, {call := some (none, [.p (iV v4)], true)})] (A3 (wk_spec_l1Abs hv2) (wk_spec_l1Abs hv3) (wk_spec_raCommon hv4))) ?_
  refine k_join (J := fun (x : Int) => [(0, .p (iV a0)), (1, .p (iV a1)), (4, .box [rI 0, rI 0]), (6, .p (iV x))]) (K := fun x => spec_raMake_k1 a0 a1 x = some r) (fun x5 h => ?_) ?_
  ·unfold spec_raMake_k1 at h
   replace h := bs h
   obtain ⟨u6, hu6, h⟩ := h
   refine k_sreg (r_dq Tryz_mixed 8 [] [(4, .box [rI 0, rI 0]), (7, .box [rI (w64 (Int.tdiv a0 x5)), rI (w64 (Int.tdiv a1 x5))])] [] (A2 (guardO_some hu6) (guardO_some hu6))) ?_
   refine k_seq ?_
   replace h := bs h
   obtain ⟨v7, hv7, h⟩ := h
   refine k_sreg (r_gq [(4, .box [rI 0, rI 0]), (7, .box [rI (w64 (Int.tdiv a0 x5)), rI (w64 (Int.tdiv a1 x5))]), (29, .p (.bool (!v7)))] [(1, {call := some (none, [.p (.bool v7)], true)})] (A1 (wk_spec_raGood hv7))) ?_
   refine kc (!v7) (fun hc2_7 => ?_) (fun hc2_7 => ?_)
   ·replace h := ite_t hc2_7 h
    refine k_sreg (r_gq [(4, .box [rI 0, rI 0]), (5, .p (.bool false))] [] trivial) ?_
    refine k_ret ?_
    refine q_r ?_
    obtain rfl := oi h
    exact er [(.p (.agg #[.int .i64 0, .int .i64 0]), 4), (.p (.bool false), 5)]
   ·replace h := ite_f hc2_7 h
    refine k_skip ?_
    refine q_n ?_
    refine k_sreg (r_gq [(4, .box [rI (w64 (Int.tdiv a0 x5)), rI (w64 (Int.tdiv a1 x5))]), (5, .p (.bool true))] [] trivial) ?_
    refine k_ret ?_
    obtain rfl := oi h
    exact er [(.p (.agg #[.int .i64 (w64 (Int.tdiv a0 x5)), .int .i64 (w64 (Int.tdiv a1 x5))]), 4), (.p (.bool true), 5)]
  ·refine k_sreg (r_gq [(0, .p (iV a0)), (1, .p (iV a1)), (4, .box [rI 0, rI 0]), (6, .p (iV v4)), (17, .p (.bool (decide (a1 < 0))))] [] trivial) ?_
   refine kc (decide (a1 < 0)) (fun hc2_8 => ?_) (fun hc2_8 => ?_)
   ·replace h := ite_t hc2_8 h
    refine k_reg (r_gq [(0, .p (iV a0)), (1, .p (iV a1)), (4, .box [rI 0, rI 0]), (6, .p (iV (w64 (0 - v4))))] [] trivial) ?_
    refine q_n ?_
    exact jx (w64 (0 - v4)) h
   ·replace h := ite_f hc2_8 h
    refine k_skip ?_
    refine q_n ?_
    exact jx v4 h
theorem wk_spec_l1Cur_gridRat {a0 : Cu} {a1 : Int}  {r : (Qr × Cu)} (h : spec_l1Cur_gridRat a0 a1 = some r) : MeetsB Tryz.prog 117 (.box (eCu a0)) [wI a1] [.p (vRt r.1)] (.box (eCu r.2)) := by
 refine mob Tryz.func117 [(0, .box (eCu a0)), (1, .p (iV a1))] ?_
 unfold spec_l1Cur_gridRat at h
 refine k_sreg (r_gq [(0, .box (eCu a0)), (1, .p (iV a1)), (4, .box [rI 0, rI 0])] [] trivial) ?_
 replace h := bs h
 obtain ⟨v1, hv1, h⟩ := h
 replace h := bs h
 obtain ⟨v2, hv2, h⟩ := h
 refine k_sreg (r_gq [(0, .box (eCu v1.2)), (4, .box [rI 0, rI 0]), (5, .box (eRt v2.1))] [(3, {lend := some (none, [.p (iV v1.1)], .box (eCu v1.2), false)}), (5, {call := some (none, [.p (vRt v2.1), .p (.bool v2.2)], true)})] (A2 (wk_spec_l1Cur_pick hv1) (wk_spec_raMake hv2))) ?_
 refine k_sreg (r_gq [(0, .box (eCu v1.2)), (4, .box (eRt v2.1))] [] trivial) ?_
 refine k_ret ?_
 obtain rfl := oi h
 exact ebr [(.p (vRt v2.1), 4)]
theorem wk_spec_l1Sign {a0 : Int}  {r : Int} (h : spec_l1Sign a0 = some r) : Meets Tryz.prog 145 [wI a0] { vals := [.p (iV r)] } := by
 refine mo Tryz.func145 [(0, .p (iV a0))] ?_
 unfold spec_l1Sign at h
 refine k_sreg (r_gq [(0, .p (iV a0))] [] trivial) ?_
 refine k_seq ?_
 refine k_block ?_
 refine k_sreg (r_gq [(0, .p (iV a0)), (3, .p (.bool (decide (a0 > 0))))] [] trivial) ?_
 refine kc (decide (a0 > 0)) (fun hc3_0 => ?_) (fun hc3_0 => ?_)
 ·replace h := ite_t hc3_0 h
  refine k_sreg (r_gq [(2, .p (iV 1))] [] trivial) ?_
  refine k_ret ?_
  refine b_r ?_
  refine q_r ?_
  obtain rfl := oi h
  exact er [(.p (iV 1), 2)]
 ·replace h := ite_f hc3_0 h
  refine k_sreg (r_gq [(6, .p (.bool (decide (a0 < 0))))] [] trivial) ?_
  refine kc (decide (a0 < 0)) (fun hc3_1 => ?_) (fun hc3_1 => ?_)
  ·replace h := ite_t hc3_1 h
   refine k_sreg (r_gq [(2, .p (iV (-1)))] [] trivial) ?_
   refine k_ret ?_
   refine b_r ?_
   refine q_r ?_
   obtain rfl := oi h
   exact er [(.p (iV (-1)), 2)]
  ·replace h := ite_f hc3_1 h
   refine k_skip ?_
   refine b_n ?_
   refine q_n ?_
   refine k_sreg (r_gq [(2, .p (iV 0))] [] trivial) ?_
   refine k_ret ?_
   obtain rfl := oi h
   exact er [(.p (iV 0), 2)]
theorem wk_spec_raCmp {a0 : Qr} {a1 : Qr}  {r : Int} (h : spec_raCmp a0 a1 = some r) : Meets Tryz.prog 97 [.v (vRt a0), .v (vRt a1)] { vals := [.p (iV r)] } := by
 refine mo Tryz.func97 [(0, .p (vRt a0)), (1, .p (vRt a1))] ?_
 unfold spec_raCmp at h
 refine k_sreg (r_gq [(2, .box (eRt a0)), (3, .box (eRt a1))] [] trivial) ?_
 replace h := bs h
 obtain ⟨v1, hv1, h⟩ := h
 refine k_sreg (r_gq [(4, .p (iV v1))] [(11, {call := some (none, [.p (iV v1)], true)})] (A1 (wk_spec_l1Sign hv1))) ?_
 refine k_ret ?_
 obtain rfl := oi h
 exact er [(.p (iV v1), 4)]
theorem wk_spec_imPut {a0 : (List Qr)} {a1 : Qr}  {r : (List Qr)} (h : spec_imPut a0 a1 = some r) : Meets Tryz.prog 184 [.d false [.sl none (a0.map eRt)], .v (vRt a1)] { vals := [.d false [.sl none (r.map eRt)]] } := by
 refine mo Tryz.func184 [(0, .d false [.sl none (a0.map eRt)]), (1, .p (vRt a1))] ?_
 unfold spec_imPut at h
 refine k_sreg (r_gq [(0, .d false [.sl none (a0.map eRt)]), (3, .box (eRt a1))] [] trivial) ?_
 refine k_sreg (r_gq [(0, .d false [.sl none (a0.map eRt)]), (3, .box (eRt a1)), (5, .p (iV 0))] [] trivial) ?_
 refine k_join (J := fun (x : Int) => [(0, .d false [.sl none (a0.map eRt)]), (3, .box (eRt a1)), (5, .p (iV x))]) (K := fun x => spec_imPut_k1 a0 a1 x = some r) (fun x1 h => ?_) ?_
 ·unfold spec_imPut_k1 at h
  refine k_seq ?_
  replace h := bs h
  obtain ⟨w3, hw3, h⟩ := h
  refine k_sreg (l1 := [(0, .d false [.sl none (a0.map eRt)]), (3, .box (eRt a1)), (5, .p (iV x1)), (32, .p (.bool w3))]) ?_ ?_
  ·clear h
   rcases ft (decide (x1 < (a0.length : Int))) with ha0 | ha0
   ·replace hw3 := ite_t ha0 hw3
    replace hw3 := bs hw3
    obtain ⟨v2, hv2, hw3⟩ := hw3
    have hw3 := oi hw3
    subst hw3
    exact (r_dq Tryz_mixed 10 [] [(0, .d false [.sl none (a0.map eRt)]), (3, .box (eRt a1)), (5, .p (iV x1)), (32, .p (.bool ((v2.1 == a1.1) && (v2.2 == a1.2))))] [(2, {n := some a0.length}), (5, gT), (6, gT), (7, {g := some true, row := some (eRt v2)}), (8, gT), (9, gT), (10, {g := some true, pv := some (.bool ((v2.1 == a1.1) && (v2.2 == a1.2)))}), (11, bT)] (B6 (show (a0.map eRt).length = a0.length from (List.length_map ..)) ha0 ha0 ha0 (idxO_some hv2).1 (map_get eRt (idxO_some hv2).2) (A5 ha0 ha0 ha0 (show PureAt Tryz.prog (.binOp .eql 27 (.tmp 29) (.tmp 30) 27) [vRt v2, vRt a1] (.bool ((v2.1 == a1.1) && (v2.2 == a1.2))) from (pure_eql2 (by kernel_rfl))) ha0)))
   ·replace hw3 := ite_f ha0 hw3
    have hw3 := oi hw3
    subst hw3
    exact (r_dq Tryz_mixed 10 [] [(0, .d false [.sl none (a0.map eRt)]), (3, .box (eRt a1)), (5, .p (iV x1)), (32, .p (.bool false))] [(2, {n := some a0.length}), (5, gF), (6, gF), (7, gF), (8, gF), (9, gF), (10, gF), (11, bF)] (B6 (show (a0.map eRt).length = a0.length from (List.length_map ..)) ha0 ha0 ha0 ha0 ha0 (A2 ha0 ha0)))
  ·refine kc w3 (fun hc2_3 => ?_) (fun hc2_3 => ?_)
   ·replace h := ite_t hc2_3 h
    refine k_sreg (r_gq [(4, .d false [.sl none (a0.map eRt)])] [] trivial) ?_
    refine k_ret ?_
    refine q_r ?_
    obtain rfl := oi h
    exact er [(.d false [.sl none (a0.map eRt)], 4)]
   ·replace h := ite_f hc2_3 h
    refine k_skip ?_
    refine q_n ?_
    replace h := bs h
    obtain ⟨u5, hu5, h⟩ := h
    replace h := bs h
    obtain ⟨u6, hu6, h⟩ := h
    replace h := bs h
    obtain ⟨u7, hu7, h⟩ := h
    replace h := bs h
    obtain ⟨u8, hu8, h⟩ := h
    refine k_sreg (r_dq Tryz_mixed 11 [(4, 34), (7, 38), (4096, 34), (4097, 38)] [(4, .d false [.sl none ((((a0.take (Int.toNat x1)) ++ [a1]) ++ (a0.drop (Int.toNat x1))).map eRt)])] [(3, {fix := some (37, .d false [.sl none ((a0.take (Int.toNat x1)).map eRt)])}), (6, {pre := some (0, .u), fix := some (40, .d false [.sl none (([a1]).map eRt)])}), (7, {fix := some (41, .ov false [.sl (some 27) (((a0.take (Int.toNat x1)) ++ [a1]).map eRt)])}), (10, {fix := some (44, .d false [.sl none ((a0.drop (Int.toNat x1)).map eRt)])}), (11, {fix := some (45, .ov false [.sl (some 27) ((((a0.take (Int.toNat x1)) ++ [a1]) ++ (a0.drop (Int.toNat x1))).map eRt)])}), (12, {pre := some (45, .d false [.sl none ((((a0.take (Int.toNat x1)) ++ [a1]) ++ (a0.drop (Int.toNat x1))).map eRt)])})] (B6 (show 0 ≤ (Int.toNat x1) from (by have hg := (guardO_some hu5); first | (simp only [List.length_map]; omega) | omega)) (show (Int.toNat x1) ≤ (a0.map eRt).length from (by have hg := (guardO_some hu5); first | (simp only [List.length_map]; omega) | omega)) (show ∀ row ∈ (a0.map eRt), row.length = 2 from (rows_len fun _ => rfl)) (show (0 : Int) ≤ x1 from (by have hg := (guardO_some hu5); omega)) (show (SV.d false [.sl none (((a0.map eRt).take (Int.toNat x1)).drop 0)] : SV) = .d false [.sl none ((a0.take (Int.toNat x1)).map eRt)] from (congrArg (fun z => SV.d false [.sl none z]) sl_hi)) (show List.length ([] : List (List C)) + List.length (((a0.take (Int.toNat x1)).map eRt) : List (List C)) ≤ 1099511627776 from (by have hg := (guardO_some hu6); simpa using hg)) (B6 (show ∀ row ∈ (((a0.take (Int.toNat x1)).map eRt) : List (List C)), row.length = 2 from (rows_len fun _ => rfl)) (show (SV.d false (eraR [.sl (some 27) (([a1]).map eRt)]) : SV) = .d false [.sl none (([a1]).map eRt)] from (congrArg (fun z => SV.d false z) (erc_sl (eraL_enc (era_P er_I er_I)) rfl))) (show List.length (((a0.take (Int.toNat x1)).map eRt) : List (List C)) + List.length ((([a1]).map eRt) : List (List C)) ≤ 1099511627776 from (by have hg := (guardO_some hu7); simpa using hg)) (show ∀ row ∈ ((([a1]).map eRt) : List (List C)), row.length = 2 from (rows_len fun _ => rfl)) (show (SV.ov false [.sl (some 27) (((a0.take (Int.toNat x1)).map eRt) ++ (([a1]).map eRt))] : SV) = .ov false [.sl (some 27) (((a0.take (Int.toNat x1)) ++ [a1]).map eRt)] from (congrArg (fun z => SV.ov false [.sl (some 27) z]) (List.map_append ..).symm)) (show (Int.toNat x1) ≤ (a0.map eRt).length from (by have hg := (guardO_some hu5); first | (simp only [List.length_map]; omega) | omega)) (B6 (show (a0.map eRt).length ≤ (a0.map eRt).length from (Nat.le_refl _)) (show ∀ row ∈ (a0.map eRt), row.length = 2 from (rows_len fun _ => rfl)) (show (0 : Int) ≤ x1 from (by have hg := (guardO_some hu5); omega)) (show (SV.d false [.sl none (((a0.map eRt).take (a0.map eRt).length).drop (Int.toNat x1))] : SV) = .d false [.sl none ((a0.drop (Int.toNat x1)).map eRt)] from (congrArg (fun z => SV.d false [.sl none z]) sl_lo)) (show List.length ((((a0.take (Int.toNat x1)) ++ [a1]).map eRt) : List (List C)) + List.length (((a0.drop (Int.toNat x1)).map eRt) : List (List C)) ≤ 1099511627776 from (by have hg := (guardO_some hu8); simpa using hg)) (show ∀ row ∈ (((a0.drop (Int.toNat x1)).map eRt) : List (List C)), row.length = 2 from (rows_len fun _ => rfl)) (A2 (show (SV.ov false [.sl (some 27) ((((a0.take (Int.toNat x1)) ++ [a1]).map eRt) ++ ((a0.drop (Int.toNat x1)).map eRt))] : SV) = .ov false [.sl (some 27) ((((a0.take (Int.toNat x1)) ++ [a1]) ++ (a0.drop (Int.toNat x1))).map eRt)] from (congrArg (fun z => SV.ov false [.sl (some 27) z]) (List.map_append ..).symm)) (show (SV.d false (eraR [.sl (some 27) ((((a0.take (Int.toNat x1)) ++ [a1]) ++ (a0.drop (Int.toNat x1))).map eRt)]) : SV) = .d false [.sl none ((((a0.take (Int.toNat x1)) ++ [a1]) ++ (a0.drop (Int.toNat x1))).map eRt)] from (congrArg (fun z => SV.d false z) (erc_sl (eraL_enc (era_P er_I er_I)) rfl)))))))) ?_
    refine k_ret ?_
    obtain rfl := oi h
    exact er [(.d false [.sl none ((((a0.take (Int.toNat x1)) ++ [a1]) ++ (a0.drop (Int.toNat x1))).map eRt)], 4)]
 ·refine k_block ?_
  obtain ⟨y10, hl_x9, hk_x9⟩ := bs h
  clear h
  refine k_loop (J := fun (x : Int) => [(0, .d false [.sl none (a0.map eRt)]), (3, .box (eRt a1)), (5, .p (iV x))]) hl_x9 (wk_of (by kernel_rfl) (by kernel_rfl)) (fun x9 o_x9 h hy_x9 => ?_)
  unfold spec_imPut_b1 at h
  refine k_seq ?_
  replace h := bs h
  obtain ⟨w13, hw13, h⟩ := h
  refine k_sreg (l1 := [(0, .d false [.sl none (a0.map eRt)]), (3, .box (eRt a1)), (5, .p (iV x9)), (18, .p (.bool w13))]) ?_ ?_
  ·clear h
   rcases ft (decide (x9 < (a0.length : Int))) with ha0 | ha0
   ·replace hw13 := ite_t ha0 hw13
    replace hw13 := bs hw13
    obtain ⟨v11, hv11, hw13⟩ := hw13
    replace hw13 := bs hw13
    obtain ⟨v12, hv12, hw13⟩ := hw13
    have hw13 := oi hw13
    subst hw13
    exact (r_dq Tryz_mixed 10 [] [(0, .d false [.sl none (a0.map eRt)]), (3, .box (eRt a1)), (5, .p (iV x9)), (18, .p (.bool (decide (v12 < 0))))] [(2, {n := some a0.length}), (5, gT), (6, gT), (7, {g := some true, row := some (eRt v11)}), (8, gT), (9, gT), (10, {g := some true, call := some (none, [.p (iV v12)], true)}), (11, gT), (12, bT)] (B6 (show (a0.map eRt).length = a0.length from (List.length_map ..)) ha0 ha0 ha0 (idxO_some hv11).1 (map_get eRt (idxO_some hv11).2) (A6 ha0 ha0 ha0 (wk_spec_raCmp hv12) ha0 ha0)))
   ·replace hw13 := ite_f ha0 hw13
    have hw13 := oi hw13
    subst hw13
    exact (r_dq Tryz_mixed 10 [] [(0, .d false [.sl none (a0.map eRt)]), (3, .box (eRt a1)), (5, .p (iV x9)), (18, .p (.bool false))] [(2, {n := some a0.length}), (5, gF), (6, gF), (7, gF), (8, gF), (9, gF), (10, gF), (11, gF), (12, bF)] (B6 (show (a0.map eRt).length = a0.length from (List.length_map ..)) ha0 ha0 ha0 ha0 ha0 (A3 ha0 ha0 ha0)))
  ·refine kc w13 (fun hc5_13 => ?_) (fun hc5_13 => ?_)
   ·replace h := ite_t hc5_13 h
    refine k_skip ?_
    refine q_n ?_
    refine k_block ?_
    refine k_reg (r_gq [(0, .d false [.sl none (a0.map eRt)]), (3, .box (eRt a1)), (5, .p (iV (w64 (x9 + 1))))] [] trivial) ?_
    refine b_n ?_
    exact lqn (w64 (x9 + 1)) h
   ·replace h := ite_f hc5_13 h
    refine k_exit ?_
    refine q_x ?_
    refine lq_x ?_
    refine b_x ?_
    have hyy := hy_x9 _ (oi h).symm
    subst hyy
    have h := hk_x9
    refine q_n ?_
    exact jx x9 h
theorem wk_spec_liPlus {a0 : Qr} {a1 : Int}  {r : Qr} (h : spec_liPlus a0 a1 = some r) : Meets Tryz.prog 115 [.v (vRt a0), wI a1] { vals := [.p (vRt r)] } := by
 refine mo Tryz.func115 [(0, .p (vRt a0)), (1, .p (iV a1))] ?_
 unfold spec_liPlus at h
 refine k_sreg (r_gq [(1, .p (iV a1)), (2, .box (eRt a0)), (4, .box [rI 0, rI 0])] [] trivial) ?_
 refine k_sreg (r_gq [(4, .box [rI (w64 (a0.1 + (w64 (a1 * a0.2)))), rI a0.2])] [] trivial) ?_
 refine k_ret ?_
 obtain rfl := oi h
 exact er [(.p (.agg #[.int .i64 (w64 (a0.1 + (w64 (a1 * a0.2)))), .int .i64 a0.2]), 4)]
theorem wk_spec_raAdd {a0 : Qr} {a1 : Qr}  {r : (Qr × Bool)} (h : spec_raAdd a0 a1 = some r) : Meets Tryz.prog 80 [.v (vRt a0), .v (vRt a1)] { vals := [.p (vRt r.1), .p (.bool r.2)] } := by
 refine mo Tryz.func80 [(0, .p (vRt a0)), (1, .p (vRt a1))] ?_
 unfold spec_raAdd at h
 refine k_sreg (r_gq [(2, .box (eRt a0)), (3, .box (eRt a1)), (4, .box [rI 0, rI 0])] [] trivial) ?_
 replace h := bs h
 obtain ⟨v1, hv1, h⟩ := h
 refine k_sreg (r_gq [(4, .box (eRt v1.1)), (5, .p (.bool v1.2))] [(16, {call := some (none, [.p (vRt v1.1), .p (.bool v1.2)], true)})] (A1 (wk_spec_raMake hv1))) ?_
 refine k_ret ?_
 obtain rfl := oi h
 exact er [(.p (vRt v1.1), 4), (.p (.bool v1.2), 5)]
theorem wk_spec_l1Cur_liftGrid {a0 : Cu} {a1 : Int}  {r : ((List Qp) × Cu)} (h : spec_l1Cur_liftGrid a0 a1 = some r) : MeetsB Tryz.prog 155 (.box (eCu a0)) [wI a1] [.ov true [.sl (some 85) (r.1.map ePt)]] (.box (eCu r.2)) := by
 refine mob Tryz.func155 [(0, .box (eCu a0)), (1, .p (iV a1))] ?_
 unfold spec_l1Cur_liftGrid at h
 refine k_sreg (r_gq [(0, .box (eCu a0)), (1, .p (iV a1)), (4, .box [.sl (some 85) []])] [] trivial) ?_
 replace h := bs h
 obtain ⟨v1, hv1, h⟩ := h
 refine k_sreg (r_gq [(0, .box (eCu v1.2)), (1, .p (iV a1)), (4, .box [.sl (some 85) []]), (5, .p (iV v1.1))] [(2, {lend := some (some [.d false [.sl none (([0, 1, 1, 2, 3]).map eI)]], [.p (iV v1.1)], .box (eCu v1.2), false), fix := some (17, .d false [.sl none (([0, 1, 1, 2, 3]).map eI)])})] (A3 (show ([.d false [.sl none (eraL (([0, 1, 1, 2, 3]).map eI))]] : List Arg) = [.d false [.sl none (([0, 1, 1, 2, 3]).map eI)]] from (by simp only [eraL_enc (h := eI) er_I])) (wk_spec_l1Cur_among hv1) (show (SV.d false (eraR [.sl (some 3) (([0, 1, 1, 2, 3]).map eI)]) : SV) = .d false [.sl none (([0, 1, 1, 2, 3]).map eI)] from (congrArg (fun z => SV.d false z) (erc_sl (eraL_enc er_I) rfl))))) ?_
 refine k_join (J := fun (x : ((List Int) × Int × Int × Int)) => [(0, .box (eCu (x.1, x.2.1, x.2.2.1))), (1, .p (iV a1)), (4, .box [.sl (some 85) []]), (5, .p (iV x.2.2.2))]) (K := fun x => spec_l1Cur_liftGrid_k1 a1 x = some r) (fun x2 h => ?_) ?_
 ·unfold spec_l1Cur_liftGrid_k1 at h
  replace h := bs h
  obtain ⟨v3, hv3, h⟩ := h
  replace h := bs h
  obtain ⟨v4, hv4, h⟩ := h
  refine k_sreg (r_gq [(0, .box (eCu (x2.1, x2.2.1, x2.2.2.1))), (1, .p (iV a1)), (4, .box [.sl (some 85) []]), (5, .p (iV x2.2.2.2)), (6, .d false [.sl none (([v3, v4]).map eRt)])] [(0, {call := some (none, [.p (vRt v3)], true)}), (1, {call := some (none, [.p (vRt v4)], true)}), (3, {pre := some (23, .d false [.sl none (([v3, v4]).map eRt)])})] (A3 (wk_spec_raInt hv3) (wk_spec_raInt hv4) (show (SV.d false (eraR [.sl (some 27) (([v3, v4]).map eRt)]) : SV) = .d false [.sl none (([v3, v4]).map eRt)] from (congrArg (fun z => SV.d false z) (erc_sl (eraL_enc (era_P er_I er_I)) rfl))))) ?_
  refine k_join (J := fun (x : ((List Int) × Int × Int × (List Qr))) => [(0, .box (eCu (x.1, x.2.1, x.2.2.1))), (1, .p (iV a1)), (4, .box [.sl (some 85) []]), (6, .d false [.sl none (x.2.2.2.map eRt)])]) (K := fun x => spec_l1Cur_liftGrid_k2 a1 x = some r) (fun x5 h => ?_) ?_
  ·unfold spec_l1Cur_liftGrid_k2 at h
   replace h := bs h
   obtain ⟨v6, hv6, h⟩ := h
   refine k_sreg (r_gq [(0, .box (eCu v6.2)), (1, .p (iV a1)), (4, .box [.sl (some 85) []]), (6, .d false [.sl none (x5.2.2.2.map eRt)]), (8, .box (eRt v6.1))] [(2, {lend := some (none, [.p (vRt v6.1)], .box (eCu v6.2), false)})] (A1 (wk_spec_l1Cur_gridRat hv6))) ?_
   refine k_join (J := fun (x : ((List Int) × Int × Int × Int × Int)) => [(0, .box (eCu (x.1, x.2.1, x.2.2.1))), (1, .p (iV a1)), (4, .box [.sl (some 85) []]), (6, .d false [.sl none (x5.2.2.2.map eRt)]), (8, .box (eRt x.2.2.2))]) (K := fun x => spec_l1Cur_liftGrid_k3 a1 x5 x = some r) (fun x7 h => ?_) ?_
   ·unfold spec_l1Cur_liftGrid_k3 at h
    refine k_sreg (r_gq [(0, .box (eCu (x7.1, x7.2.1, x7.2.2.1))), (1, .p (iV a1)), (4, .box [.sl (some 85) []]), (6, .d false [.sl none (x5.2.2.2.map eRt)]), (8, .box (eRt x7.2.2.2)), (9, .ov false [.sl (some 3) (([0]).map eI)])] [] trivial) ?_
    refine k_join (J := fun (x : ((List Int) × Int × Int × (List Int))) => [(0, .box (eCu (x.1, x.2.1, x.2.2.1))), (1, .p (iV a1)), (4, .box [.sl (some 85) []]), (6, .d false [.sl none (x5.2.2.2.map eRt)]), (8, .box (eRt x7.2.2.2)), (9, .ov false [.sl (some 3) (x.2.2.2.map eI)])]) (K := fun x => spec_l1Cur_liftGrid_k4 a1 x5 x7 x = some r) (fun x8 h => ?_) ?_
    ·unfold spec_l1Cur_liftGrid_k4 at h
     refine k_sreg (r_gq [(0, .box (eCu (x8.1, x8.2.1, x8.2.2.1))), (1, .p (iV a1)), (4, .box [.sl (some 85) []]), (6, .d false [.sl none (x5.2.2.2.map eRt)]), (8, .box (eRt x7.2.2.2)), (9, .ov false [.sl (some 3) (x8.2.2.2.map eI)]), (10, .ov false [.sl (some 85) []])] [] trivial) ?_
     refine k_join (J := fun (x : (List Qp)) => [(0, .box (eCu (x8.1, x8.2.1, x8.2.2.1))), (4, .box [.sl (some 85) []]), (10, .ov false [.sl (some 85) (x.map ePt)])]) (K := fun x => spec_l1Cur_liftGrid_k5 x8 x = some r) (fun x9 h => ?_) ?_
     ·unfold spec_l1Cur_liftGrid_k5 at h
      refine k_sreg (r_gq [(0, .box (eCu (x8.1, x8.2.1, x8.2.2.1))), (4, .box [.sl (some 85) (x9.map ePt)])] [] trivial) ?_
      refine k_ret ?_
      obtain rfl := oi h
      exact ebr [(.ov true [.sl (some 85) (x9.map ePt)], 4)]
     ·refine k_sreg (r_gq [(0, .box (eCu (x8.1, x8.2.1, x8.2.2.1))), (1, .p (iV a1)), (4, .box [.sl (some 85) []]), (6, .d false [.sl none (x5.2.2.2.map eRt)]), (8, .box (eRt x7.2.2.2)), (9, .ov false [.sl (some 3) (x8.2.2.2.map eI)]), (10, .ov false [.sl (some 85) []]), (71, .d false [.sl none (x5.2.2.2.map eRt)]), (72, .p (iV (x5.2.2.2.length : Int))), (73, .p (iV 0))] [(1, {n := some x5.2.2.2.length})] (A1 (show (x5.2.2.2.map eRt).length = x5.2.2.2.length from (List.length_map ..)))) ?_
      refine k_block ?_
      obtain ⟨y11, hl_x10, hk_x10⟩ := bs h
      clear h
      refine k_loop (J := fun (x : ((List Qp) × Int)) => [(0, .box (eCu (x8.1, x8.2.1, x8.2.2.1))), (1, .p (iV a1)), (4, .box [.sl (some 85) []]), (6, .d false [.sl none (x5.2.2.2.map eRt)]), (8, .box (eRt x7.2.2.2)), (9, .ov false [.sl (some 3) (x8.2.2.2.map eI)]), (10, .ov false [.sl (some 85) (x.1.map ePt)]), (71, .d false [.sl none (x5.2.2.2.map eRt)]), (72, .p (iV (x5.2.2.2.length : Int))), (73, .p (iV x.2))]) hl_x10 (wk_of (by kernel_rfl) (by kernel_rfl)) (fun x10 o_x10 h hy_x10 => ?_)
      unfold spec_l1Cur_liftGrid_b1 at h
      refine k_sreg (r_gq [(0, .box (eCu (x8.1, x8.2.1, x8.2.2.1))), (1, .p (iV a1)), (4, .box [.sl (some 85) []]), (6, .d false [.sl none (x5.2.2.2.map eRt)]), (8, .box (eRt x7.2.2.2)), (9, .ov false [.sl (some 3) (x8.2.2.2.map eI)]), (10, .ov false [.sl (some 85) (x10.1.map ePt)]), (71, .d false [.sl none (x5.2.2.2.map eRt)]), (72, .p (iV (x5.2.2.2.length : Int))), (73, .p (iV x10.2)), (74, .p (.bool (decide (x10.2 < (x5.2.2.2.length : Int)))))] [] trivial) ?_
      refine k_seq ?_
      refine kc (decide (x10.2 < (x5.2.2.2.length : Int))) (fun hc5_11 => ?_) (fun hc5_11 => ?_)
      ·replace h := ite_t hc5_11 h
       refine k_skip ?_
       refine q_n ?_
       refine k_seq ?_
       refine k_block ?_
       replace h := bs h
       obtain ⟨v13, hv13, h⟩ := h
       refine k_sreg (r_gq [(0, .box (eCu (x8.1, x8.2.1, x8.2.2.1))), (1, .p (iV a1)), (4, .box [.sl (some 85) []]), (6, .d false [.sl none (x5.2.2.2.map eRt)]), (8, .box (eRt x7.2.2.2)), (9, .ov false [.sl (some 3) (x8.2.2.2.map eI)]), (10, .ov false [.sl (some 85) (x10.1.map ePt)]), (11, .p (iV x10.2)), (12, .box (eRt v13)), (71, .d false [.sl none (x5.2.2.2.map eRt)]), (72, .p (iV (x5.2.2.2.length : Int))), (73, .p (iV x10.2))] [(1, {row := some (eRt v13)})] (A2 (idxO_some hv13).1 (map_get eRt (idxO_some hv13).2))) ?_
       refine k_sreg (r_gq [(0, .box (eCu (x8.1, x8.2.1, x8.2.2.1))), (1, .p (iV a1)), (4, .box [.sl (some 85) []]), (6, .d false [.sl none (x5.2.2.2.map eRt)]), (8, .box (eRt x7.2.2.2)), (9, .ov false [.sl (some 3) (x8.2.2.2.map eI)]), (10, .ov false [.sl (some 85) (x10.1.map ePt)]), (11, .p (iV x10.2)), (12, .box (eRt v13)), (13, .box (eRt x7.2.2.2)), (71, .d false [.sl none (x5.2.2.2.map eRt)]), (72, .p (iV (x5.2.2.2.length : Int))), (73, .p (iV x10.2))] [] trivial) ?_
       refine k_join (J := fun (x : Qr) => [(0, .box (eCu (x8.1, x8.2.1, x8.2.2.1))), (1, .p (iV a1)), (4, .box [.sl (some 85) []]), (6, .d false [.sl none (x5.2.2.2.map eRt)]), (8, .box (eRt x7.2.2.2)), (9, .ov false [.sl (some 3) (x8.2.2.2.map eI)]), (10, .ov false [.sl (some 85) (x10.1.map ePt)]), (12, .box (eRt v13)), (13, .box (eRt x)), (71, .d false [.sl none (x5.2.2.2.map eRt)]), (72, .p (iV (x5.2.2.2.length : Int))), (73, .p (iV x10.2))]) (K := fun x => spec_l1Cur_liftGrid_k6 x10 v13 x = some o_x10) (fun x14 h => ?_) ?_
       ·unfold spec_l1Cur_liftGrid_k6 at h
        replace h := bs h
        obtain ⟨u15, hu15, h⟩ := h
        refine k_reg (r_gq [(0, .box (eCu (x8.1, x8.2.1, x8.2.2.1))), (1, .p (iV a1)), (4, .box [.sl (some 85) []]), (6, .d false [.sl none (x5.2.2.2.map eRt)]), (8, .box (eRt x7.2.2.2)), (9, .ov false [.sl (some 3) (x8.2.2.2.map eI)]), (10, .ov false [.sl (some 85) ((x10.1 ++ [(v13, x14)]).map ePt)]), (71, .d false [.sl none (x5.2.2.2.map eRt)]), (72, .p (iV (x5.2.2.2.length : Int))), (73, .p (iV x10.2))] [(5, {fix := some (108, .ov false [.sl (some 85) ((x10.1 ++ [(v13, x14)]).map ePt)])})] (A3 (show List.length ((x10.1.map ePt) : List (List C)) + List.length ((([(v13, x14)]).map ePt) : List (List C)) ≤ 1099511627776 from (by have hg := (guardO_some hu15); simpa using hg)) (show ∀ row ∈ ((([(v13, x14)]).map ePt) : List (List C)), row.length = 4 from (rows_len fun _ => rfl)) (show (SV.ov false [.sl (some 85) ((x10.1.map ePt) ++ (([(v13, x14)]).map ePt))] : SV) = .ov false [.sl (some 85) ((x10.1 ++ [(v13, x14)]).map ePt)] from (congrArg (fun z => SV.ov false [.sl (some 85) z]) (List.map_append ..).symm)))) ?_
        refine b_n ?_
        refine q_n ?_
        refine k_reg (r_gq [(0, .box (eCu (x8.1, x8.2.1, x8.2.2.1))), (1, .p (iV a1)), (4, .box [.sl (some 85) []]), (6, .d false [.sl none (x5.2.2.2.map eRt)]), (8, .box (eRt x7.2.2.2)), (9, .ov false [.sl (some 3) (x8.2.2.2.map eI)]), (10, .ov false [.sl (some 85) ((x10.1 ++ [(v13, x14)]).map ePt)]), (71, .d false [.sl none (x5.2.2.2.map eRt)]), (72, .p (iV (x5.2.2.2.length : Int))), (73, .p (iV (w64 (x10.2 + 1))))] [] trivial) ?_
        exact lqn ((x10.1 ++ [(v13, x14)]), (w64 (x10.2 + 1))) h
       ·refine k_sreg (r_gq [(0, .box (eCu (x8.1, x8.2.1, x8.2.2.1))), (1, .p (iV a1)), (4, .box [.sl (some 85) []]), (6, .d false [.sl none (x5.2.2.2.map eRt)]), (8, .box (eRt x7.2.2.2)), (9, .ov false [.sl (some 3) (x8.2.2.2.map eI)]), (10, .ov false [.sl (some 85) (x10.1.map ePt)]), (11, .p (iV x10.2)), (12, .box (eRt v13)), (13, .box (eRt x7.2.2.2)), (71, .d false [.sl none (x5.2.2.2.map eRt)]), (72, .p (iV (x5.2.2.2.length : Int))), (73, .p (iV x10.2)), (83, .p (.bool ((w64 (x10.2 + 1)) == (x5.2.2.2.length : Int))))] [(3, {n := some x5.2.2.2.length})] (A1 (show (x5.2.2.2.map eRt).length = x5.2.2.2.length from (List.length_map ..)))) ?_
        refine kc ((w64 (x10.2 + 1)) == (x5.2.2.2.length : Int)) (fun hc7_15 => ?_) (fun hc7_15 => ?_)
        ·replace h := ite_t hc7_15 h
         replace h := bs h
         obtain ⟨v17, hv17, h⟩ := h
         refine k_reg (r_gq [(0, .box (eCu (x8.1, x8.2.1, x8.2.2.1))), (1, .p (iV a1)), (4, .box [.sl (some 85) []]), (6, .d false [.sl none (x5.2.2.2.map eRt)]), (8, .box (eRt x7.2.2.2)), (9, .ov false [.sl (some 3) (x8.2.2.2.map eI)]), (10, .ov false [.sl (some 85) (x10.1.map ePt)]), (12, .box (eRt v13)), (13, .box (eRt v17)), (71, .d false [.sl none (x5.2.2.2.map eRt)]), (72, .p (iV (x5.2.2.2.length : Int))), (73, .p (iV x10.2))] [(1, {call := some (none, [.p (vRt v17)], true)})] (A1 (wk_spec_liPlus hv17))) ?_
         refine q_n ?_
         exact jx v17 h
        ·replace h := ite_f hc7_15 h
         refine k_sreg (r_gq [(0, .box (eCu (x8.1, x8.2.1, x8.2.2.1))), (1, .p (iV a1)), (4, .box [.sl (some 85) []]), (6, .d false [.sl none (x5.2.2.2.map eRt)]), (8, .box (eRt x7.2.2.2)), (9, .ov false [.sl (some 3) (x8.2.2.2.map eI)]), (10, .ov false [.sl (some 85) (x10.1.map ePt)]), (11, .p (iV x10.2)), (12, .box (eRt v13)), (13, .box (eRt x7.2.2.2)), (71, .d false [.sl none (x5.2.2.2.map eRt)]), (72, .p (iV (x5.2.2.2.length : Int))), (73, .p (iV x10.2)), (87, .p (.bool (decide (x10.2 > 0))))] [] trivial) ?_
         refine kc (decide (x10.2 > 0)) (fun hc7_17 => ?_) (fun hc7_17 => ?_)
         ·replace h := ite_t hc7_17 h
          replace h := bs h
          obtain ⟨v19, hv19, h⟩ := h
          replace h := bs h
          obtain ⟨v20, hv20, h⟩ := h
          refine k_sreg (r_gq [(0, .box (eCu (x8.1, x8.2.1, x8.2.2.1))), (1, .p (iV a1)), (4, .box [.sl (some 85) []]), (6, .d false [.sl none (x5.2.2.2.map eRt)]), (8, .box (eRt x7.2.2.2)), (9, .ov false [.sl (some 3) (x8.2.2.2.map eI)]), (10, .ov false [.sl (some 85) (x10.1.map ePt)]), (12, .box (eRt v13)), (13, .box (eRt x7.2.2.2)), (14, .box (eRt v20.1)), (71, .d false [.sl none (x5.2.2.2.map eRt)]), (72, .p (iV (x5.2.2.2.length : Int))), (73, .p (iV x10.2))] [(2, {row := some (eI v19)}), (3, {row := some (eI v19)}), (5, {call := some (none, [.p (vRt v20.1), .p (.bool v20.2)], true)})] (A4 (idxO_some hv19).1 (map_get eI (idxO_some hv19).2) (show getRow [[.sl (some 3) (x8.2.2.2.map eI)]] [(0, 0), ((Int.toNat x10.2), 0)] = some (eI v19) from ((gr0 rfl).trans (gre (map_get eI (idxO_some hv19).2)))) (wk_spec_raMake hv20))) ?_
          replace h := bs h
          obtain ⟨v21, hv21, h⟩ := h
          refine k_reg (r_gq [(0, .box (eCu (x8.1, x8.2.1, x8.2.2.1))), (1, .p (iV a1)), (4, .box [.sl (some 85) []]), (6, .d false [.sl none (x5.2.2.2.map eRt)]), (8, .box (eRt x7.2.2.2)), (9, .ov false [.sl (some 3) (x8.2.2.2.map eI)]), (10, .ov false [.sl (some 85) (x10.1.map ePt)]), (12, .box (eRt v13)), (13, .box (eRt v21.1)), (71, .d false [.sl none (x5.2.2.2.map eRt)]), (72, .p (iV (x5.2.2.2.length : Int))), (73, .p (iV x10.2))] [(2, {call := some (none, [.p (vRt v21.1), .p (.bool v21.2)], true)})] (A1 (wk_spec_raAdd hv21))) ?_
          refine q_n ?_
          exact jx v21.1 h
         ·replace h := ite_f hc7_17 h
          refine k_skip ?_
          refine q_n ?_
          exact jx x7.2.2.2 h
      ·replace h := ite_f hc5_11 h
       refine k_exit ?_
       refine q_x ?_
       refine lq_x ?_
       refine b_x ?_
       have hyy := hy_x10 _ (oi h).symm
       subst hyy
       have h := hk_x10
       refine q_n ?_
       exact jx x10.1 h
    ·refine k_block ?_
     obtain ⟨y23, hl_x22, hk_x22⟩ := bs h
     clear h
     refine k_loop (J := fun (x : ((List Int) × Int × Int × (List Int))) => [(0, .box (eCu (x.1, x.2.1, x.2.2.1))), (1, .p (iV a1)), (4, .box [.sl (some 85) []]), (6, .d false [.sl none (x5.2.2.2.map eRt)]), (8, .box (eRt x7.2.2.2)), (9, .ov false [.sl (some 3) (x.2.2.2.map eI)])]) hl_x22 (wk_of (by kernel_rfl) (by kernel_rfl)) (fun x22 o_x22 h hy_x22 => ?_)
     unfold spec_l1Cur_liftGrid_b2 at h
     refine k_seq ?_
     refine k_sreg (r_gq [(0, .box (eCu (x22.1, x22.2.1, x22.2.2.1))), (1, .p (iV a1)), (4, .box [.sl (some 85) []]), (6, .d false [.sl none (x5.2.2.2.map eRt)]), (8, .box (eRt x7.2.2.2)), (9, .ov false [.sl (some 3) (x22.2.2.2.map eI)]), (56, .p (.bool (decide ((x22.2.2.2.length : Int) < (w64 ((x5.2.2.2.length : Int) - 1))))))] [(1, {n := some x22.2.2.2.length}), (3, {n := some x5.2.2.2.length})] (A2 (show (x22.2.2.2.map eI).length = x22.2.2.2.length from (List.length_map ..)) (show (x5.2.2.2.map eRt).length = x5.2.2.2.length from (List.length_map ..)))) ?_
     refine kc (decide ((x22.2.2.2.length : Int) < (w64 ((x5.2.2.2.length : Int) - 1)))) (fun hc5_23 => ?_) (fun hc5_23 => ?_)
     ·replace h := ite_t hc5_23 h
      refine k_skip ?_
      refine q_n ?_
      refine k_block ?_
      replace h := bs h
      obtain ⟨v25, hv25, h⟩ := h
      replace h := bs h
      obtain ⟨v26, hv26, h⟩ := h
      replace h := bs h
      obtain ⟨v27, hv27, h⟩ := h
      replace h := bs h
      obtain ⟨u28, hu28, h⟩ := h
      refine k_reg (r_dq Tryz_mixed 13 [(10, 0)] [(0, .box (eCu v26.2)), (1, .p (iV a1)), (4, .box [.sl (some 85) []]), (6, .d false [.sl none (x5.2.2.2.map eRt)]), (8, .box (eRt x7.2.2.2)), (9, .ov false [.sl (some 3) ((x22.2.2.2 ++ [v27]).map eI)])] [(3, {n := some x22.2.2.2.length}), (5, {row := some (eI v25)}), (6, {row := some (eI v25)}), (10, {lend := some (none, [.p (iV v26.1)], .box (eCu v26.2), false)}), (11, {call := some (none, [.p (iV v27)], true)}), (13, {fix := some (70, .ov false [.sl (some 3) ((x22.2.2.2 ++ [v27]).map eI)])})] (B6 (show (x22.2.2.2.map eI).length = x22.2.2.2.length from (List.length_map ..)) (idxO_some hv25).1 (map_get eI (idxO_some hv25).2) (show getRow [[.sl (some 3) (x22.2.2.2.map eI)]] [(0, 0), ((Int.toNat (w64 ((x22.2.2.2.length : Int) - 1))), 0)] = some (eI v25) from ((gr0 rfl).trans (gre (map_get eI (idxO_some hv25).2)))) (wk_spec_l1Cur_pick hv26) (wk_spec_l1Most hv27) (A3 (show List.length ((x22.2.2.2.map eI) : List (List C)) + List.length ((([v27]).map eI) : List (List C)) ≤ 1099511627776 from (by have hg := (guardO_some hu28); simpa using hg)) (show ∀ row ∈ ((([v27]).map eI) : List (List C)), row.length = 1 from (rows_len fun _ => rfl)) (show (SV.ov false [.sl (some 3) ((x22.2.2.2.map eI) ++ (([v27]).map eI))] : SV) = .ov false [.sl (some 3) ((x22.2.2.2 ++ [v27]).map eI)] from (congrArg (fun z => SV.ov false [.sl (some 3) z]) (List.map_append ..).symm))))) ?_
      refine b_n ?_
      exact lqn (v26.2.1, v26.2.2.1, v26.2.2.2, (x22.2.2.2 ++ [v27])) h
     ·replace h := ite_f hc5_23 h
      refine k_exit ?_
      refine q_x ?_
      refine lq_x ?_
      refine b_x ?_
      have hyy := hy_x22 _ (oi h).symm
      subst hyy
      have h := hk_x22
      refine q_n ?_
      exact jx x22 h
   ·replace h := bs h
    obtain ⟨v29, hv29, h⟩ := h
    refine k_sreg (r_gq [(0, .box (eCu v29.2)), (1, .p (iV a1)), (4, .box [.sl (some 85) []]), (6, .d false [.sl none (x5.2.2.2.map eRt)]), (8, .box (eRt v6.1)), (44, .p (.bool v29.1))] [(1, {lend := some (none, [.p (.bool v29.1)], .box (eCu v29.2), false)})] (A1 (wk_spec_l1Cur_one hv29))) ?_
    refine kc v29.1 (fun hc2_29 => ?_) (fun hc2_29 => ?_)
    ·replace h := ite_t hc2_29 h
     replace h := bs h
     obtain ⟨v31, hv31, h⟩ := h
     replace h := bs h
     obtain ⟨v32, hv32, h⟩ := h
     refine k_reg (r_dq Tryz_mixed 4 [(3, 0)] [(0, .box (eCu v31.2)), (1, .p (iV a1)), (4, .box [.sl (some 85) []]), (6, .d false [.sl none (x5.2.2.2.map eRt)]), (8, .box (eRt v32))] [(2, {pre := some (0, .u), fix := some (47, .d false [.sl none (([(-5), (-1), 1, 3]).map eI)])}), (3, {lend := some (none, [.p (iV v31.1)], .box (eCu v31.2), false)}), (4, {call := some (none, [.p (vRt v32)], true)})] (A3 (show (SV.d false (eraR [.sl (some 3) (([(-5), (-1), 1, 3]).map eI)]) : SV) = .d false [.sl none (([(-5), (-1), 1, 3]).map eI)] from (congrArg (fun z => SV.d false z) (erc_sl (eraL_enc er_I) rfl))) (wk_spec_l1Cur_among hv31) (wk_spec_liPlus hv32))) ?_
     refine q_n ?_
     exact jx (v31.2.1, v31.2.2.1, v31.2.2.2, v32.1, v32.2) h
    ·replace h := ite_f hc2_29 h
     refine k_skip ?_
     refine q_n ?_
     exact jx (v29.2.1, v29.2.2.1, v29.2.2.2, v6.1.1, v6.1.2) h
  ·refine k_sreg (r_gq [(0, .box (eCu (x2.1, x2.2.1, x2.2.2.1))), (1, .p (iV a1)), (4, .box [.sl (some 85) []]), (5, .p (iV x2.2.2.2)), (6, .d false [.sl none (([v3, v4]).map eRt)]), (7, .p (iV 0))] [] trivial) ?_
   refine k_block ?_
   obtain ⟨y34, hl_x33, hk_x33⟩ := bs h
   clear h
   refine k_loop (J := fun (x : ((List Int) × Int × Int × (List Qr) × Int)) => [(0, .box (eCu (x.1, x.2.1, x.2.2.1))), (1, .p (iV a1)), (4, .box [.sl (some 85) []]), (5, .p (iV x2.2.2.2)), (6, .d false [.sl none (x.2.2.2.1.map eRt)]), (7, .p (iV x.2.2.2.2))]) hl_x33 (wk_of (by kernel_rfl) (by kernel_rfl)) (fun x33 o_x33 h hy_x33 => ?_)
   unfold spec_l1Cur_liftGrid_b3 at h
   refine k_seq ?_
   refine k_sreg (l1 := [(0, .box (eCu (x33.1, x33.2.1, x33.2.2.1))), (1, .p (iV a1)), (4, .box [.sl (some 85) []]), (5, .p (iV x2.2.2.2)), (6, .d false [.sl none (x33.2.2.2.1.map eRt)]), (7, .p (iV x33.2.2.2.2)), (32, .p (.bool ((decide ((x33.2.2.2.1.length : Int) < (w64 (x2.2.2.2 + 2)))) && (decide (x33.2.2.2.2 < 60)))))]) ?_ ?_
   ·rcases ft (decide ((x33.2.2.2.1.length : Int) < (w64 (x2.2.2.2 + 2)))) with ha0 | ha0
    ·exact RegOk.of_eq (l2 := [(0, .box (eCu (x33.1, x33.2.1, x33.2.2.1))), (1, .p (iV a1)), (4, .box [.sl (some 85) []]), (5, .p (iV x2.2.2.2)), (6, .d false [.sl none (x33.2.2.2.1.map eRt)]), (7, .p (iV x33.2.2.2.2)), (32, .p (.bool ((decide ((x33.2.2.2.1.length : Int) < (w64 (x2.2.2.2 + 2)))) && (decide (x33.2.2.2.2 < 60)))))]) (r_gq [(0, .box (eCu (x33.1, x33.2.1, x33.2.2.1))), (1, .p (iV a1)), (4, .box [.sl (some 85) []]), (5, .p (iV x2.2.2.2)), (6, .d false [.sl none (x33.2.2.2.1.map eRt)]), (7, .p (iV x33.2.2.2.2)), (32, .p (.bool (decide (x33.2.2.2.2 < 60))))] [(1, {n := some x33.2.2.2.1.length}), (6, gT), (7, gT), (8, bT)] (A4 (show (x33.2.2.2.1.map eRt).length = x33.2.2.2.1.length from (List.length_map ..)) ha0 ha0 ha0)) (by simp [ha0])
    ·exact RegOk.of_eq (l2 := [(0, .box (eCu (x33.1, x33.2.1, x33.2.2.1))), (1, .p (iV a1)), (4, .box [.sl (some 85) []]), (5, .p (iV x2.2.2.2)), (6, .d false [.sl none (x33.2.2.2.1.map eRt)]), (7, .p (iV x33.2.2.2.2)), (32, .p (.bool ((decide ((x33.2.2.2.1.length : Int) < (w64 (x2.2.2.2 + 2)))) && (decide (x33.2.2.2.2 < 60)))))]) (r_gq [(0, .box (eCu (x33.1, x33.2.1, x33.2.2.1))), (1, .p (iV a1)), (4, .box [.sl (some 85) []]), (5, .p (iV x2.2.2.2)), (6, .d false [.sl none (x33.2.2.2.1.map eRt)]), (7, .p (iV x33.2.2.2.2)), (32, .p (.bool false))] [(1, {n := some x33.2.2.2.1.length}), (6, gF), (7, gF), (8, bF)] (A4 (show (x33.2.2.2.1.map eRt).length = x33.2.2.2.1.length from (List.length_map ..)) ha0 ha0 ha0)) (by simp [ha0])
   ·refine kc ((decide ((x33.2.2.2.1.length : Int) < (w64 (x2.2.2.2 + 2)))) && (decide (x33.2.2.2.2 < 60))) (fun hc5_34 => ?_) (fun hc5_34 => ?_)
    ·replace h := ite_t hc5_34 h
     refine k_skip ?_
     refine q_n ?_
     refine k_seq ?_
     refine k_block ?_
     replace h := bs h
     obtain ⟨v36, hv36, h⟩ := h
     replace h := bs h
     obtain ⟨v37, hv37, h⟩ := h
     refine k_reg (r_gq [(0, .box (eCu v36.2)), (1, .p (iV a1)), (4, .box [.sl (some 85) []]), (5, .p (iV x2.2.2.2)), (6, .d false [.sl none (v37.map eRt)]), (7, .p (iV x33.2.2.2.2))] [(3, {lend := some (none, [.p (vRt v36.1)], .box (eCu v36.2), false)}), (4, {call := some (none, [.d false [.sl none (v37.map eRt)]], false)})] (A2 (wk_spec_l1Cur_gridRat hv36) (wk_spec_imPut hv37))) ?_
     refine b_n ?_
     refine q_n ?_
     refine k_reg (r_gq [(0, .box (eCu v36.2)), (1, .p (iV a1)), (4, .box [.sl (some 85) []]), (5, .p (iV x2.2.2.2)), (6, .d false [.sl none (v37.map eRt)]), (7, .p (iV (w64 (x33.2.2.2.2 + 1))))] [] trivial) ?_
     exact lqn (v36.2.1, v36.2.2.1, v36.2.2.2, v37, (w64 (x33.2.2.2.2 + 1))) h
    ·replace h := ite_f hc5_34 h
     refine k_exit ?_
     refine q_x ?_
     refine lq_x ?_
     refine b_x ?_
     have hyy := hy_x33 _ (oi h).symm
     subst hyy
     have h := hk_x33
     refine q_n ?_
     exact jx (x33.1, x33.2.1, x33.2.2.1, x33.2.2.2.1) h
 ·replace h := bs h
  obtain ⟨v38, hv38, h⟩ := h
  refine k_sreg (r_gq [(0, .box (eCu v38.2)), (1, .p (iV a1)), (4, .box [.sl (some 85) []]), (5, .p (iV v1.1)), (20, .p (.bool v38.1))] [(1, {lend := some (none, [.p (.bool v38.1)], .box (eCu v38.2), false)})] (A1 (wk_spec_l1Cur_one hv38))) ?_
  refine kc v38.1 (fun hc2_38 => ?_) (fun hc2_38 => ?_)
  ·replace h := ite_t hc2_38 h
   refine k_reg (r_gq [(0, .box (eCu v38.2)), (1, .p (iV a1)), (4, .box [.sl (some 85) []]), (5, .p (iV 10))] [] trivial) ?_
   refine q_n ?_
   exact jx (v38.2.1, v38.2.2.1, v38.2.2.2, 10) h
  ·replace h := ite_f hc2_38 h
   refine k_skip ?_
   refine q_n ?_
   exact jx (v38.2.1, v38.2.2.1, v38.2.2.2, v1.1) h
theorem wk_spec_raUnit {a0 : Qr}  {r : Bool} (h : spec_raUnit a0 = some r) : Meets Tryz.prog 163 [.v (vRt a0)] { vals := [.p (.bool r)] } := by
 refine mo Tryz.func163 [(0, .p (vRt a0))] ?_
 unfold spec_raUnit at h
 refine k_sreg (r_gq [(1, .box (eRt a0))] [] trivial) ?_
 replace h := bs h
 obtain ⟨v1, hv1, h⟩ := h
 replace h := bs h
 obtain ⟨w3, hw3, h⟩ := h
 refine k_sreg (l1 := [(2, .p (.bool w3))]) ?_ ?_
 ·clear h
  rcases ft v1 with ha0 | ha0
  ·replace hw3 := ite_t ha0 hw3
   replace hw3 := bs hw3
   obtain ⟨v2, hv2, hw3⟩ := hw3
   have hw3 := oi hw3
   subst hw3
   exact (r_gq [(2, .p (.bool v2))] [(1, {call := some (none, [.p (.bool v1)], true)}), (3, gT), (4, gT), (5, gT), (6, gT), (7, {g := some true, call := some (none, [.p (.bool v2)], true)}), (8, bT)] (B6 (wk_spec_raGood hv1) ha0 ha0 ha0 ha0 ha0 (A2 (wk_spec_l1In hv2) ha0)))
  ·replace hw3 := ite_f ha0 hw3
   have hw3 := oi hw3
   subst hw3
   exact (r_gq [(2, .p (.bool false))] [(1, {call := some (none, [.p (.bool v1)], true)}), (3, gF), (4, gF), (5, gF), (6, gF), (7, gF), (8, bF)] (B6 (wk_spec_raGood hv1) ha0 ha0 ha0 ha0 ha0 (A1 ha0)))
 ·refine k_ret ?_
  obtain rfl := oi h
  exact er [(.p (.bool w3), 2)]
theorem wk_spec_imCoord {a0 : Qr}  {r : Bool} (h : spec_imCoord a0 = some r) : Meets Tryz.prog 125 [.v (vRt a0)] { vals := [.p (.bool r)] } := by
 refine mo Tryz.func125 [(0, .p (vRt a0))] ?_
 unfold spec_imCoord at h
 refine k_sreg (r_gq [(1, .box (eRt a0))] [] trivial) ?_
 replace h := bs h
 obtain ⟨v1, hv1, h⟩ := h
 refine k_sreg (l1 := [(2, .p (.bool (v1 && (decide (a0.2 ≤ 100)))))]) ?_ ?_
 ·rcases ft v1 with ha0 | ha0
  ·exact RegOk.of_eq (l2 := [(2, .p (.bool (v1 && (decide (a0.2 ≤ 100)))))]) (r_gq [(2, .p (.bool (decide (a0.2 ≤ 100))))] [(1, {call := some (none, [.p (.bool v1)], true)}), (3, gT), (4, gT), (5, gT), (6, bT)] (A5 (wk_spec_raUnit hv1) ha0 ha0 ha0 ha0)) (by simp [ha0])
  ·exact RegOk.of_eq (l2 := [(2, .p (.bool (v1 && (decide (a0.2 ≤ 100)))))]) (r_gq [(2, .p (.bool false))] [(1, {call := some (none, [.p (.bool v1)], true)}), (3, gF), (4, gF), (5, gF), (6, bF)] (A5 (wk_spec_raUnit hv1) ha0 ha0 ha0 ha0)) (by simp [ha0])
 ·refine k_ret ?_
  obtain rfl := oi h
  exact er [(.p (.bool (v1 && (decide (a0.2 ≤ 100)))), 2)]
theorem wk_spec_liGood {a0 : (List Qp)}  {r : Bool} (h : spec_liGood a0 = some r) : Meets Tryz.prog 64 [.d true [.sl none (a0.map ePt)]] { vals := [.p (.bool r)] } := by
 refine mo Tryz.func64 [(0, .d true [.sl none (a0.map ePt)])] ?_
 unfold spec_liGood at h
 refine k_sreg (r_gq [(1, .box [.sl none (a0.map ePt)])] [] trivial) ?_
 refine k_sreg (r_gq [(1, .box [.sl none (a0.map ePt)]), (3, .p (iV (a0.length : Int)))] [(1, bT), (2, {n := some a0.length})] (A2 (show frR [.sl none (a0.map ePt)] = true from (frR1 (frL_enc (fr_P (fr_P fr_I fr_I) (fr_P fr_I fr_I))) rfl)) (show (a0.map ePt).length = a0.length from (List.length_map ..)))) ?_
 refine k_seq ?_
 replace h := bs h
 obtain ⟨v1, hv1, h⟩ := h
 refine k_sreg (r_gq [(1, .box [.sl none (a0.map ePt)]), (3, .p (iV (a0.length : Int))), (13, .p (.bool (!v1)))] [(1, {call := some (none, [.p (.bool v1)], true)})] (A1 (wk_spec_l1In hv1))) ?_
 refine kc (!v1) (fun hc2_1 => ?_) (fun hc2_1 => ?_)
 ·replace h := ite_t hc2_1 h
  refine k_sreg (r_gq [(2, .p (.bool false))] [] trivial) ?_
  refine k_ret ?_
  refine q_r ?_
  obtain rfl := oi h
  exact er [(.p (.bool false), 2)]
 ·replace h := ite_f hc2_1 h
  refine k_skip ?_
  refine q_n ?_
  refine k_join (J := fun (x : Unit) => [(1, .box [.sl none (a0.map ePt)]), (3, .p (iV (a0.length : Int)))]) (K := fun x => spec_liGood_k1 a0 x = some r) (fun x3 h => ?_) ?_
  ·unfold spec_liGood_k1 at h
   replace h := bs h
   obtain ⟨v4, hv4, h⟩ := h
   replace h := bs h
   obtain ⟨v5, hv5, h⟩ := h
   refine k_sreg (r_dq Tryz_mixed 13 [(12, 6)] [(6, .box (ePt v4)), (7, .box (ePt v5))] [(1, bT), (2, {row := some (ePt v4)}), (5, bT), (8, {row := some (ePt v5)})] (A6 (show frR [.sl none (a0.map ePt)] = true from (frR1 (frL_enc (fr_P (fr_P fr_I fr_I) (fr_P fr_I fr_I))) rfl)) (idxO_some hv4).1 (map_get ePt (idxO_some hv4).2) (show frR [.sl none (a0.map ePt)] = true from (frR1 (frL_enc (fr_P (fr_P fr_I fr_I) (fr_P fr_I fr_I))) rfl)) (idxO_some hv5).1 (map_get ePt (idxO_some hv5).2))) ?_
   replace h := bs h
   obtain ⟨v6, hv6, h⟩ := h
   replace h := bs h
   obtain ⟨v7, hv7, h⟩ := h
   replace h := bs h
   obtain ⟨w11, hw11, h⟩ := h
   refine k_sreg (l1 := [(2, .p (.bool w11))]) ?_ ?_
   ·clear h
    rcases ft (v7 == 0) with ha1 | ha1
    ·replace hw11 := ite_t ha1 hw11
     replace hw11 := bs hw11
     obtain ⟨v8, hv8, hw11⟩ := hw11
     replace hw11 := bs hw11
     obtain ⟨v9, hv9, hw11⟩ := hw11
     rcases ft (v9 == 0) with ha2 | ha2
     ·replace hw11 := ite_t ha2 hw11
      replace hw11 := bs hw11
      obtain ⟨v10, hv10, hw11⟩ := hw11
      have hw11 := oi hw11
      subst hw11
      exact (r_dq Tryz_mixed 18 [] [(2, .p (.bool ((v5.2.1 == v10.1) && (v5.2.2 == v10.2))))] [(2, {call := some (none, [.p (vRt v6)], true)}), (3, {call := some (none, [.p (iV v7)], true)}), (6, gT), (7, gT), (8, {g := some true, call := some (none, [.p (vRt v8)], true)}), (9, {g := some true, call := some (none, [.p (iV v9)], true)}), (10, gT), (11, bT), (13, gT), (14, gT), (15, gT), (16, gT), (17, {g := some true, call := some (none, [.p (vRt v10)], true)}), (18, {g := some true, pv := some (.bool ((v5.2.1 == v10.1) && (v5.2.2 == v10.2)))}), (19, bT)] (B6 (wk_spec_raInt hv6) (wk_spec_raCmp hv7) ha1 ha1 ha1 (wk_spec_raInt hv8) (B6 ha1 (wk_spec_raCmp hv9) ha1 ha1 ha2 ha2 (B6 ha2 ha2 ha2 (wk_spec_liPlus hv10) ha2 (show PureAt Tryz.prog (.binOp .eql 27 (.tmp 106) (.tmp 109) 27) [vRt v5.2, vRt v10] (.bool ((v5.2.1 == v10.1) && (v5.2.2 == v10.2))) from (pure_eql2 (by kernel_rfl))) (A1 ha2)))))
     ·replace hw11 := ite_f ha2 hw11
      have hw11 := oi hw11
      subst hw11
      exact (r_dq Tryz_mixed 18 [] [(2, .p (.bool false))] [(2, {call := some (none, [.p (vRt v6)], true)}), (3, {call := some (none, [.p (iV v7)], true)}), (6, gT), (7, gT), (8, {g := some true, call := some (none, [.p (vRt v8)], true)}), (9, {g := some true, call := some (none, [.p (iV v9)], true)}), (10, gT), (11, bT), (13, gF), (14, gF), (15, gF), (16, gF), (17, gF), (18, gF), (19, bF)] (B6 (wk_spec_raInt hv6) (wk_spec_raCmp hv7) ha1 ha1 ha1 (wk_spec_raInt hv8) (B6 ha1 (wk_spec_raCmp hv9) ha1 ha1 ha2 ha2 (A5 ha2 ha2 ha2 ha2 ha2))))
    ·replace hw11 := ite_f ha1 hw11
     have hw11 := oi hw11
     subst hw11
     exact (r_dq Tryz_mixed 18 [] [(2, .p (.bool false))] [(2, {call := some (none, [.p (vRt v6)], true)}), (3, {call := some (none, [.p (iV v7)], true)}), (6, gF), (7, gF), (8, gF), (9, gF), (10, gF), (11, bF), (13, gF), (14, gF), (15, gF), (16, gF), (17, gF), (18, gF), (19, bF)] (B6 (wk_spec_raInt hv6) (wk_spec_raCmp hv7) ha1 ha1 ha1 ha1 (B6 ha1 ha1 (show false = false from rfl) (show false = false from rfl) (show false = false from rfl) (show false = false from rfl) (A3 (show false = false from rfl) (show false = false from rfl) (show false = false from rfl)))))
   ·refine k_ret ?_
    obtain rfl := oi h
    exact er [(.p (.bool w11), 2)]
  ·refine k_sreg (r_gq [(1, .box [.sl none (a0.map ePt)]), (3, .p (iV (a0.length : Int))), (15, .d false [.sl none (a0.map ePt)]), (16, .p (iV (a0.length : Int))), (17, .p (iV 0))] [(1, bT), (2, {n := some a0.length})] (A2 (show frR [.sl none (a0.map ePt)] = true from (frR1 (frL_enc (fr_P (fr_P fr_I fr_I) (fr_P fr_I fr_I))) rfl)) (show (a0.map ePt).length = a0.length from (List.length_map ..)))) ?_
   refine k_block ?_
   obtain ⟨y13, hl_x12, hk_x12⟩ := bs h
   clear h
   refine k_loop (J := fun (x : Int) => [(1, .box [.sl none (a0.map ePt)]), (3, .p (iV (a0.length : Int))), (15, .d false [.sl none (a0.map ePt)]), (16, .p (iV (a0.length : Int))), (17, .p (iV x))]) hl_x12 (wk_of (by kernel_rfl) (by kernel_rfl)) (fun x12 o_x12 h hy_x12 => ?_)
   unfold spec_liGood_b1 at h
   refine k_sreg (r_gq [(1, .box [.sl none (a0.map ePt)]), (3, .p (iV (a0.length : Int))), (15, .d false [.sl none (a0.map ePt)]), (16, .p (iV (a0.length : Int))), (17, .p (iV x12)), (18, .p (.bool (decide (x12 < (a0.length : Int)))))] [] trivial) ?_
   refine k_seq ?_
   refine kc (decide (x12 < (a0.length : Int))) (fun hc5_13 => ?_) (fun hc5_13 => ?_)
   ·replace h := ite_t hc5_13 h
    refine k_skip ?_
    refine q_n ?_
    refine k_seq ?_
    refine k_block ?_
    replace h := bs h
    obtain ⟨v15, hv15, h⟩ := h
    refine k_sreg (r_gq [(1, .box [.sl none (a0.map ePt)]), (3, .p (iV (a0.length : Int))), (4, .p (iV x12)), (5, .box (ePt v15)), (15, .d false [.sl none (a0.map ePt)]), (16, .p (iV (a0.length : Int))), (17, .p (iV x12))] [(1, {row := some (ePt v15)})] (A2 (idxO_some hv15).1 (map_get ePt (idxO_some hv15).2))) ?_
    refine k_seq ?_
    replace h := bs h
    obtain ⟨v16, hv16, h⟩ := h
    replace h := bs h
    obtain ⟨w19, hw19, h⟩ := h
    refine k_sreg (l1 := [(1, .box [.sl none (a0.map ePt)]), (3, .p (iV (a0.length : Int))), (4, .p (iV x12)), (5, .box (ePt v15)), (15, .d false [.sl none (a0.map ePt)]), (16, .p (iV (a0.length : Int))), (17, .p (iV x12)), (52, .p (.bool w19))]) ?_ ?_
    ·clear h
     rcases ft (!v16) with ha2 | ha2
     ·replace hw19 := ite_t ha2 hw19
      have hw19 := oi hw19
      subst hw19
      exact (r_gq [(1, .box [.sl none (a0.map ePt)]), (3, .p (iV (a0.length : Int))), (4, .p (iV x12)), (5, .box (ePt v15)), (15, .d false [.sl none (a0.map ePt)]), (16, .p (iV (a0.length : Int))), (17, .p (iV x12)), (52, .p (.bool true))] [(2, {call := some (none, [.p (.bool v16)], true)}), (5, gT), (6, gT), (7, gT), (8, gT), (9, bT), (11, gT), (12, gT), (13, gT), (14, gT), (15, bT), (17, gT), (18, gT), (19, gT), (20, gT), (21, gT), (22, gT), (23, gT), (24, gT), (25, gT), (26, gT), (27, gT), (28, gT), (29, gT), (30, bT)] (B6 (wk_spec_imCoord hv16) ha2 ha2 ha2 ha2 ha2 (B6 (show true = true from rfl) (show true = true from rfl) (show true = true from rfl) (show true = true from rfl) (show true = true from rfl) (show true = true from rfl) (B6 (show true = true from rfl) (show true = true from rfl) (show true = true from rfl) (show true = true from rfl) (show true = true from rfl) (show true = true from rfl) (B6 (show true = true from rfl) (show true = true from rfl) (show true = true from rfl) (show true = true from rfl) (show true = true from rfl) (show true = true from rfl) (A1 (show true = true from rfl)))))))
     ·replace hw19 := ite_f ha2 hw19
      replace hw19 := bs hw19
      obtain ⟨v17, hv17, hw19⟩ := hw19
      rcases ft (!v17) with ha3 | ha3
      ·replace hw19 := ite_t ha3 hw19
       have hw19 := oi hw19
       subst hw19
       exact (r_gq [(1, .box [.sl none (a0.map ePt)]), (3, .p (iV (a0.length : Int))), (4, .p (iV x12)), (5, .box (ePt v15)), (15, .d false [.sl none (a0.map ePt)]), (16, .p (iV (a0.length : Int))), (17, .p (iV x12)), (52, .p (.bool true))] [(2, {call := some (none, [.p (.bool v16)], true)}), (5, gF), (6, gF), (7, {g := some false, call := some (none, [.p (.bool v17)], true)}), (8, gF), (9, bF), (11, gT), (12, gT), (13, gT), (14, gT), (15, bT), (17, gT), (18, gT), (19, gT), (20, gT), (21, gT), (22, gT), (23, gT), (24, gT), (25, gT), (26, gT), (27, gT), (28, gT), (29, gT), (30, bT)] (B6 (wk_spec_imCoord hv16) ha2 ha2 ha2 (wk_spec_raGood hv17) ha2 (B6 ha2 ha3 ha3 ha3 ha3 ha3 (B6 (show true = true from rfl) (show true = true from rfl) (show true = true from rfl) (show true = true from rfl) (show true = true from rfl) (show true = true from rfl) (B6 (show true = true from rfl) (show true = true from rfl) (show true = true from rfl) (show true = true from rfl) (show true = true from rfl) (show true = true from rfl) (A2 (show true = true from rfl) (show true = true from rfl)))))))
      ·replace hw19 := ite_f ha3 hw19
       rcases ft (decide (v15.2.2 > 100)) with ha4 | ha4
       ·replace hw19 := ite_t ha4 hw19
        have hw19 := oi hw19
        subst hw19
        exact (r_gq [(1, .box [.sl none (a0.map ePt)]), (3, .p (iV (a0.length : Int))), (4, .p (iV x12)), (5, .box (ePt v15)), (15, .d false [.sl none (a0.map ePt)]), (16, .p (iV (a0.length : Int))), (17, .p (iV x12)), (52, .p (.bool true))] [(2, {call := some (none, [.p (.bool v16)], true)}), (5, gF), (6, gF), (7, {g := some false, call := some (none, [.p (.bool v17)], true)}), (8, gF), (9, bF), (11, gF), (12, gF), (13, gF), (14, gF), (15, bF), (17, gT), (18, gT), (19, gT), (20, gT), (21, gT), (22, gT), (23, gT), (24, gT), (25, gT), (26, gT), (27, gT), (28, gT), (29, gT), (30, bT)] (B6 (wk_spec_imCoord hv16) ha2 ha2 ha2 (wk_spec_raGood hv17) ha2 (B6 ha2 ha3 ha3 ha3 ha3 ha3 (B6 ha4 ha4 ha4 ha4 ha4 ha4 (B6 ha4 ha4 ha4 ha4 ha4 ha4 (A2 ha4 ha4))))))
       ·replace hw19 := ite_f ha4 hw19
        replace hw19 := bs hw19
        obtain ⟨v18, hv18, hw19⟩ := hw19
        have hw19 := oi hw19
        subst hw19
        exact (r_gq [(1, .box [.sl none (a0.map ePt)]), (3, .p (iV (a0.length : Int))), (4, .p (iV x12)), (5, .box (ePt v15)), (15, .d false [.sl none (a0.map ePt)]), (16, .p (iV (a0.length : Int))), (17, .p (iV x12)), (52, .p (.bool (!v18)))] [(2, {call := some (none, [.p (.bool v16)], true)}), (5, gF), (6, gF), (7, {g := some false, call := some (none, [.p (.bool v17)], true)}), (8, gF), (9, bF), (11, gF), (12, gF), (13, gF), (14, gF), (15, bF), (17, gF), (18, gF), (19, gF), (20, gF), (21, gF), (22, gF), (23, gF), (24, gF), (25, gF), (26, gF), (27, gF), (28, {g := some false, call := some (none, [.p (.bool v18)], true)}), (29, gF), (30, bF)] (B6 (wk_spec_imCoord hv16) ha2 ha2 ha2 (wk_spec_raGood hv17) ha2 (B6 ha2 ha3 ha3 ha3 ha3 ha3 (B6 ha4 ha4 ha4 ha4 ha4 ha4 (B6 ha4 ha4 ha4 ha4 ha4 ha4 (A3 (wk_spec_l1In hv18) ha4 ha4))))))
    ·refine kc w19 (fun hc7_19 => ?_) (fun hc7_19 => ?_)
     ·replace h := ite_t hc7_19 h
      refine k_sreg (r_gq [(2, .p (.bool false))] [] trivial) ?_
      refine k_ret ?_
      refine q_r ?_
      refine b_r ?_
      refine q_r ?_
      refine lq_r ?_
      refine b_r ?_
      refine q_r ?_
      have hyy := hy_x12 _ (oi h).symm
      subst hyy
      have h := hk_x12
      dsimp only [Sum.elim] at h
      obtain rfl := oi h
      exact er [(.p (.bool false), 2)]
     ·replace h := ite_f hc7_19 h
      refine k_skip ?_
      refine q_n ?_
      replace h := bs h
      obtain ⟨w24, hw24, h⟩ := h
      refine k_sreg (l1 := [(1, .box [.sl none (a0.map ePt)]), (3, .p (iV (a0.length : Int))), (15, .d false [.sl none (a0.map ePt)]), (16, .p (iV (a0.length : Int))), (17, .p (iV x12)), (80, .p (.bool w24))]) ?_ ?_
      ·clear h
       rcases ft (decide (x12 > 0)) with ha3 | ha3
       ·replace hw24 := ite_t ha3 hw24
        replace hw24 := bs hw24
        obtain ⟨v21, hv21, hw24⟩ := hw24
        replace hw24 := bs hw24
        obtain ⟨v22, hv22, hw24⟩ := hw24
        rcases ft (decide (v22 ≥ 0)) with ha4 | ha4
        ·replace hw24 := ite_t ha4 hw24
         have hw24 := oi hw24
         subst hw24
         exact (r_dq Tryz_mixed 24 [] [(1, .box [.sl none (a0.map ePt)]), (3, .p (iV (a0.length : Int))), (15, .d false [.sl none (a0.map ePt)]), (16, .p (iV (a0.length : Int))), (17, .p (iV x12)), (80, .p (.bool true))] [(3, gT), (4, {g := some true, b := some true}), (5, gT), (6, gT), (7, {g := some true, row := some (ePt v21)}), (8, gT), (9, gT), (10, gT), (11, gT), (12, {g := some true, call := some (none, [.p (iV v22)], true)}), (13, gT), (14, gT), (15, gT), (16, gT), (17, gT), (18, gT), (19, gT), (20, gT), (21, gT), (22, gT), (23, gT), (24, gT), (25, gT), (26, {g := some true, b := some true}), (27, bT)] (B6 ha3 ha3 (show frR [.sl none (a0.map ePt)] = true from (frR1 (frL_enc (fr_P (fr_P fr_I fr_I) (fr_P fr_I fr_I))) rfl)) ha3 ha3 ha3 (B6 (idxO_some hv21).1 (map_get ePt (idxO_some hv21).2) ha3 ha3 ha3 ha3 (B6 ha3 (wk_spec_raCmp hv22) ha3 ha3 ha4 ha4 (B6 ha4 ha4 ha4 ha4 ha4 ha4 (A6 ha4 ha4 ha4 ha3 ha4 ha3))))))
        ·replace hw24 := ite_f ha4 hw24
         replace hw24 := bs hw24
         obtain ⟨v23, hv23, hw24⟩ := hw24
         have hw24 := oi hw24
         subst hw24
         exact (r_dq Tryz_mixed 24 [] [(1, .box [.sl none (a0.map ePt)]), (3, .p (iV (a0.length : Int))), (15, .d false [.sl none (a0.map ePt)]), (16, .p (iV (a0.length : Int))), (17, .p (iV x12)), (80, .p (.bool (decide (v23 > 0))))] [(3, gT), (4, {g := some true, b := some true}), (5, gT), (6, gT), (7, {g := some true, row := some (ePt v21)}), (8, gT), (9, gT), (10, gT), (11, gT), (12, {g := some true, call := some (none, [.p (iV v22)], true)}), (13, gT), (14, gT), (15, gF), (16, {g := some false, b := some true}), (17, gF), (18, gF), (19, {g := some false, row := some (ePt v21)}), (20, gF), (21, gF), (22, gF), (23, gF), (24, {g := some false, call := some (none, [.p (iV v23)], true)}), (25, gF), (26, {g := some true, b := some false}), (27, bT)] (B6 ha3 ha3 (show frR [.sl none (a0.map ePt)] = true from (frR1 (frL_enc (fr_P (fr_P fr_I fr_I) (fr_P fr_I fr_I))) rfl)) ha3 ha3 ha3 (B6 (idxO_some hv21).1 (map_get ePt (idxO_some hv21).2) ha3 ha3 ha3 ha3 (B6 ha3 (wk_spec_raCmp hv22) ha3 ha3 ha4 ha4 (B6 (show frR [.sl none (a0.map ePt)] = true from (frR1 (frL_enc (fr_P (fr_P fr_I fr_I) (fr_P fr_I fr_I))) rfl)) ha4 ha4 ha4 (idxO_some hv21).1 (map_get ePt (idxO_some hv21).2) (B6 ha4 ha4 ha4 ha4 ha4 (wk_spec_raCmp hv23) (A4 ha4 ha3 ha4 ha3)))))))
       ·replace hw24 := ite_f ha3 hw24
        have hw24 := oi hw24
        subst hw24
        exact (r_dq Tryz_mixed 24 [] [(1, .box [.sl none (a0.map ePt)]), (3, .p (iV (a0.length : Int))), (15, .d false [.sl none (a0.map ePt)]), (16, .p (iV (a0.length : Int))), (17, .p (iV x12)), (80, .p (.bool false))] [(3, gF), (4, gF), (5, gF), (6, gF), (7, gF), (8, gF), (9, gF), (10, gF), (11, gF), (12, gF), (13, gF), (14, gF), (26, gF), (27, bF)] (B6 ha3 ha3 ha3 ha3 ha3 ha3 (B6 ha3 ha3 ha3 ha3 ha3 ha3 (A2 ha3 ha3))))
      ·refine kc w24 (fun hc6_24 => ?_) (fun hc6_24 => ?_)
       ·replace h := ite_t hc6_24 h
        refine k_sreg (r_gq [(2, .p (.bool false))] [] trivial) ?_
        refine k_ret ?_
        refine b_r ?_
        refine q_r ?_
        refine lq_r ?_
        refine b_r ?_
        refine q_r ?_
        have hyy := hy_x12 _ (oi h).symm
        subst hyy
        have h := hk_x12
        dsimp only [Sum.elim] at h
        obtain rfl := oi h
        exact er [(.p (.bool false), 2)]
       ·replace h := ite_f hc6_24 h
        refine k_skip ?_
        refine b_n ?_
        refine q_n ?_
        refine k_reg (r_gq [(1, .box [.sl none (a0.map ePt)]), (3, .p (iV (a0.length : Int))), (15, .d false [.sl none (a0.map ePt)]), (16, .p (iV (a0.length : Int))), (17, .p (iV (w64 (x12 + 1))))] [] trivial) ?_
        exact lqn (w64 (x12 + 1)) h
   ·replace h := ite_f hc5_13 h
    refine k_exit ?_
    refine q_x ?_
    refine lq_x ?_
    refine b_x ?_
    have hyy := hy_x12 _ (oi h).symm
    subst hyy
    have h := hk_x12
    dsimp only [Sum.elim] at h
    refine q_n ?_
    exact jx () h
theorem wk_spec_l1Cur_lift {a0 : Cu}  {r : ((List Qp) × Cu)} (h : spec_l1Cur_lift a0 = some r) : MeetsB Tryz.prog 112 (.box (eCu a0)) [] [.ov true [.sl (some 85) (r.1.map ePt)]] (.box (eCu r.2)) := by
 refine mob Tryz.func112 [(0, .box (eCu a0))] ?_
 unfold spec_l1Cur_lift at h
 refine k_sreg (r_gq [(0, .box (eCu a0)), (2, .box [.sl (some 85) []])] [] trivial) ?_
 replace h := bs h
 obtain ⟨v1, hv1, h⟩ := h
 replace h := bs h
 obtain ⟨v2, hv2, h⟩ := h
 refine k_sreg (r_gq [(0, .box (eCu v2.2)), (2, .box [.sl (some 85) []]), (3, .box [.sl (some 85) (v2.1.map ePt)])] [(3, {lend := some (some [.d false [.sl none (([1, 2, 3, 4, 5, 6, 8, 12, 100]).map eI)]], [.p (iV v1.1)], .box (eCu v1.2), false), fix := some (7, .d false [.sl none (([1, 2, 3, 4, 5, 6, 8, 12, 100]).map eI)])}), (4, {lend := some (none, [.ov true [.sl (some 85) (v2.1.map ePt)]], .box (eCu v2.2), false)})] (A4 (show ([.d false [.sl none (eraL (([1, 2, 3, 4, 5, 6, 8, 12, 100]).map eI))]] : List Arg) = [.d false [.sl none (([1, 2, 3, 4, 5, 6, 8, 12, 100]).map eI)]] from (by simp only [eraL_enc (h := eI) er_I])) (wk_spec_l1Cur_among hv1) (show (SV.d false (eraR [.sl (some 3) (([1, 2, 3, 4, 5, 6, 8, 12, 100]).map eI)]) : SV) = .d false [.sl none (([1, 2, 3, 4, 5, 6, 8, 12, 100]).map eI)] from (congrArg (fun z => SV.d false z) (erc_sl (eraL_enc er_I) rfl))) (wk_spec_l1Cur_liftGrid hv2))) ?_
 refine k_seq ?_
 replace h := bs h
 obtain ⟨v3, hv3, h⟩ := h
 replace h := bs h
 obtain ⟨w5, hw5, h⟩ := h
 refine k_sreg (l1 := [(0, .box (eCu v3.2)), (2, .box [.sl (some 85) []]), (3, .box [.sl (some 85) (v2.1.map ePt)]), (16, .p (.bool w5))]) ?_ ?_
 ·clear h
  rcases ft v3.1 with ha0 | ha0
  ·replace hw5 := ite_t ha0 hw5
   have hw5 := oi hw5
   subst hw5
   exact (r_gq [(0, .box (eCu v3.2)), (2, .box [.sl (some 85) []]), (3, .box [.sl (some 85) (v2.1.map ePt)]), (16, .p (.bool true))] [(1, {lend := some (none, [.p (.bool v3.1)], .box (eCu v3.2), false)}), (3, gT), (4, gT), (5, gT), (6, bT)] (A5 (wk_spec_l1Cur_one hv3) ha0 ha0 ha0 ha0))
  ·replace hw5 := ite_f ha0 hw5
   replace hw5 := bs hw5
   obtain ⟨v4, hv4, hw5⟩ := hw5
   have hw5 := oi hw5
   subst hw5
   exact (r_gq [(0, .box (eCu v3.2)), (2, .box [.sl (some 85) []]), (3, .box [.sl (some 85) (v2.1.map ePt)]), (16, .p (.bool (!v4)))] [(1, {lend := some (none, [.p (.bool v3.1)], .box (eCu v3.2), false)}), (3, gF), (4, {g := some false, call := some (some [.d true [.sl none (v2.1.map ePt)]], [.p (.bool v4)], true)}), (5, gF), (6, bF)] (B6 (wk_spec_l1Cur_one hv3) ha0 (show frR [.sl (some 85) (v2.1.map ePt)] = false from rfl) ha0 (show ([.d true [.sl none (eraL (v2.1.map ePt))]] : List Arg) = [.d true [.sl none (v2.1.map ePt)]] from (by simp only [eraL_enc (h := ePt) (era_P (era_P er_I er_I) (era_P er_I er_I))])) (wk_spec_liGood hv4) (A2 ha0 ha0)))
 ·refine kc w5 (fun hc2_5 => ?_) (fun hc2_5 => ?_)
  ·replace h := ite_t hc2_5 h
   replace h := bs h
   obtain ⟨v7, hv7, h⟩ := h
   replace h := bs h
   obtain ⟨v8, hv8, h⟩ := h
   refine k_sreg (r_gq [(0, .box (eCu v8.2)), (2, .box [.sl (some 85) []]), (3, .box [.sl (some 85) (v2.1.map ePt)]), (4, .box (eRt v8.1))] [(3, {lend := some (some [.d false [.sl none (([2, 3, 5, 8, 13]).map eI)]], [.p (iV v7.1)], .box (eCu v7.2), false), fix := some (19, .d false [.sl none (([2, 3, 5, 8, 13]).map eI)])}), (4, {lend := some (none, [.p (vRt v8.1)], .box (eCu v8.2), false)})] (A4 (show ([.d false [.sl none (eraL (([2, 3, 5, 8, 13]).map eI))]] : List Arg) = [.d false [.sl none (([2, 3, 5, 8, 13]).map eI)]] from (by simp only [eraL_enc (h := eI) er_I])) (wk_spec_l1Cur_among hv7) (show (SV.d false (eraR [.sl (some 3) (([2, 3, 5, 8, 13]).map eI)]) : SV) = .d false [.sl none (([2, 3, 5, 8, 13]).map eI)] from (congrArg (fun z => SV.d false z) (erc_sl (eraL_enc er_I) rfl))) (wk_spec_l1Cur_gridRat hv8))) ?_
   replace h := bs h
   obtain ⟨v9, hv9, h⟩ := h
   replace h := bs h
   obtain ⟨v10, hv10, h⟩ := h
   replace h := bs h
   obtain ⟨v11, hv11, h⟩ := h
   refine k_reg (r_dq Tryz_mixed 7 [] [(0, .box (eCu v8.2)), (2, .box [.sl (some 85) []]), (3, .box [.sl (some 85) (([(v9, v8.1), (v10, v11)]).map ePt)])] [(0, {call := some (none, [.p (vRt v9)], true)}), (3, {call := some (none, [.p (vRt v10)], true)}), (5, {call := some (none, [.p (vRt v11)], true)})] (A3 (wk_spec_raInt hv9) (wk_spec_raInt hv10) (wk_spec_liPlus hv11))) ?_
   refine q_n ?_
   refine k_sreg (r_gq [(0, .box (eCu v8.2)), (2, .box [.sl (some 85) (([(v9, v8.1), (v10, v11)]).map ePt)])] [] (A1 (show frR [.sl (some 85) (([(v9, v8.1), (v10, v11)]).map ePt)] = false from rfl))) ?_
   refine k_ret ?_
   obtain rfl := oi h
   exact ebr [(.ov true [.sl (some 85) (([(v9, v8.1), (v10, v11)]).map ePt)], 2)]
  ·replace h := ite_f hc2_5 h
   refine k_skip ?_
   refine q_n ?_
   refine k_sreg (r_gq [(0, .box (eCu v3.2)), (2, .box [.sl (some 85) (v2.1.map ePt)])] [] (A1 (show frR [.sl (some 85) (v2.1.map ePt)] = false from rfl))) ?_
   refine k_ret ?_
   obtain rfl := oi h
   exact ebr [(.ov true [.sl (some 85) (v2.1.map ePt)], 2)]
theorem wk_spec_l1Cur_rat {a0 : Cu}  {r : (Qr × Cu)} (h : spec_l1Cur_rat a0 = some r) : MeetsB Tryz.prog 157 (.box (eCu a0)) [] [.p (vRt r.1)] (.box (eCu r.2)) := by
 refine mob Tryz.func157 [(0, .box (eCu a0))] ?_
 unfold spec_l1Cur_rat at h
 refine k_sreg (r_gq [(0, .box (eCu a0)), (2, .box [rI 0, rI 0])] [] trivial) ?_
 replace h := bs h
 obtain ⟨v1, hv1, h⟩ := h
 replace h := bs h
 obtain ⟨v2, hv2, h⟩ := h
 replace h := bs h
 obtain ⟨v3, hv3, h⟩ := h
 replace h := bs h
 obtain ⟨v4, hv4, h⟩ := h
 replace h := bs h
 obtain ⟨v5, hv5, h⟩ := h
 replace h := bs h
 obtain ⟨v6, hv6, h⟩ := h
 replace h := bs h
 obtain ⟨v7, hv7, h⟩ := h
 refine k_sreg (r_gq [(0, .box (eCu v6.2)), (2, .box [rI 0, rI 0]), (3, .box (eRt v7.1)), (4, .p (.bool v7.2))] [(2, {lend := some (none, [.p (iV v1.1)], .box (eCu v1.2), false)}), (5, {lend := some (none, [.p (iV v2.1)], .box (eCu v2.2), false)}), (8, {lend := some (some [.d false [.sl none (([0, 1, 2, 3, (-1), (-5), (w64 (v1.1 - 20)), (w64 (v2.1 - 1000)), 1000000000, (-1000000000)]).map eI)]], [.p (iV v3.1)], .box (eCu v3.2), false), fix := some (13, .d false [.sl none (([0, 1, 2, 3, (-1), (-5), (w64 (v1.1 - 20)), (w64 (v2.1 - 1000)), 1000000000, (-1000000000)]).map eI)])}), (11, {lend := some (none, [.p (iV v4.1)], .box (eCu v4.2), false)}), (14, {lend := some (none, [.p (iV v5.1)], .box (eCu v5.2), false)}), (17, {lend := some (some [.d false [.sl none (([1, 2, 3, 4, 8, 7, (w64 (1 + v4.1)), (w64 (1 + v5.1)), 1000000000, 999999999]).map eI)]], [.p (iV v6.1)], .box (eCu v6.2), false), fix := some (22, .d false [.sl none (([1, 2, 3, 4, 8, 7, (w64 (1 + v4.1)), (w64 (1 + v5.1)), 1000000000, 999999999]).map eI)])}), (18, {call := some (none, [.p (vRt v7.1), .p (.bool v7.2)], true)})] (B6 (wk_spec_l1Cur_pick hv1) (wk_spec_l1Cur_pick hv2) (show ([.d false [.sl none (eraL (([0, 1, 2, 3, (-1), (-5), (w64 (v1.1 - 20)), (w64 (v2.1 - 1000)), 1000000000, (-1000000000)]).map eI))]] : List Arg) = [.d false [.sl none (([0, 1, 2, 3, (-1), (-5), (w64 (v1.1 - 20)), (w64 (v2.1 - 1000)), 1000000000, (-1000000000)]).map eI)]] from (by simp only [eraL_enc (h := eI) er_I])) (wk_spec_l1Cur_among hv3) (show (SV.d false (eraR [.sl (some 3) (([0, 1, 2, 3, (-1), (-5), (w64 (v1.1 - 20)), (w64 (v2.1 - 1000)), 1000000000, (-1000000000)]).map eI)]) : SV) = .d false [.sl none (([0, 1, 2, 3, (-1), (-5), (w64 (v1.1 - 20)), (w64 (v2.1 - 1000)), 1000000000, (-1000000000)]).map eI)] from (congrArg (fun z => SV.d false z) (erc_sl (eraL_enc er_I) rfl))) (wk_spec_l1Cur_pick hv4) (A5 (wk_spec_l1Cur_pick hv5) (show ([.d false [.sl none (eraL (([1, 2, 3, 4, 8, 7, (w64 (1 + v4.1)), (w64 (1 + v5.1)), 1000000000, 999999999]).map eI))]] : List Arg) = [.d false [.sl none (([1, 2, 3, 4, 8, 7, (w64 (1 + v4.1)), (w64 (1 + v5.1)), 1000000000, 999999999]).map eI)]] from (by simp only [eraL_enc (h := eI) er_I])) (wk_spec_l1Cur_among hv6) (show (SV.d false (eraR [.sl (some 3) (([1, 2, 3, 4, 8, 7, (w64 (1 + v4.1)), (w64 (1 + v5.1)), 1000000000, 999999999]).map eI)]) : SV) = .d false [.sl none (([1, 2, 3, 4, 8, 7, (w64 (1 + v4.1)), (w64 (1 + v5.1)), 1000000000, 999999999]).map eI)] from (congrArg (fun z => SV.d false z) (erc_sl (eraL_enc er_I) rfl))) (wk_spec_raMake hv7)))) ?_
 refine k_seq ?_
 refine k_sreg (r_gq [(0, .box (eCu v6.2)), (2, .box [rI 0, rI 0]), (3, .box (eRt v7.1)), (28, .p (.bool (!v7.2)))] [] trivial) ?_
 refine kc (!v7.2) (fun hc2_7 => ?_) (fun hc2_7 => ?_)
 ·replace h := ite_t hc2_7 h
  replace h := bs h
  obtain ⟨v9, hv9, h⟩ := h
  refine k_sreg (r_gq [(0, .box (eCu v6.2)), (2, .box (eRt v9))] [(0, {call := some (none, [.p (vRt v9)], true)})] (A1 (wk_spec_raInt hv9))) ?_
  refine k_ret ?_
  refine q_r ?_
  obtain rfl := oi h
  exact ebr [(.p (vRt v9), 2)]
 ·replace h := ite_f hc2_7 h
  refine k_skip ?_
  refine q_n ?_
  refine k_sreg (r_gq [(0, .box (eCu v6.2)), (2, .box (eRt v7.1))] [] trivial) ?_
  refine k_ret ?_
  obtain rfl := oi h
  exact ebr [(.p (vRt v7.1), 2)]
theorem wk_spec_l1Cur_anyRat {a0 : Cu}  {r : (Qr × Cu)} (h : spec_l1Cur_anyRat a0 = some r) : MeetsB Tryz.prog 114 (.box (eCu a0)) [] [.p (vRt r.1)] (.box (eCu r.2)) := by
 refine mob Tryz.func114 [(0, .box (eCu a0))] ?_
 unfold spec_l1Cur_anyRat at h
 refine k_sreg (r_gq [(0, .box (eCu a0)), (2, .box [rI 0, rI 0])] [] trivial) ?_
 replace h := bs h
 obtain ⟨v1, hv1, h⟩ := h
 refine k_sreg (r_gq [(0, .box (eCu v1.2)), (2, .box [rI 0, rI 0]), (3, .box (eRt v1.1))] [(1, {lend := some (none, [.p (vRt v1.1)], .box (eCu v1.2), false)})] (A1 (wk_spec_l1Cur_rat hv1))) ?_
 refine k_seq ?_
 replace h := bs h
 obtain ⟨v2, hv2, h⟩ := h
 refine k_sreg (r_gq [(0, .box (eCu v2.2)), (2, .box [rI 0, rI 0]), (3, .box (eRt v1.1)), (7, .p (iV v2.1))] [(1, {lend := some (none, [.p (iV v2.1)], .box (eCu v2.2), false)})] (A1 (wk_spec_l1Cur_pick hv2))) ?_
 refine k_block ?_
 refine k_sreg (r_gq [(0, .box (eCu v2.2)), (2, .box [rI 0, rI 0]), (3, .box (eRt v1.1)), (7, .p (iV v2.1)), (8, .p (.bool (v2.1 == 0)))] [] trivial) ?_
 refine kc (v2.1 == 0) (fun hc3_2 => ?_) (fun hc3_2 => ?_)
 ·replace h := ite_t hc3_2 h
  replace h := bs h
  obtain ⟨v4, hv4, h⟩ := h
  refine k_reg (r_gq [(0, .box (eCu v4.2)), (2, .box [rI 0, rI 0]), (3, .box [rI v1.1.1, rI v4.1])] [(2, {lend := some (some [.d false [.sl none (([0, (-1), 1000000001]).map eI)]], [.p (iV v4.1)], .box (eCu v4.2), false), fix := some (11, .d false [.sl none (([0, (-1), 1000000001]).map eI)])})] (A3 (show ([.d false [.sl none (eraL (([0, (-1), 1000000001]).map eI))]] : List Arg) = [.d false [.sl none (([0, (-1), 1000000001]).map eI)]] from (by simp only [eraL_enc (h := eI) er_I])) (wk_spec_l1Cur_among hv4) (show (SV.d false (eraR [.sl (some 3) (([0, (-1), 1000000001]).map eI)]) : SV) = .d false [.sl none (([0, (-1), 1000000001]).map eI)] from (congrArg (fun z => SV.d false z) (erc_sl (eraL_enc er_I) rfl))))) ?_
  refine b_n ?_
  refine q_n ?_
  refine k_sreg (r_gq [(0, .box (eCu v4.2)), (2, .box [rI v1.1.1, rI v4.1])] [] trivial) ?_
  refine k_ret ?_
  obtain rfl := oi h
  exact ebr [(.p (.agg #[.int .i64 v1.1.1, .int .i64 v4.1]), 2)]
 ·replace h := ite_f hc3_2 h
  refine k_sreg (r_gq [(0, .box (eCu v2.2)), (2, .box [rI 0, rI 0]), (3, .box (eRt v1.1)), (7, .p (iV v2.1)), (14, .p (.bool (v2.1 == 1)))] [] trivial) ?_
  refine kc (v2.1 == 1) (fun hc3_4 => ?_) (fun hc3_4 => ?_)
  ·replace h := ite_t hc3_4 h
   replace h := bs h
   obtain ⟨v6, hv6, h⟩ := h
   refine k_reg (r_gq [(0, .box (eCu v6.2)), (2, .box [rI 0, rI 0]), (3, .box [rI v6.1, rI v1.1.2])] [(2, {lend := some (some [.d false [.sl none (([1000000001, (-1000000001), (-9223372036854775808)]).map eI)]], [.p (iV v6.1)], .box (eCu v6.2), false), fix := some (17, .d false [.sl none (([1000000001, (-1000000001), (-9223372036854775808)]).map eI)])})] (A3 (show ([.d false [.sl none (eraL (([1000000001, (-1000000001), (-9223372036854775808)]).map eI))]] : List Arg) = [.d false [.sl none (([1000000001, (-1000000001), (-9223372036854775808)]).map eI)]] from (by simp only [eraL_enc (h := eI) er_I])) (wk_spec_l1Cur_among hv6) (show (SV.d false (eraR [.sl (some 3) (([1000000001, (-1000000001), (-9223372036854775808)]).map eI)]) : SV) = .d false [.sl none (([1000000001, (-1000000001), (-9223372036854775808)]).map eI)] from (congrArg (fun z => SV.d false z) (erc_sl (eraL_enc er_I) rfl))))) ?_
   refine b_n ?_
   refine q_n ?_
   refine k_sreg (r_gq [(0, .box (eCu v6.2)), (2, .box [rI v6.1, rI v1.1.2])] [] trivial) ?_
   refine k_ret ?_
   obtain rfl := oi h
   exact ebr [(.p (.agg #[.int .i64 v6.1, .int .i64 v1.1.2]), 2)]
  ·replace h := ite_f hc3_4 h
   refine k_sreg (r_gq [(0, .box (eCu v2.2)), (2, .box [rI 0, rI 0]), (3, .box (eRt v1.1)), (20, .p (.bool (v2.1 == 2)))] [] trivial) ?_
   refine kc (v2.1 == 2) (fun hc3_6 => ?_) (fun hc3_6 => ?_)
   ·replace h := ite_t hc3_6 h
    replace h := bs h
    obtain ⟨v8, hv8, h⟩ := h
    replace h := bs h
    obtain ⟨v9, hv9, h⟩ := h
    refine k_reg (r_gq [(0, .box (eCu v9.2)), (2, .box [rI 0, rI 0]), (3, .box [rI v8.1, rI v9.1])] [(2, {lend := some (some [.d false [.sl none (([2, 0, (-4)]).map eI)]], [.p (iV v8.1)], .box (eCu v8.2), false), fix := some (23, .d false [.sl none (([2, 0, (-4)]).map eI)])}), (5, {lend := some (some [.d false [.sl none (([2, 4, 6]).map eI)]], [.p (iV v9.1)], .box (eCu v9.2), false), fix := some (26, .d false [.sl none (([2, 4, 6]).map eI)])})] (A6 (show ([.d false [.sl none (eraL (([2, 0, (-4)]).map eI))]] : List Arg) = [.d false [.sl none (([2, 0, (-4)]).map eI)]] from (by simp only [eraL_enc (h := eI) er_I])) (wk_spec_l1Cur_among hv8) (show (SV.d false (eraR [.sl (some 3) (([2, 0, (-4)]).map eI)]) : SV) = .d false [.sl none (([2, 0, (-4)]).map eI)] from (congrArg (fun z => SV.d false z) (erc_sl (eraL_enc er_I) rfl))) (show ([.d false [.sl none (eraL (([2, 4, 6]).map eI))]] : List Arg) = [.d false [.sl none (([2, 4, 6]).map eI)]] from (by simp only [eraL_enc (h := eI) er_I])) (wk_spec_l1Cur_among hv9) (show (SV.d false (eraR [.sl (some 3) (([2, 4, 6]).map eI)]) : SV) = .d false [.sl none (([2, 4, 6]).map eI)] from (congrArg (fun z => SV.d false z) (erc_sl (eraL_enc er_I) rfl))))) ?_
    refine b_n ?_
    refine q_n ?_
    refine k_sreg (r_gq [(0, .box (eCu v9.2)), (2, .box [rI v8.1, rI v9.1])] [] trivial) ?_
    refine k_ret ?_
    obtain rfl := oi h
    exact ebr [(.p (.agg #[.int .i64 v8.1, .int .i64 v9.1]), 2)]
   ·replace h := ite_f hc3_6 h
    refine k_skip ?_
    refine b_n ?_
    refine q_n ?_
    refine k_sreg (r_gq [(0, .box (eCu v2.2)), (2, .box (eRt v1.1))] [] trivial) ?_
    refine k_ret ?_
    obtain rfl := oi h
    exact ebr [(.p (vRt v1.1), 2)]
theorem wk_spec_l1Cur_anyLift {a0 : Cu}  {r : ((List Qp) × Cu)} (h : spec_l1Cur_anyLift a0 = some r) : MeetsB Tryz.prog 57 (.box (eCu a0)) [] [.ov true [.sl (some 85) (r.1.map ePt)]] (.box (eCu r.2)) := by
 refine mob Tryz.func57 [(0, .box (eCu a0))] ?_
 unfold spec_l1Cur_anyLift at h
 refine k_sreg (r_gq [(0, .box (eCu a0)), (2, .box [.sl (some 85) []])] [] trivial) ?_
 replace h := bs h
 obtain ⟨v1, hv1, h⟩ := h
 refine k_sreg (r_gq [(0, .box (eCu v1.2)), (2, .box [.sl (some 85) []]), (3, .box [.sl (some 85) (v1.1.map ePt)])] [(1, {lend := some (none, [.ov true [.sl (some 85) (v1.1.map ePt)]], .box (eCu v1.2), false)})] (A1 (wk_spec_l1Cur_lift hv1))) ?_
 replace h := bs h
 obtain ⟨v2, hv2, h⟩ := h
 replace h := bs h
 obtain ⟨v3, hv3, h⟩ := h
 refine k_sreg (r_dq Tryz_mixed 7 [(6, 0)] [(0, .box (eCu v2.2)), (2, .box [.sl (some 85) []]), (3, .box [.sl (some 85) (v1.1.map ePt)]), (4, .addr 3 [(0, 0), ((Int.toNat v2.1), 0)])] [(5, {n := some v1.1.length}), (6, {lend := some (none, [.p (iV v2.1)], .box (eCu v2.2), false)}), (7, {row := some (ePt v3)})] (A6 (show frR [.sl (some 85) (v1.1.map ePt)] = false from rfl) (show frR [.sl (some 85) (v1.1.map ePt)] = false from rfl) (show (v1.1.map ePt).length = v1.1.length from (List.length_map ..)) (wk_spec_l1Cur_pick hv2) (idxO_some hv3).1 (map_get ePt (idxO_some hv3).2))) ?_
 refine k_join (J := fun (x : ((List Int) × Int × Int × (List Qp))) => [(0, .box (eCu (x.1, x.2.1, x.2.2.1))), (2, .box [.sl (some 85) []]), (3, .box [.sl (some 85) (x.2.2.2.map ePt)])]) (K := fun x => spec_l1Cur_anyLift_k1 x = some r) (fun x4 h => ?_) ?_
 ·unfold spec_l1Cur_anyLift_k1 at h
  refine k_sreg (r_gq [(0, .box (eCu (x4.1, x4.2.1, x4.2.2.1))), (2, .box [.sl (some 85) (x4.2.2.2.map ePt)])] [] (A1 (show frR [.sl (some 85) (x4.2.2.2.map ePt)] = false from rfl))) ?_
  refine k_ret ?_
  obtain rfl := oi h
  exact ebr [(.ov true [.sl (some 85) (x4.2.2.2.map ePt)], 2)]
 ·replace h := bs h
  obtain ⟨v5, hv5, h⟩ := h
  refine k_sreg (r_gq [(0, .box (eCu v5.2)), (2, .box [.sl (some 85) []]), (3, .box [.sl (some 85) (v1.1.map ePt)]), (4, .addr 3 [(0, 0), ((Int.toNat v2.1), 0)]), (18, .p (iV v5.1))] [(1, {lend := some (none, [.p (iV v5.1)], .box (eCu v5.2), false)})] (A1 (wk_spec_l1Cur_pick hv5))) ?_
  refine k_block ?_
  refine k_sreg (r_gq [(0, .box (eCu v5.2)), (2, .box [.sl (some 85) []]), (3, .box [.sl (some 85) (v1.1.map ePt)]), (4, .addr 3 [(0, 0), ((Int.toNat v2.1), 0)]), (18, .p (iV v5.1)), (19, .p (.bool (v5.1 == 0)))] [] trivial) ?_
  refine kc (v5.1 == 0) (fun hc3_5 => ?_) (fun hc3_5 => ?_)
  ·replace h := ite_t hc3_5 h
   replace h := bs h
   obtain ⟨v7, hv7, h⟩ := h
   refine k_reg (r_gq [(0, .box (eCu v7.2)), (2, .box [.sl (some 85) []]), (3, .box [.sl (some 85) ((v1.1.set (Int.toNat v2.1) (v7.1, v3.2)).map ePt)])] [(2, {lend := some (none, [.p (vRt v7.1)], .box (eCu v7.2), false)}), (5, {row := some (ePt v3), fix := some (3, .box [.sl (some 85) ((v1.1.set (Int.toNat v2.1) (v7.1, v3.2)).map ePt)])})] (A3 (wk_spec_l1Cur_anyRat hv7) (show getRow [[.sl (some 85) (v1.1.map ePt)]] [(0, 0), ((Int.toNat v2.1), 0)] = some (ePt v3) from ((gr0 rfl).trans (gre (map_get ePt (idxO_some hv3).2)))) (show (SV.box [.sl (some 85) (setL (v1.1.map ePt) [((Int.toNat v2.1), 0)] (eRt v7.1))] : SV) = .box [.sl (some 85) ((v1.1.set (Int.toNat v2.1) (v7.1, v3.2)).map ePt)] from (congrArg (fun z => SV.box [.sl (some 85) z]) (set1 (f := ePt) (y := (v7.1, v3.2)) (idxO_some hv3).2 rfl))))) ?_
   refine b_n ?_
   refine q_n ?_
   exact jx (v7.2.1, v7.2.2.1, v7.2.2.2, (v1.1.set (Int.toNat v2.1) (v7.1, v3.2))) h
  ·replace h := ite_f hc3_5 h
   refine k_sreg (r_gq [(0, .box (eCu v5.2)), (2, .box [.sl (some 85) []]), (3, .box [.sl (some 85) (v1.1.map ePt)]), (4, .addr 3 [(0, 0), ((Int.toNat v2.1), 0)]), (18, .p (iV v5.1)), (26, .p (.bool (v5.1 == 1)))] [] trivial) ?_
   refine kc (v5.1 == 1) (fun hc3_7 => ?_) (fun hc3_7 => ?_)
   ·replace h := ite_t hc3_7 h
    replace h := bs h
    obtain ⟨v9, hv9, h⟩ := h
    refine k_reg (r_gq [(0, .box (eCu v9.2)), (2, .box [.sl (some 85) []]), (3, .box [.sl (some 85) ((v1.1.set (Int.toNat v2.1) (v3.1, v9.1)).map ePt)])] [(2, {lend := some (none, [.p (vRt v9.1)], .box (eCu v9.2), false)}), (5, {row := some (eRt v3.2), fix := some (3, .box [.sl (some 85) ((v1.1.set (Int.toNat v2.1) (v3.1, v9.1)).map ePt)])})] (A3 (wk_spec_l1Cur_anyRat hv9) (show getRow [[.sl (some 85) (v1.1.map ePt)]] [(0, 0), ((Int.toNat v2.1), 2)] = some (eRt v3.2) from ((gr0 rfl).trans (gre (map_get ePt (idxO_some hv3).2)))) (show (SV.box [.sl (some 85) (setL (v1.1.map ePt) [((Int.toNat v2.1), 2)] (eRt v9.1))] : SV) = .box [.sl (some 85) ((v1.1.set (Int.toNat v2.1) (v3.1, v9.1)).map ePt)] from (congrArg (fun z => SV.box [.sl (some 85) z]) (set1 (f := ePt) (y := (v3.1, v9.1)) (idxO_some hv3).2 rfl))))) ?_
    refine b_n ?_
    refine q_n ?_
    exact jx (v9.2.1, v9.2.2.1, v9.2.2.2, (v1.1.set (Int.toNat v2.1) (v3.1, v9.1))) h
   ·replace h := ite_f hc3_7 h
    refine k_sreg (r_gq [(0, .box (eCu v5.2)), (2, .box [.sl (some 85) []]), (3, .box [.sl (some 85) (v1.1.map ePt)]), (4, .addr 3 [(0, 0), ((Int.toNat v2.1), 0)]), (18, .p (iV v5.1)), (33, .p (.bool (v5.1 == 2)))] [] trivial) ?_
    refine kc (v5.1 == 2) (fun hc3_9 => ?_) (fun hc3_9 => ?_)
    ·replace h := ite_t hc3_9 h
     replace h := bs h
     obtain ⟨v11, hv11, h⟩ := h
     replace h := bs h
     obtain ⟨v12, hv12, h⟩ := h
     refine k_reg (r_dq Tryz_mixed 9 [(7, 0)] [(0, .box (eCu v11.2)), (2, .box [.sl (some 85) []]), (3, .box [.sl (some 85) ((v1.1.set (Int.toNat v2.1) (v3.1, v12)).map ePt)])] [(4, {row := some (eRt v3.2)}), (6, {pre := some (0, .u), fix := some (41, .d false [.sl none (([1, 6, (-6)]).map eI)])}), (7, {lend := some (none, [.p (iV v11.1)], .box (eCu v11.2), false)}), (8, {call := some (none, [.p (vRt v12)], true)}), (11, {row := some (eRt v3.2), fix := some (3, .box [.sl (some 85) ((v1.1.set (Int.toNat v2.1) (v3.1, v12)).map ePt)])})] (A6 (show getRow [[.sl (some 85) (v1.1.map ePt)]] [(0, 0), ((Int.toNat v2.1), 2)] = some (eRt v3.2) from ((gr0 rfl).trans (gre (map_get ePt (idxO_some hv3).2)))) (show (SV.d false (eraR [.sl (some 3) (([1, 6, (-6)]).map eI)]) : SV) = .d false [.sl none (([1, 6, (-6)]).map eI)] from (congrArg (fun z => SV.d false z) (erc_sl (eraL_enc er_I) rfl))) (wk_spec_l1Cur_among hv11) (wk_spec_liPlus hv12) (show getRow [[.sl (some 85) (v1.1.map ePt)]] [(0, 0), ((Int.toNat v2.1), 2)] = some (eRt v3.2) from ((gr0 rfl).trans (gre (map_get ePt (idxO_some hv3).2)))) (show (SV.box [.sl (some 85) (setL (v1.1.map ePt) [((Int.toNat v2.1), 2)] (eRt v12))] : SV) = .box [.sl (some 85) ((v1.1.set (Int.toNat v2.1) (v3.1, v12)).map ePt)] from (congrArg (fun z => SV.box [.sl (some 85) z]) (set1 (f := ePt) (y := (v3.1, v12)) (idxO_some hv3).2 rfl))))) ?_
     refine b_n ?_
     refine q_n ?_
     exact jx (v11.2.1, v11.2.2.1, v11.2.2.2, (v1.1.set (Int.toNat v2.1) (v3.1, v12))) h
    ·replace h := ite_f hc3_9 h
     refine k_sreg (r_gq [(0, .box (eCu v5.2)), (2, .box [.sl (some 85) []]), (3, .box [.sl (some 85) (v1.1.map ePt)]), (18, .p (iV v5.1)), (46, .p (.bool (v5.1 == 3)))] [] trivial) ?_
     refine kc (v5.1 == 3) (fun hc3_12 => ?_) (fun hc3_12 => ?_)
     ·replace h := ite_t hc3_12 h
      refine k_sreg (r_gq [(0, .box (eCu v5.2)), (2, .box [.sl (some 85) []])] [(0, bT)] trivial) ?_
      refine k_ret ?_
      refine b_r ?_
      refine q_r ?_
      obtain rfl := oi h
      exact ebr [(.ov true [.sl (some 85) []], 2)]
     ·replace h := ite_f hc3_12 h
      refine k_sreg (r_gq [(0, .box (eCu v5.2)), (2, .box [.sl (some 85) []]), (3, .box [.sl (some 85) (v1.1.map ePt)]), (49, .p (.bool (v5.1 == 4)))] [] trivial) ?_
      refine kc (v5.1 == 4) (fun hc3_13 => ?_) (fun hc3_13 => ?_)
      ·replace h := ite_t hc3_13 h
       refine k_sreg (r_gq [(0, .box (eCu v5.2)), (2, .box [.sl (some 85) []]), (3, .box [.sl (some 85) []])] [] trivial) ?_
       refine k_block ?_
       obtain ⟨y16, hl_x15, hk_x15⟩ := bs h
       clear h
       refine k_loop (J := fun (x : (List Qp)) => [(0, .box (eCu v5.2)), (2, .box [.sl (some 85) []]), (3, .box [.sl (some 85) (x.map ePt)])]) hl_x15 (wk_of (by kernel_rfl) (by kernel_rfl)) (fun x15 o_x15 h hy_x15 => ?_)
       unfold spec_l1Cur_anyLift_b1 at h
       refine k_seq ?_
       refine k_sreg (r_gq [(0, .box (eCu v5.2)), (2, .box [.sl (some 85) []]), (3, .box [.sl (some 85) (x15.map ePt)]), (55, .p (.bool (decide ((x15.length : Int) < 13))))] [(2, {n := some x15.length})] (A2 (show frR [.sl (some 85) (x15.map ePt)] = false from rfl) (show (x15.map ePt).length = x15.length from (List.length_map ..)))) ?_
       refine kc (decide ((x15.length : Int) < 13)) (fun hc6_16 => ?_) (fun hc6_16 => ?_)
       ·replace h := ite_t hc6_16 h
        refine k_skip ?_
        refine q_n ?_
        refine k_block ?_
        replace h := bs h
        obtain ⟨v18, hv18, h⟩ := h
        refine k_sreg (r_gq [(0, .box (eCu v5.2)), (2, .box [.sl (some 85) []]), (3, .box [.sl (some 85) (x15.map ePt)]), (5, .box (eRt v18.1))] [(2, {n := some x15.length}), (3, {call := some (none, [.p (vRt v18.1), .p (.bool v18.2)], true)})] (A3 (show frR [.sl (some 85) (x15.map ePt)] = false from rfl) (show (x15.map ePt).length = x15.length from (List.length_map ..)) (wk_spec_raMake hv18))) ?_
        replace h := bs h
        obtain ⟨u19, hu19, h⟩ := h
        refine k_reg (r_gq [(0, .box (eCu v5.2)), (2, .box [.sl (some 85) []]), (3, .box [.sl (some 85) ((x15 ++ [(v18.1, v18.1)]).map ePt)])] [(6, {take := some (64, [.sl (some 85) (x15.map ePt)]), fix := some (69, .ov false [.sl (some 85) ((x15 ++ [(v18.1, v18.1)]).map ePt)])})] (A5 (show frR [.sl (some 85) (x15.map ePt)] = false from rfl) (show getRow [[.sl (some 85) (x15.map ePt)]] [(0, 0)] = some [.sl (some 85) (x15.map ePt)] from rfl) (show List.length ((x15.map ePt) : List (List C)) + List.length ((([(v18.1, v18.1)]).map ePt) : List (List C)) ≤ 1099511627776 from (by have hg := (guardO_some hu19); simpa using hg)) (show ∀ row ∈ ((([(v18.1, v18.1)]).map ePt) : List (List C)), row.length = 4 from (rows_len fun _ => rfl)) (show (SV.ov false [.sl (some 85) ((x15.map ePt) ++ (([(v18.1, v18.1)]).map ePt))] : SV) = .ov false [.sl (some 85) ((x15 ++ [(v18.1, v18.1)]).map ePt)] from (congrArg (fun z => SV.ov false [.sl (some 85) z]) (List.map_append ..).symm)))) ?_
        refine b_n ?_
        exact lqn (x15 ++ [(v18.1, v18.1)]) h
       ·replace h := ite_f hc6_16 h
        refine k_exit ?_
        refine q_x ?_
        refine lq_x ?_
        refine b_x ?_
        refine b_n ?_
        have hyy := hy_x15 _ (oi h).symm
        subst hyy
        have h := hk_x15
        refine q_n ?_
        exact jx (v5.2.1, v5.2.2.1, v5.2.2.2, x15) h
      ·replace h := ite_f hc3_13 h
       refine k_skip ?_
       refine b_n ?_
       refine q_n ?_
       exact jx (v5.2.1, v5.2.2.1, v5.2.2.2, v1.1) h
theorem wk_spec_l1Cur_farRat {a0 : Cu}  {r : (Qr × Cu)} (h : spec_l1Cur_farRat a0 = some r) : MeetsB Tryz.prog 58 (.box (eCu a0)) [] [.p (vRt r.1)] (.box (eCu r.2)) := by
 refine mob Tryz.func58 [(0, .box (eCu a0))] ?_
 unfold spec_l1Cur_farRat at h
 refine k_sreg (r_gq [(0, .box (eCu a0)), (2, .box [rI 0, rI 0])] [] trivial) ?_
 replace h := bs h
 obtain ⟨v1, hv1, h⟩ := h
 replace h := bs h
 obtain ⟨v2, hv2, h⟩ := h
 refine k_sreg (r_gq [(0, .box (eCu v2.2)), (2, .box [rI 0, rI 0]), (3, .box (eRt v2.1))] [(3, {lend := some (some [.d false [.sl none (([1, 2, 3, 4, 5, 8, 12]).map eI)]], [.p (iV v1.1)], .box (eCu v1.2), false), fix := some (6, .d false [.sl none (([1, 2, 3, 4, 5, 8, 12]).map eI)])}), (4, {lend := some (none, [.p (vRt v2.1)], .box (eCu v2.2), false)})] (A4 (show ([.d false [.sl none (eraL (([1, 2, 3, 4, 5, 8, 12]).map eI))]] : List Arg) = [.d false [.sl none (([1, 2, 3, 4, 5, 8, 12]).map eI)]] from (by simp only [eraL_enc (h := eI) er_I])) (wk_spec_l1Cur_among hv1) (show (SV.d false (eraR [.sl (some 3) (([1, 2, 3, 4, 5, 8, 12]).map eI)]) : SV) = .d false [.sl none (([1, 2, 3, 4, 5, 8, 12]).map eI)] from (congrArg (fun z => SV.d false z) (erc_sl (eraL_enc er_I) rfl))) (wk_spec_l1Cur_gridRat hv2))) ?_
 refine k_seq ?_
 replace h := bs h
 obtain ⟨v3, hv3, h⟩ := h
 refine k_sreg (r_gq [(0, .box (eCu v3.2)), (2, .box [rI 0, rI 0]), (3, .box (eRt v2.1)), (10, .p (iV v3.1))] [(1, {lend := some (none, [.p (iV v3.1)], .box (eCu v3.2), false)})] (A1 (wk_spec_l1Cur_pick hv3))) ?_
 refine k_block ?_
 refine k_sreg (r_gq [(0, .box (eCu v3.2)), (2, .box [rI 0, rI 0]), (3, .box (eRt v2.1)), (10, .p (iV v3.1)), (11, .p (.bool (v3.1 == 0)))] [] trivial) ?_
 refine kc (v3.1 == 0) (fun hc3_3 => ?_) (fun hc3_3 => ?_)
 ·replace h := ite_t hc3_3 h
  replace h := bs h
  obtain ⟨v5, hv5, h⟩ := h
  replace h := bs h
  obtain ⟨v6, hv6, h⟩ := h
  refine k_sreg (r_dq Tryz_mixed 4 [(3, 0)] [(0, .box (eCu v5.2)), (2, .box (eRt v6))] [(2, {pre := some (0, .u), fix := some (15, .d false [.sl none (([(-1), 1, 7, (-20), 999, (-1000)]).map eI)])}), (3, {lend := some (none, [.p (iV v5.1)], .box (eCu v5.2), false)}), (4, {call := some (none, [.p (vRt v6)], true)})] (A3 (show (SV.d false (eraR [.sl (some 3) (([(-1), 1, 7, (-20), 999, (-1000)]).map eI)]) : SV) = .d false [.sl none (([(-1), 1, 7, (-20), 999, (-1000)]).map eI)] from (congrArg (fun z => SV.d false z) (erc_sl (eraL_enc er_I) rfl))) (wk_spec_l1Cur_among hv5) (wk_spec_liPlus hv6))) ?_
  refine k_ret ?_
  refine b_r ?_
  refine q_r ?_
  obtain rfl := oi h
  exact ebr [(.p (vRt v6), 2)]
 ·replace h := ite_f hc3_3 h
  refine k_sreg (r_gq [(0, .box (eCu v3.2)), (2, .box [rI 0, rI 0]), (3, .box (eRt v2.1)), (10, .p (iV v3.1)), (18, .p (.bool (v3.1 == 1)))] [] trivial) ?_
  refine kc (v3.1 == 1) (fun hc3_6 => ?_) (fun hc3_6 => ?_)
  ·replace h := ite_t hc3_6 h
   replace h := bs h
   obtain ⟨v8, hv8, h⟩ := h
   refine k_sreg (r_gq [(0, .box (eCu v8.2)), (2, .box [rI v8.1, rI 1])] [(2, {lend := some (some [.d false [.sl none (([1000, 1001, (-1000), (-1001)]).map eI)]], [.p (iV v8.1)], .box (eCu v8.2), false), fix := some (21, .d false [.sl none (([1000, 1001, (-1000), (-1001)]).map eI)])})] (A3 (show ([.d false [.sl none (eraL (([1000, 1001, (-1000), (-1001)]).map eI))]] : List Arg) = [.d false [.sl none (([1000, 1001, (-1000), (-1001)]).map eI)]] from (by simp only [eraL_enc (h := eI) er_I])) (wk_spec_l1Cur_among hv8) (show (SV.d false (eraR [.sl (some 3) (([1000, 1001, (-1000), (-1001)]).map eI)]) : SV) = .d false [.sl none (([1000, 1001, (-1000), (-1001)]).map eI)] from (congrArg (fun z => SV.d false z) (erc_sl (eraL_enc er_I) rfl))))) ?_
   refine k_ret ?_
   refine b_r ?_
   refine q_r ?_
   obtain rfl := oi h
   exact ebr [(.p (.agg #[.int .i64 v8.1, .int .i64 1]), 2)]
  ·replace h := ite_f hc3_6 h
   refine k_sreg (r_gq [(0, .box (eCu v3.2)), (2, .box [rI 0, rI 0]), (3, .box (eRt v2.1)), (24, .p (.bool (v3.1 == 2)))] [] trivial) ?_
   refine kc (v3.1 == 2) (fun hc3_8 => ?_) (fun hc3_8 => ?_)
   ·replace h := ite_t hc3_8 h
    replace h := bs h
    obtain ⟨v10, hv10, h⟩ := h
    refine k_sreg (r_gq [(0, .box (eCu v10.2)), (2, .box (eRt v10.1))] [(1, {lend := some (none, [.p (vRt v10.1)], .box (eCu v10.2), false)})] (A1 (wk_spec_l1Cur_anyRat hv10))) ?_
    refine k_ret ?_
    refine b_r ?_
    refine q_r ?_
    obtain rfl := oi h
    exact ebr [(.p (vRt v10.1), 2)]
   ·replace h := ite_f hc3_8 h
    refine k_skip ?_
    refine b_n ?_
    refine q_n ?_
    refine k_sreg (r_gq [(0, .box (eCu v3.2)), (2, .box (eRt v2.1))] [] trivial) ?_
    refine k_ret ?_
    obtain rfl := oi h
    exact ebr [(.p (vRt v2.1), 2)]
theorem wk_spec_l1Cur_stepsOf {a0 : Cu}  {r : (Int × Cu)} (h : spec_l1Cur_stepsOf a0 = some r) : MeetsB Tryz.prog 59 (.box (eCu a0)) [] [.p (iV r.1)] (.box (eCu r.2)) := by
 refine mob Tryz.func59 [(0, .box (eCu a0))] ?_
 unfold spec_l1Cur_stepsOf at h
 refine k_sreg (r_gq [(0, .box (eCu a0))] [] trivial) ?_
 replace h := bs h
 obtain ⟨v1, hv1, h⟩ := h
 replace h := bs h
 obtain ⟨v2, hv2, h⟩ := h
 refine k_sreg (r_gq [(0, .box (eCu v2.2)), (2, .p (iV v2.1))] [(3, {lend := some (some [.d false [.sl none (([61, (-1)]).map eI)]], [.p (iV v1.1)], .box (eCu v1.2), false), fix := some (5, .d false [.sl none (([61, (-1)]).map eI)])}), (5, {lend := some (some [.d false [.sl none (([0, 1, 2, 3, 5, 8, 20, 60, v1.1]).map eI)]], [.p (iV v2.1)], .box (eCu v2.2), false), fix := some (7, .d false [.sl none (([0, 1, 2, 3, 5, 8, 20, 60, v1.1]).map eI)])})] (A6 (show ([.d false [.sl none (eraL (([61, (-1)]).map eI))]] : List Arg) = [.d false [.sl none (([61, (-1)]).map eI)]] from (by simp only [eraL_enc (h := eI) er_I])) (wk_spec_l1Cur_among hv1) (show (SV.d false (eraR [.sl (some 3) (([61, (-1)]).map eI)]) : SV) = .d false [.sl none (([61, (-1)]).map eI)] from (congrArg (fun z => SV.d false z) (erc_sl (eraL_enc er_I) rfl))) (show ([.d false [.sl none (eraL (([0, 1, 2, 3, 5, 8, 20, 60, v1.1]).map eI))]] : List Arg) = [.d false [.sl none (([0, 1, 2, 3, 5, 8, 20, 60, v1.1]).map eI)]] from (by simp only [eraL_enc (h := eI) er_I])) (wk_spec_l1Cur_among hv2) (show (SV.d false (eraR [.sl (some 3) (([0, 1, 2, 3, 5, 8, 20, 60, v1.1]).map eI)]) : SV) = .d false [.sl none (([0, 1, 2, 3, 5, 8, 20, 60, v1.1]).map eI)] from (congrArg (fun z => SV.d false z) (erc_sl (eraL_enc er_I) rfl))))) ?_
 refine k_ret ?_
 obtain rfl := oi h
 exact ebr [(.p (iV v2.1), 2)]
theorem wk_spec_DrawLiftOrbit {a0 : (List Int)}  {r : ((List Qp) × Qr × Int)} (h : spec_DrawLiftOrbit a0 = some r) : Meets Tryz.prog 6 [.d false [.sl none (a0.map (eU .u8))]] { vals := [.ov true [.sl (some 85) (r.1.map ePt)], .p (vRt r.2.1), .p (iV r.2.2)] } := by
 refine mo Tryz.func6 [(0, .d false [.sl none (a0.map (eU .u8))])] ?_
 unfold spec_DrawLiftOrbit at h
 refine k_sreg (r_gq [(0, .d false [.sl none (a0.map (eU .u8))]), (2, .box [.sl (some 85) []]), (3, .box [rI 0, rI 0])] [] trivial) ?_
 refine k_sreg (r_gq [(2, .box [.sl (some 85) []]), (3, .box [rI 0, rI 0]), (5, .addr 8 [(0, 0)]), (8, .box (eCu (a0, 0, 0)))] [] trivial) ?_
 replace h := bs h
 obtain ⟨v1, hv1, h⟩ := h
 replace h := bs h
 obtain ⟨v2, hv2, h⟩ := h
 replace h := bs h
 obtain ⟨v3, hv3, h⟩ := h
 refine k_sreg (r_gq [(2, .box [.sl (some 85) (v1.1.map ePt)]), (3, .box (eRt v2.1)), (4, .p (iV v3.1))] [(1, {lend := some (none, [.ov true [.sl (some 85) (v1.1.map ePt)]], .box (eCu v1.2), false)}), (3, {lend := some (none, [.p (vRt v2.1)], .box (eCu v2.2), false)}), (5, {lend := some (none, [.p (iV v3.1)], .box (eCu v3.2), false)})] (A3 (wk_spec_l1Cur_anyLift hv1) (wk_spec_l1Cur_farRat hv2) (wk_spec_l1Cur_stepsOf hv3))) ?_
 refine k_ret ?_
 obtain rfl := oi h
 exact er [(.ov true [.sl (some 85) (v1.1.map ePt)], 2), (.p (vRt v2.1), 3), (.p (iV v3.1), 4)]
theorem wk_impl_within {a0 : Int} {a1 : Int} {a2 : Int}  {r : Bool} (h : impl_within a0 a1 a2 = some r) : Meets Tryz.prog 62 [wI a0, wI a1, wI a2] { vals := [.p (.bool r)] } := by
 refine mo Tryz.func62 [(0, .p (iV a0)), (1, .p (iV a1)), (2, .p (iV a2))] ?_
 unfold impl_within at h
 refine k_sreg (r_gq [(0, .p (iV a0)), (1, .p (iV a1)), (2, .p (iV a2))] [] trivial) ?_
 refine k_sreg (l1 := [(6, .p (.bool ((decide (a1 ≤ a0)) && (decide (a0 ≤ a2)))))]) ?_ ?_
 ·rcases ft (decide (a1 ≤ a0)) with ha0 | ha0
  ·exact RegOk.of_eq (l2 := [(6, .p (.bool ((decide (a1 ≤ a0)) && (decide (a0 ≤ a2)))))]) (r_gq [(6, .p (.bool (decide (a0 ≤ a2))))] [(4, gT), (5, gT), (6, gT), (7, bT)] (A4 ha0 ha0 ha0 ha0)) (by simp [ha0])
  ·exact RegOk.of_eq (l2 := [(6, .p (.bool ((decide (a1 ≤ a0)) && (decide (a0 ≤ a2)))))]) (r_gq [(6, .p (.bool false))] [(4, gF), (5, gF), (6, gF), (7, bF)] (A4 ha0 ha0 ha0 ha0)) (by simp [ha0])
 ·refine k_ret ?_
  obtain rfl := oi h
  exact er [(.p (.bool ((decide (a1 ≤ a0)) && (decide (a0 ≤ a2)))), 6)]
theorem wk_slices_IndexFunc_Limpl_Point_impl_Point_v {a0 : (List Qp)} {a1 : (Qp → Option Bool)} {F1 : FuncId} (hp1 : ∀ x0 y, a1 x0 = some y → Meets Tryz.prog F1 ([.v (vPt x0)] ++ []) { vals := [.p (.bool y)] }) {r : Int} (h : slices_IndexFunc_Limpl_Point_impl_Point a0 a1 = some r) : Meets Tryz.prog 159 [.d false [.sl none (a0.map ePt)], .v (.func (.func F1) #[] #[])] { vals := [.p (iV r)] } := by
 refine mo Tryz.func159 [(0, .d false [.sl none (a0.map ePt)]), (1, .p (.func (.func F1) #[] #[]))] ?_
 unfold slices_IndexFunc_Limpl_Point_impl_Point at h
 refine k_sreg (r_gq [(0, .d false [.sl none (a0.map ePt)]), (1, .p (.func (.func F1) #[] #[]))] [] trivial) ?_
 refine k_join (J := fun (x : Unit) => []) (K := fun x => slices_IndexFunc_Limpl_Point_impl_Point_k1 x = some r) (fun x1 h => ?_) ?_
 ·unfold slices_IndexFunc_Limpl_Point_impl_Point_k1 at h
  refine k_sreg (r_gq [(4, .p (iV (-1)))] [] trivial) ?_
  refine k_ret ?_
  obtain rfl := oi h
  exact er [(.p (iV (-1)), 4)]
 ·refine k_sreg (r_gq [(0, .d false [.sl none (a0.map ePt)]), (1, .p (.func (.func F1) #[] #[])), (7, .p (iV (a0.length : Int))), (8, .p (iV 0))] [(1, {n := some a0.length})] (A1 (show (a0.map ePt).length = a0.length from (List.length_map ..)))) ?_
  refine k_block ?_
  obtain ⟨y3, hl_x2, hk_x2⟩ := bs h
  clear h
  refine k_loop (J := fun (x : Int) => [(0, .d false [.sl none (a0.map ePt)]), (1, .p (.func (.func F1) #[] #[])), (7, .p (iV (a0.length : Int))), (8, .p (iV x))]) hl_x2 (wk_of (by kernel_rfl) (by kernel_rfl)) (fun x2 o_x2 h hy_x2 => ?_)
  unfold slices_IndexFunc_Limpl_Point_impl_Point_b1 at h
  refine k_sreg (r_gq [(0, .d false [.sl none (a0.map ePt)]), (1, .p (.func (.func F1) #[] #[])), (7, .p (iV (a0.length : Int))), (8, .p (iV x2)), (9, .p (.bool (decide (x2 < (a0.length : Int)))))] [] trivial) ?_
  refine k_seq ?_
  refine kc (decide (x2 < (a0.length : Int))) (fun hc5_3 => ?_) (fun hc5_3 => ?_)
  ·replace h := ite_t hc5_3 h
   refine k_skip ?_
   refine q_n ?_
   refine k_seq ?_
   refine k_block ?_
   refine k_sreg (r_gq [(0, .d false [.sl none (a0.map ePt)]), (1, .p (.func (.func F1) #[] #[])), (5, .p (iV x2)), (7, .p (iV (a0.length : Int))), (8, .p (iV x2))] [] trivial) ?_
   replace h := bs h
   obtain ⟨v5, hv5, h⟩ := h
   replace h := bs h
   obtain ⟨v6, hv6, h⟩ := h
   refine k_sreg (r_gq [(0, .d false [.sl none (a0.map ePt)]), (1, .p (.func (.func F1) #[] #[])), (5, .p (iV x2)), (7, .p (iV (a0.length : Int))), (8, .p (iV x2)), (16, .p (.bool v6))] [(3, {row := some (ePt v5)}), (5, {call := some (none, [.p (.bool v6)], true)})] (A3 (idxO_some hv5).1 (map_get ePt (idxO_some hv5).2) (hp1 _ _ hv6))) ?_
   refine kc v6 (fun hc6_6 => ?_) (fun hc6_6 => ?_)
   ·replace h := ite_t hc6_6 h
    refine k_sreg (r_gq [(4, .p (iV x2))] [] trivial) ?_
    refine k_ret ?_
    refine b_r ?_
    refine q_r ?_
    refine lq_r ?_
    refine b_r ?_
    refine q_r ?_
    have hyy := hy_x2 _ (oi h).symm
    subst hyy
    have h := hk_x2
    dsimp only [Sum.elim] at h
    obtain rfl := oi h
    exact er [(.p (iV x2), 4)]
   ·replace h := ite_f hc6_6 h
    refine k_skip ?_
    refine b_n ?_
    refine q_n ?_
    refine k_reg (r_gq [(0, .d false [.sl none (a0.map ePt)]), (1, .p (.func (.func F1) #[] #[])), (7, .p (iV (a0.length : Int))), (8, .p (iV (w64 (x2 + 1))))] [] trivial) ?_
    exact lqn (w64 (x2 + 1)) h
  ·replace h := ite_f hc5_3 h
   refine k_exit ?_
   refine q_x ?_
   refine lq_x ?_
   refine b_x ?_
   have hyy := hy_x2 _ (oi h).symm
   subst hyy
   have h := hk_x2
   dsimp only [Sum.elim] at h
   refine q_n ?_
   exact jx () h
theorem wk_slices_ContainsFunc_Limpl_Point_impl_Point_v {a0 : (List Qp)} {a1 : (Qp → Option Bool)} {F1 : FuncId} (hp1 : ∀ x0 y, a1 x0 = some y → Meets Tryz.prog F1 ([.v (vPt x0)] ++ []) { vals := [.p (.bool y)] }) {r : Bool} (h : slices_ContainsFunc_Limpl_Point_impl_Point a0 a1 = some r) : Meets Tryz.prog 118 [.d false [.sl none (a0.map ePt)], .v (.func (.func F1) #[] #[])] { vals := [.p (.bool r)] } := by
 refine mo Tryz.func118 [(0, .d false [.sl none (a0.map ePt)]), (1, .p (.func (.func F1) #[] #[]))] ?_
 unfold slices_ContainsFunc_Limpl_Point_impl_Point at h
 refine k_sreg (r_gq [(0, .d false [.sl none (a0.map ePt)]), (1, .p (.func (.func F1) #[] #[]))] [] trivial) ?_
 replace h := bs h
 obtain ⟨v1, hv1, h⟩ := h
 refine k_sreg (r_gq [(4, .p (.bool (decide (v1 ≥ 0))))] [(2, {call := some (none, [.p (iV v1)], true)})] (A1 (show Meets Tryz.prog 159 ([.d false [.sl none (a0.map ePt)], .v (.func (.func F1) #[] #[])] ++ []) { vals := [.p (iV v1)] } from (wk_slices_IndexFunc_Limpl_Point_impl_Point_v hp1 hv1)))) ?_
 refine k_ret ?_
 obtain rfl := oi h
 exact er [(.p (.bool (decide (v1 ≥ 0))), 4)]
theorem wk_impl_abs {a0 : Int}  {r : Int} (h : impl_abs a0 = some r) : Meets Tryz.prog 187 [wI a0] { vals := [.p (iV r)] } := by
 refine mo Tryz.func187 [(0, .p (iV a0))] ?_
 unfold impl_abs at h
 refine k_sreg (r_gq [(0, .p (iV a0))] [] trivial) ?_
 refine k_seq ?_
 refine k_sreg (r_gq [(0, .p (iV a0)), (4, .p (.bool (decide (a0 < 0))))] [] trivial) ?_
 refine kc (decide (a0 < 0)) (fun hc2_0 => ?_) (fun hc2_0 => ?_)
 ·replace h := ite_t hc2_0 h
  refine k_sreg (r_gq [(2, .p (iV (w64 (0 - a0))))] [] trivial) ?_
  refine k_ret ?_
  refine q_r ?_
  obtain rfl := oi h
  exact er [(.p (iV (w64 (0 - a0))), 2)]
 ·replace h := ite_f hc2_0 h
  refine k_skip ?_
  refine q_n ?_
  refine k_sreg (r_gq [(2, .p (iV a0))] [] trivial) ?_
  refine k_ret ?_
  obtain rfl := oi h
  exact er [(.p (iV a0), 2)]
theorem wk_impl_greatestDivisor {a0 : Int} {a1 : Int}  {r : Int} (h : impl_greatestDivisor a0 a1 = some r) : Meets Tryz.prog 161 [wI a0, wI a1] { vals := [.p (iV r)] } := by
 refine mo Tryz.func161 [(0, .p (iV a0)), (1, .p (iV a1))] ?_
 unfold impl_greatestDivisor at h
 refine k_sreg (r_gq [(0, .p (iV a0)), (1, .p (iV a1))] [] trivial) ?_
 replace h := bs h
 obtain ⟨v1, hv1, h⟩ := h
 replace h := bs h
 obtain ⟨v2, hv2, h⟩ := h
 refine k_sreg (r_gq [(0, .p (iV v1)), (1, .p (iV v2))] [(1, {call := some (none, [.p (iV v1)], true)}), (3, {call := some (none, [.p (iV v2)], true)})] (A2 (wk_impl_abs hv1) (wk_impl_abs hv2))) ?_
 refine k_join (J := fun (x : Int) => [(0, .p (iV x))]) (K := fun x => impl_greatestDivisor_k1 x = some r) (fun x3 h => ?_) ?_
 ·unfold impl_greatestDivisor_k1 at h
  refine k_sreg (r_gq [(4, .p (iV x3))] [] trivial) ?_
  refine k_ret ?_
  obtain rfl := oi h
  exact er [(.p (iV x3), 4)]
 ·refine k_block ?_
  obtain ⟨y5, hl_x4, hk_x4⟩ := bs h
  clear h
  refine k_loop (J := fun (x : Qr) => [(0, .p (iV x.1)), (1, .p (iV x.2))]) hl_x4 (wk_of (by kernel_rfl) (by kernel_rfl)) (fun x4 o_x4 h hy_x4 => ?_)
  unfold impl_greatestDivisor_b1 at h
  refine k_seq ?_
  refine k_sreg (r_gq [(0, .p (iV x4.1)), (1, .p (iV x4.2)), (10, .p (.bool (x4.2 != 0)))] [] trivial) ?_
  refine kc (x4.2 != 0) (fun hc5_5 => ?_) (fun hc5_5 => ?_)
  ·replace h := ite_t hc5_5 h
   refine k_skip ?_
   refine q_n ?_
   refine k_block ?_
   replace h := bs h
   obtain ⟨u7, hu7, h⟩ := h
   refine k_reg (r_dq Tryz_mixed 5 [] [(0, .p (iV x4.2)), (1, .p (iV (Int.tmod x4.1 x4.2)))] [] (A1 (guardO_some hu7))) ?_
   refine b_n ?_
   exact lqn (x4.2, (Int.tmod x4.1 x4.2)) h
  ·replace h := ite_f hc5_5 h
   refine k_exit ?_
   refine q_x ?_
   refine lq_x ?_
   refine b_x ?_
   have hyy := hy_x4 _ (oi h).symm
   subst hyy
   have h := hk_x4
   refine q_n ?_
   exact jx x4.1 h
theorem wk_impl_isRat {a0 : Qr}  {r : Bool} (h : impl_isRat a0 = some r) : Meets Tryz.prog 121 [.v (vRt a0)] { vals := [.p (.bool r)] } := by
 refine mo Tryz.func121 [(0, .p (vRt a0))] ?_
 unfold impl_isRat at h
 refine k_sreg (r_gq [(1, .box (eRt a0))] [] trivial) ?_
 replace h := bs h
 obtain ⟨v1, hv1, h⟩ := h
 replace h := bs h
 obtain ⟨w4, hw4, h⟩ := h
 refine k_sreg (l1 := [(2, .p (.bool w4))]) ?_ ?_
 ·clear h
  rcases ft v1 with ha0 | ha0
  ·replace hw4 := ite_t ha0 hw4
   replace hw4 := bs hw4
   obtain ⟨v2, hv2, hw4⟩ := hw4
   rcases ft v2 with ha1 | ha1
   ·replace hw4 := ite_t ha1 hw4
    replace hw4 := bs hw4
    obtain ⟨v3, hv3, hw4⟩ := hw4
    have hw4 := oi hw4
    subst hw4
    exact (r_gq [(2, .p (.bool (v3 == 1)))] [(2, {call := some (none, [.p (.bool v1)], true)}), (4, gT), (5, gT), (6, {g := some true, call := some (none, [.p (.bool v2)], true)}), (7, bT), (9, gT), (10, gT), (11, gT), (12, gT), (13, {g := some true, call := some (none, [.p (iV v3)], true)}), (14, gT), (15, bT)] (B6 (wk_impl_within hv1) ha0 ha0 ha0 (wk_impl_within hv2) ha0 (B6 ha1 ha1 ha1 ha1 ha1 (wk_impl_greatestDivisor hv3) (A2 ha1 ha1))))
   ·replace hw4 := ite_f ha1 hw4
    have hw4 := oi hw4
    subst hw4
    exact (r_gq [(2, .p (.bool false))] [(2, {call := some (none, [.p (.bool v1)], true)}), (4, gT), (5, gT), (6, {g := some true, call := some (none, [.p (.bool v2)], true)}), (7, bT), (9, gF), (10, gF), (11, gF), (12, gF), (13, gF), (14, gF), (15, bF)] (B6 (wk_impl_within hv1) ha0 ha0 ha0 (wk_impl_within hv2) ha0 (B6 ha1 ha1 ha1 ha1 ha1 ha1 (A1 ha1))))
  ·replace hw4 := ite_f ha0 hw4
   have hw4 := oi hw4
   subst hw4
   exact (r_gq [(2, .p (.bool false))] [(2, {call := some (none, [.p (.bool v1)], true)}), (4, gF), (5, gF), (6, gF), (7, bF), (9, gF), (10, gF), (11, gF), (12, gF), (13, gF), (14, gF), (15, bF)] (B6 (wk_impl_within hv1) ha0 ha0 ha0 ha0 (show false = false from rfl) (A6 (show false = false from rfl) (show false = false from rfl) (show false = false from rfl) (show false = false from rfl) (show false = false from rfl) (show false = false from rfl))))
 ·refine k_ret ?_
  obtain rfl := oi h
  exact er [(.p (.bool w4), 2)]
theorem wk_impl_isUnit {a0 : Qr}  {r : Bool} (h : impl_isUnit a0 = some r) : Meets Tryz.prog 160 [.v (vRt a0)] { vals := [.p (.bool r)] } := by
 refine mo Tryz.func160 [(0, .p (vRt a0))] ?_
 unfold impl_isUnit at h
 refine k_sreg (r_gq [(1, .box (eRt a0))] [] trivial) ?_
 replace h := bs h
 obtain ⟨v1, hv1, h⟩ := h
 refine k_sreg (l1 := [(2, .p (.bool (v1 && ((decide (a0.1 ≥ 0)) && (decide (a0.1 ≤ a0.2))))))]) ?_ ?_
 ·rcases ft v1 with ha0 | ha0
  ·rcases ft (decide (a0.1 ≥ 0)) with ha1 | ha1
   ·exact RegOk.of_eq (l2 := [(2, .p (.bool (v1 && ((decide (a0.1 ≥ 0)) && (decide (a0.1 ≤ a0.2))))))]) (r_gq [(2, .p (.bool (decide (a0.1 ≤ a0.2))))] [(1, {call := some (none, [.p (.bool v1)], true)}), (3, gT), (4, gT), (5, gT), (6, bT), (8, gT), (9, gT), (10, gT), (11, gT), (12, gT), (13, bT)] (B6 (wk_impl_isRat hv1) ha0 ha0 ha0 ha0 ha1 (A5 ha1 ha1 ha1 ha1 ha1))) (by simp [ha0, ha1])
   ·exact RegOk.of_eq (l2 := [(2, .p (.bool (v1 && ((decide (a0.1 ≥ 0)) && (decide (a0.1 ≤ a0.2))))))]) (r_gq [(2, .p (.bool false))] [(1, {call := some (none, [.p (.bool v1)], true)}), (3, gT), (4, gT), (5, gT), (6, bT), (8, gF), (9, gF), (10, gF), (11, gF), (12, gF), (13, bF)] (B6 (wk_impl_isRat hv1) ha0 ha0 ha0 ha0 ha1 (A5 ha1 ha1 ha1 ha1 ha1))) (by simp [ha0, ha1])
  ·exact RegOk.of_eq (l2 := [(2, .p (.bool (v1 && ((decide (a0.1 ≥ 0)) && (decide (a0.1 ≤ a0.2))))))]) (r_gq [(2, .p (.bool false))] [(1, {call := some (none, [.p (.bool v1)], true)}), (3, gF), (4, gF), (5, gF), (6, bF), (8, gF), (9, gF), (10, gF), (11, gF), (12, gF), (13, bF)] (B6 (wk_impl_isRat hv1) ha0 ha0 ha0 ha0 (show false = false from rfl) (A5 (show false = false from rfl) (show false = false from rfl) (show false = false from rfl) (show false = false from rfl) (show false = false from rfl)))) (by simp [ha0])
 ·refine k_ret ?_
  obtain rfl := oi h
  exact er [(.p (.bool (v1 && ((decide (a0.1 ≥ 0)) && (decide (a0.1 ≤ a0.2))))), 2)]
theorem wk_impl_isCoord {a0 : Qr}  {r : Bool} (h : impl_isCoord a0 = some r) : Meets Tryz.prog 120 [.v (vRt a0)] { vals := [.p (.bool r)] } := by
 refine mo Tryz.func120 [(0, .p (vRt a0))] ?_
 unfold impl_isCoord at h
 refine k_sreg (r_gq [(1, .box (eRt a0))] [] trivial) ?_
 replace h := bs h
 obtain ⟨v1, hv1, h⟩ := h
 refine k_sreg (l1 := [(2, .p (.bool (v1 && (decide (a0.2 ≤ 100)))))]) ?_ ?_
 ·rcases ft v1 with ha0 | ha0
  ·exact RegOk.of_eq (l2 := [(2, .p (.bool (v1 && (decide (a0.2 ≤ 100)))))]) (r_gq [(2, .p (.bool (decide (a0.2 ≤ 100))))] [(1, {call := some (none, [.p (.bool v1)], true)}), (3, gT), (4, gT), (5, gT), (6, bT)] (A5 (wk_impl_isUnit hv1) ha0 ha0 ha0 ha0)) (by simp [ha0])
  ·exact RegOk.of_eq (l2 := [(2, .p (.bool (v1 && (decide (a0.2 ≤ 100)))))]) (r_gq [(2, .p (.bool false))] [(1, {call := some (none, [.p (.bool v1)], true)}), (3, gF), (4, gF), (5, gF), (6, bF)] (A5 (wk_impl_isUnit hv1) ha0 ha0 ha0 ha0)) (by simp [ha0])
 ·refine k_ret ?_
  obtain rfl := oi h
  exact er [(.p (.bool (v1 && (decide (a0.2 ≤ 100)))), 2)]
theorem wk_impl_whole {a0 : Int}  {r : Qr} (h : impl_whole a0 = some r) : Meets Tryz.prog 123 [wI a0] { vals := [.p (vRt r)] } := by
 refine mo Tryz.func123 [(0, .p (iV a0))] ?_
 unfold impl_whole at h
 refine k_sreg (r_gq [(0, .p (iV a0)), (2, .box [rI 0, rI 0])] [] trivial) ?_
 refine k_sreg (r_gq [(2, .box [rI a0, rI 1])] [] trivial) ?_
 refine k_ret ?_
 obtain rfl := oi h
 exact er [(.p (.agg #[.int .i64 a0, .int .i64 1]), 2)]
theorem wk_impl_compare {a0 : Qr} {a1 : Qr}  {r : Int} (h : impl_compare a0 a1 = some r) : Meets Tryz.prog 95 [.v (vRt a0), .v (vRt a1)] { vals := [.p (iV r)] } := by
 refine mo Tryz.func95 [(0, .p (vRt a0)), (1, .p (vRt a1))] ?_
 unfold impl_compare at h
 refine k_sreg (r_gq [(2, .box (eRt a0)), (3, .box (eRt a1))] [] trivial) ?_
 refine k_seq ?_
 refine k_sreg (r_dq Tryz_mixed 11 [] [(5, .p (iV (w64 (a0.1 * a1.2)))), (6, .p (iV (w64 (a1.1 * a0.2))))] [] trivial) ?_
 refine k_block ?_
 refine k_sreg (r_gq [(5, .p (iV (w64 (a0.1 * a1.2)))), (6, .p (iV (w64 (a1.1 * a0.2)))), (17, .p (.bool (decide ((w64 (a0.1 * a1.2)) < (w64 (a1.1 * a0.2))))))] [] trivial) ?_
 refine kc (decide ((w64 (a0.1 * a1.2)) < (w64 (a1.1 * a0.2)))) (fun hc3_0 => ?_) (fun hc3_0 => ?_)
 ·replace h := ite_t hc3_0 h
  refine k_sreg (r_gq [(4, .p (iV (-1)))] [] trivial) ?_
  refine k_ret ?_
  refine b_r ?_
  refine q_r ?_
  obtain rfl := oi h
  exact er [(.p (iV (-1)), 4)]
 ·replace h := ite_f hc3_0 h
  refine k_sreg (r_gq [(21, .p (.bool (decide ((w64 (a0.1 * a1.2)) > (w64 (a1.1 * a0.2))))))] [] trivial) ?_
  refine kc (decide ((w64 (a0.1 * a1.2)) > (w64 (a1.1 * a0.2)))) (fun hc3_1 => ?_) (fun hc3_1 => ?_)
  ·replace h := ite_t hc3_1 h
   refine k_sreg (r_gq [(4, .p (iV 1))] [] trivial) ?_
   refine k_ret ?_
   refine b_r ?_
   refine q_r ?_
   obtain rfl := oi h
   exact er [(.p (iV 1), 4)]
  ·replace h := ite_f hc3_1 h
   refine k_skip ?_
   refine b_n ?_
   refine q_n ?_
   refine k_sreg (r_gq [(4, .p (iV 0))] [] trivial) ?_
   refine k_ret ?_
   obtain rfl := oi h
   exact er [(.p (iV 0), 4)]
theorem wk_impl_less {a0 : Qr} {a1 : Qr}  {r : Bool} (h : impl_less a0 a1 = some r) : Meets Tryz.prog 122 [.v (vRt a0), .v (vRt a1)] { vals := [.p (.bool r)] } := by
 refine mo Tryz.func122 [(0, .p (vRt a0)), (1, .p (vRt a1))] ?_
 unfold impl_less at h
 refine k_sreg (r_gq [(2, .box (eRt a0)), (3, .box (eRt a1))] [] trivial) ?_
 replace h := bs h
 obtain ⟨v1, hv1, h⟩ := h
 refine k_sreg (r_gq [(4, .p (.bool (decide (v1 < 0))))] [(2, {call := some (none, [.p (iV v1)], true)})] (A1 (wk_impl_compare hv1))) ?_
 refine k_ret ?_
 obtain rfl := oi h
 exact er [(.p (.bool (decide (v1 < 0))), 4)]
theorem wk_impl_isLift_1 {a0 : Qp}  {r : Bool} (h : impl_isLift_1 a0 = some r) : Meets Tryz.prog 119 [.v (vPt a0)] { vals := [.p (.bool r)] } := by
 refine mo Tryz.func119 [(0, .p (vPt a0))] ?_
 unfold impl_isLift_1 at h
 refine k_sreg (r_gq [(1, .box (ePt a0))] [] trivial) ?_
 replace h := bs h
 obtain ⟨v1, hv1, h⟩ := h
 replace h := bs h
 obtain ⟨w7, hw7, h⟩ := h
 refine k_sreg (l1 := [(2, .p (.bool w7))]) ?_ ?_
 ·clear h
  rcases ft (!v1) with ha0 | ha0
  ·replace hw7 := ite_t ha0 hw7
   have hw7 := oi hw7
   subst hw7
   exact (r_dq Tryz_mixed 26 [] [(2, .p (.bool true))] [(2, {call := some (none, [.p (.bool v1)], true)}), (5, gT), (6, gT), (7, gT), (8, gT), (9, bT), (11, gT), (12, gT), (13, gT), (14, gT), (15, bT), (17, gT), (18, gT), (19, gT), (20, gT), (21, bT), (23, gT), (24, gT), (25, gT), (26, gT), (27, bT)] (B6 (wk_impl_isCoord hv1) ha0 ha0 ha0 ha0 ha0 (B6 (show true = true from rfl) (show true = true from rfl) (show true = true from rfl) (show true = true from rfl) (show true = true from rfl) (show true = true from rfl) (B6 (show true = true from rfl) (show true = true from rfl) (show true = true from rfl) (show true = true from rfl) (show true = true from rfl) (show true = true from rfl) (A3 (show true = true from rfl) (show true = true from rfl) (show true = true from rfl))))))
  ·replace hw7 := ite_f ha0 hw7
   replace hw7 := bs hw7
   obtain ⟨v2, hv2, hw7⟩ := hw7
   rcases ft (!v2) with ha1 | ha1
   ·replace hw7 := ite_t ha1 hw7
    have hw7 := oi hw7
    subst hw7
    exact (r_dq Tryz_mixed 26 [] [(2, .p (.bool true))] [(2, {call := some (none, [.p (.bool v1)], true)}), (5, gF), (6, gF), (7, {g := some false, call := some (none, [.p (.bool v2)], true)}), (8, gF), (9, bF), (11, gT), (12, gT), (13, gT), (14, gT), (15, bT), (17, gT), (18, gT), (19, gT), (20, gT), (21, bT), (23, gT), (24, gT), (25, gT), (26, gT), (27, bT)] (B6 (wk_impl_isCoord hv1) ha0 ha0 ha0 (wk_impl_isRat hv2) ha0 (B6 ha0 ha1 ha1 ha1 ha1 ha1 (B6 (show true = true from rfl) (show true = true from rfl) (show true = true from rfl) (show true = true from rfl) (show true = true from rfl) (show true = true from rfl) (A4 (show true = true from rfl) (show true = true from rfl) (show true = true from rfl) (show true = true from rfl))))))
   ·replace hw7 := ite_f ha1 hw7
    rcases ft (decide (a0.2.2 > 100)) with ha2 | ha2
    ·replace hw7 := ite_t ha2 hw7
     have hw7 := oi hw7
     subst hw7
     exact (r_dq Tryz_mixed 26 [] [(2, .p (.bool true))] [(2, {call := some (none, [.p (.bool v1)], true)}), (5, gF), (6, gF), (7, {g := some false, call := some (none, [.p (.bool v2)], true)}), (8, gF), (9, bF), (11, gF), (12, gF), (13, gF), (14, gF), (15, bF), (17, gT), (18, gT), (19, gT), (20, gT), (21, bT), (23, gT), (24, gT), (25, gT), (26, gT), (27, bT)] (B6 (wk_impl_isCoord hv1) ha0 ha0 ha0 (wk_impl_isRat hv2) ha0 (B6 ha0 ha1 ha1 ha1 ha1 ha1 (B6 ha2 ha2 ha2 ha2 ha2 (show true = true from rfl) (A4 (show true = true from rfl) (show true = true from rfl) (show true = true from rfl) (show true = true from rfl))))))
    ·replace hw7 := ite_f ha2 hw7
     replace hw7 := bs hw7
     obtain ⟨v3, hv3, hw7⟩ := hw7
     replace hw7 := bs hw7
     obtain ⟨v4, hv4, hw7⟩ := hw7
     rcases ft v4 with ha3 | ha3
     ·replace hw7 := ite_t ha3 hw7
      have hw7 := oi hw7
      subst hw7
      exact (r_dq Tryz_mixed 26 [] [(2, .p (.bool true))] [(2, {call := some (none, [.p (.bool v1)], true)}), (5, gF), (6, gF), (7, {g := some false, call := some (none, [.p (.bool v2)], true)}), (8, gF), (9, bF), (11, gF), (12, gF), (13, gF), (14, gF), (15, bF), (17, gF), (18, gF), (19, {g := some false, call := some (none, [.p (vRt v3)], true)}), (20, {g := some false, call := some (none, [.p (.bool v4)], true)}), (21, bF), (23, gT), (24, gT), (25, gT), (26, gT), (27, bT)] (B6 (wk_impl_isCoord hv1) ha0 ha0 ha0 (wk_impl_isRat hv2) ha0 (B6 ha0 ha1 ha1 ha1 ha1 ha1 (B6 ha2 ha2 ha2 (wk_impl_whole hv3) ha2 (wk_impl_less hv4) (A6 ha2 ha3 ha3 ha3 ha3 ha3)))))
     ·replace hw7 := ite_f ha3 hw7
      replace hw7 := bs hw7
      obtain ⟨v5, hv5, hw7⟩ := hw7
      replace hw7 := bs hw7
      obtain ⟨v6, hv6, hw7⟩ := hw7
      have hw7 := oi hw7
      subst hw7
      exact (r_dq Tryz_mixed 26 [] [(2, .p (.bool v6))] [(2, {call := some (none, [.p (.bool v1)], true)}), (5, gF), (6, gF), (7, {g := some false, call := some (none, [.p (.bool v2)], true)}), (8, gF), (9, bF), (11, gF), (12, gF), (13, gF), (14, gF), (15, bF), (17, gF), (18, gF), (19, {g := some false, call := some (none, [.p (vRt v3)], true)}), (20, {g := some false, call := some (none, [.p (.bool v4)], true)}), (21, bF), (23, {g := some false, call := some (none, [.p (vRt v5)], true)}), (24, gF), (25, gF), (26, {g := some false, call := some (none, [.p (.bool v6)], true)}), (27, bF)] (B6 (wk_impl_isCoord hv1) ha0 ha0 ha0 (wk_impl_isRat hv2) ha0 (B6 ha0 ha1 ha1 ha1 ha1 ha1 (B6 ha2 ha2 ha2 (wk_impl_whole hv3) ha2 (wk_impl_less hv4) (B6 ha2 ha3 (wk_impl_whole hv5) ha3 ha3 ha3 (A2 (wk_impl_less hv6) ha3))))))
 ·refine k_ret ?_
  obtain rfl := oi h
  exact er [(.p (.bool w7), 2)]
theorem wk_impl_zero   {r : Qr} (h : impl_zero  = some r) : Meets Tryz.prog 106 [] { vals := [.p (vRt r)] } := by
 refine mo Tryz.func106 [] ?_
 unfold impl_zero at h
 refine k_sreg (r_gq [(0, .box [rI 0, rI 0])] [] trivial) ?_
 refine k_sreg (r_gq [(0, .box [rI 0, rI 1])] [] trivial) ?_
 refine k_ret ?_
 obtain rfl := oi h
 exact er [(.p (.agg #[.int .i64 0, .int .i64 1]), 0)]
theorem wk_impl_oneRat   {r : Qr} (h : impl_oneRat  = some r) : Meets Tryz.prog 108 [] { vals := [.p (vRt r)] } := by
 refine mo Tryz.func108 [] ?_
 unfold impl_oneRat at h
 refine k_sreg (r_gq [(0, .box [rI 0, rI 0])] [] trivial) ?_
 refine k_sreg (r_gq [(0, .box [rI 1, rI 1])] [] trivial) ?_
 refine k_ret ?_
 obtain rfl := oi h
 exact er [(.p (.agg #[.int .i64 1, .int .i64 1]), 0)]
theorem wk_impl_isLift {a0 : (List Qp)}  {r : Bool} (h : impl_isLift a0 = some r) : Meets Tryz.prog 60 [.d true [.sl none (a0.map ePt)]] { vals := [.p (.bool r)] } := by
 refine mo Tryz.func60 [(0, .d true [.sl none (a0.map ePt)])] ?_
 unfold impl_isLift at h
 refine k_sreg (r_gq [(1, .box [.sl none (a0.map ePt)])] [] trivial) ?_
 refine k_sreg (r_gq [(3, .d false [.sl none (a0.map ePt)])] [(1, bT)] (A1 (show frR [.sl none (a0.map ePt)] = true from (frR1 (frL_enc (fr_P (fr_P fr_I fr_I) (fr_P fr_I fr_I))) rfl)))) ?_
 refine k_seq ?_
 replace h := bs h
 obtain ⟨v1, hv1, h⟩ := h
 replace h := bs h
 obtain ⟨w3, hw3, h⟩ := h
 refine k_sreg (l1 := [(3, .d false [.sl none (a0.map ePt)]), (16, .p (.bool w3))]) ?_ ?_
 ·clear h
  rcases ft (!v1) with ha0 | ha0
  ·replace hw3 := ite_t ha0 hw3
   have hw3 := oi hw3
   subst hw3
   exact (r_gq [(3, .d false [.sl none (a0.map ePt)]), (16, .p (.bool true))] [(1, {n := some a0.length}), (2, {call := some (none, [.p (.bool v1)], true)}), (5, gT), (6, gT), (7, bT)] (A5 (show (a0.map ePt).length = a0.length from (List.length_map ..)) (wk_impl_within hv1) ha0 ha0 ha0))
  ·replace hw3 := ite_f ha0 hw3
   replace hw3 := bs hw3
   obtain ⟨v2, hv2, hw3⟩ := hw3
   have hw3 := oi hw3
   subst hw3
   exact (r_gq [(3, .d false [.sl none (a0.map ePt)]), (16, .p (.bool v2))] [(1, {n := some a0.length}), (2, {call := some (none, [.p (.bool v1)], true)}), (5, gF), (6, {g := some false, call := some (none, [.p (.bool v2)], true)}), (7, bF)] (A6 (show (a0.map ePt).length = a0.length from (List.length_map ..)) (wk_impl_within hv1) ha0 ha0 (show Meets Tryz.prog 118 ([.d false [.sl none (a0.map ePt)], .v (.func (.func 119) #[] #[])] ++ []) { vals := [.p (.bool v2)] } from (wk_slices_ContainsFunc_Limpl_Point_impl_Point_v (fun x0 y hy => wk_impl_isLift_1 hy) hv2)) ha0))
 ·refine kc w3 (fun hc2_3 => ?_) (fun hc2_3 => ?_)
  ·replace h := ite_t hc2_3 h
   refine k_sreg (r_gq [(2, .p (.bool false))] [] trivial) ?_
   refine k_ret ?_
   refine q_r ?_
   obtain rfl := oi h
   exact er [(.p (.bool false), 2)]
  ·replace h := ite_f hc2_3 h
   refine k_skip ?_
   refine q_n ?_
   refine k_join (J := fun (x : Unit) => [(3, .d false [.sl none (a0.map ePt)])]) (K := fun x => impl_isLift_k1 a0 x = some r) (fun x5 h => ?_) ?_
   ·unfold impl_isLift_k1 at h
    replace h := bs h
    obtain ⟨v6, hv6, h⟩ := h
    replace h := bs h
    obtain ⟨v7, hv7, h⟩ := h
    refine k_sreg (r_dq Tryz_mixed 12 [(11, 5)] [(5, .box (ePt v6)), (6, .box (ePt v7))] [(1, {row := some (ePt v6)}), (5, {n := some a0.length}), (7, {row := some (ePt v7)})] (A5 (idxO_some hv6).1 (map_get ePt (idxO_some hv6).2) (show (a0.map ePt).length = a0.length from (List.length_map ..)) (idxO_some hv7).1 (map_get ePt (idxO_some hv7).2))) ?_
    replace h := bs h
    obtain ⟨v8, hv8, h⟩ := h
    replace h := bs h
    obtain ⟨w10, hw10, h⟩ := h
    refine k_sreg (l1 := [(2, .p (.bool w10))]) ?_ ?_
    ·clear h
     rcases ft ((v6.1.1 == v8.1) && (v6.1.2 == v8.2)) with ha1 | ha1
     ·replace hw10 := ite_t ha1 hw10
      replace hw10 := bs hw10
      obtain ⟨v9, hv9, hw10⟩ := hw10
      rcases ft ((v7.1.1 == v9.1) && (v7.1.2 == v9.2)) with ha2 | ha2
      ·replace hw10 := ite_t ha2 hw10
       have hw10 := oi hw10
       subst hw10
       exact (r_dq Tryz_mixed 24 [] [(2, .p (.bool ((v7.2.1 == (w64 (v6.2.1 + v6.2.2))) && (v7.2.2 == v6.2.2))))] [(2, {call := some (none, [.p (vRt v8)], true)}), (3, {pv := some (.bool ((v6.1.1 == v8.1) && (v6.1.2 == v8.2)))}), (5, gT), (6, gT), (7, {g := some true, call := some (none, [.p (vRt v9)], true)}), (8, {g := some true, pv := some (.bool ((v7.1.1 == v9.1) && (v7.1.2 == v9.2)))}), (9, bT), (11, gT), (12, gT), (13, gT), (14, gT), (15, gT), (16, gT), (17, gT), (18, gT), (19, gT), (20, gT), (21, gT), (22, gT), (23, gT), (24, {g := some true, pv := some (.bool ((v7.2.1 == (w64 (v6.2.1 + v6.2.2))) && (v7.2.2 == v6.2.2)))}), (25, bT)] (B6 (wk_impl_zero hv8) (show PureAt Tryz.prog (.binOp .eql 27 (.tmp 60) (.tmp 61) 27) [vRt v6.1, vRt v8] (.bool ((v6.1.1 == v8.1) && (v6.1.2 == v8.2))) from (pure_eql2 (by kernel_rfl))) ha1 ha1 ha1 (wk_impl_oneRat hv9) (B6 ha1 (show PureAt Tryz.prog (.binOp .eql 27 (.tmp 65) (.tmp 66) 27) [vRt v7.1, vRt v9] (.bool ((v7.1.1 == v9.1) && (v7.1.2 == v9.2))) from (pure_eql2 (by kernel_rfl))) ha1 ha2 ha2 ha2 (B6 ha2 ha2 ha2 ha2 ha2 ha2 (B6 ha2 ha2 ha2 ha2 ha2 (show PureAt Tryz.prog (.binOp .eql 27 (.tmp 71) (.tmp 82) 27) [vRt v7.2, .agg #[.int .i64 (w64 (v6.2.1 + v6.2.2)), .int .i64 v6.2.2]] (.bool ((v7.2.1 == (w64 (v6.2.1 + v6.2.2))) && (v7.2.2 == v6.2.2))) from (pure_eql2 (by kernel_rfl))) (A1 ha2))))))
      ·replace hw10 := ite_f ha2 hw10
       have hw10 := oi hw10
       subst hw10
       exact (r_dq Tryz_mixed 24 [] [(2, .p (.bool false))] [(2, {call := some (none, [.p (vRt v8)], true)}), (3, {pv := some (.bool ((v6.1.1 == v8.1) && (v6.1.2 == v8.2)))}), (5, gT), (6, gT), (7, {g := some true, call := some (none, [.p (vRt v9)], true)}), (8, {g := some true, pv := some (.bool ((v7.1.1 == v9.1) && (v7.1.2 == v9.2)))}), (9, bT), (11, gF), (12, gF), (13, gF), (14, gF), (15, gF), (16, gF), (17, gF), (18, gF), (19, gF), (20, gF), (21, gF), (22, gF), (23, gF), (24, gF), (25, bF)] (B6 (wk_impl_zero hv8) (show PureAt Tryz.prog (.binOp .eql 27 (.tmp 60) (.tmp 61) 27) [vRt v6.1, vRt v8] (.bool ((v6.1.1 == v8.1) && (v6.1.2 == v8.2))) from (pure_eql2 (by kernel_rfl))) ha1 ha1 ha1 (wk_impl_oneRat hv9) (B6 ha1 (show PureAt Tryz.prog (.binOp .eql 27 (.tmp 65) (.tmp 66) 27) [vRt v7.1, vRt v9] (.bool ((v7.1.1 == v9.1) && (v7.1.2 == v9.2))) from (pure_eql2 (by kernel_rfl))) ha1 ha2 ha2 ha2 (B6 ha2 ha2 ha2 ha2 ha2 ha2 (A6 ha2 ha2 ha2 ha2 ha2 ha2)))))
     ·replace hw10 := ite_f ha1 hw10
      have hw10 := oi hw10
      subst hw10
      exact (r_dq Tryz_mixed 24 [] [(2, .p (.bool false))] [(2, {call := some (none, [.p (vRt v8)], true)}), (3, {pv := some (.bool ((v6.1.1 == v8.1) && (v6.1.2 == v8.2)))}), (5, gF), (6, gF), (7, gF), (8, gF), (9, bF), (11, gF), (12, gF), (13, gF), (14, gF), (15, gF), (16, gF), (17, gF), (18, gF), (19, gF), (20, gF), (21, gF), (22, gF), (23, gF), (24, gF), (25, bF)] (B6 (wk_impl_zero hv8) (show PureAt Tryz.prog (.binOp .eql 27 (.tmp 60) (.tmp 61) 27) [vRt v6.1, vRt v8] (.bool ((v6.1.1 == v8.1) && (v6.1.2 == v8.2))) from (pure_eql2 (by kernel_rfl))) ha1 ha1 ha1 ha1 (B6 ha1 (show false = false from rfl) (show false = false from rfl) (show false = false from rfl) (show false = false from rfl) (show false = false from rfl) (B6 (show false = false from rfl) (show false = false from rfl) (show false = false from rfl) (show false = false from rfl) (show false = false from rfl) (show false = false from rfl) (A4 (show false = false from rfl) (show false = false from rfl) (show false = false from rfl) (show false = false from rfl))))))
    ·refine k_ret ?_
     obtain rfl := oi h
     exact er [(.p (.bool w10), 2)]
   ·refine k_sreg (r_gq [(3, .d false [.sl none (a0.map ePt)]), (4, .p (iV 1))] [] trivial) ?_
    refine k_block ?_
    obtain ⟨y12, hl_x11, hk_x11⟩ := bs h
    clear h
    refine k_loop (J := fun (x : Int) => [(3, .d false [.sl none (a0.map ePt)]), (4, .p (iV x))]) hl_x11 (wk_of (by kernel_rfl) (by kernel_rfl)) (fun x11 o_x11 h hy_x11 => ?_)
    unfold impl_isLift_b1 at h
    refine k_seq ?_
    refine k_sreg (r_gq [(3, .d false [.sl none (a0.map ePt)]), (4, .p (iV x11)), (20, .p (.bool (decide (x11 < (a0.length : Int)))))] [(2, {n := some a0.length})] (A1 (show (a0.map ePt).length = a0.length from (List.length_map ..)))) ?_
    refine kc (decide (x11 < (a0.length : Int))) (fun hc5_12 => ?_) (fun hc5_12 => ?_)
    ·replace h := ite_t hc5_12 h
     refine k_skip ?_
     refine q_n ?_
     refine k_seq ?_
     refine k_block ?_
     replace h := bs h
     obtain ⟨v14, hv14, h⟩ := h
     replace h := bs h
     obtain ⟨v15, hv15, h⟩ := h
     replace h := bs h
     obtain ⟨v16, hv16, h⟩ := h
     replace h := bs h
     obtain ⟨w18, hw18, h⟩ := h
     refine k_sreg (l1 := [(3, .d false [.sl none (a0.map ePt)]), (4, .p (iV x11)), (49, .p (.bool w18))]) ?_ ?_
     ·clear h
      rcases ft (!v16) with ha2 | ha2
      ·replace hw18 := ite_t ha2 hw18
       have hw18 := oi hw18
       subst hw18
       exact (r_dq Tryz_mixed 25 [] [(3, .d false [.sl none (a0.map ePt)]), (4, .p (iV x11)), (49, .p (.bool true))] [(3, {row := some (ePt v14)}), (8, {row := some (ePt v15)}), (11, {call := some (none, [.p (.bool v16)], true)}), (14, gT), (15, gT), (16, gT), (17, gT), (18, gT), (19, gT), (20, gT), (21, gT), (22, gT), (23, gT), (24, gT), (25, gT), (26, bT)] (B6 (idxO_some hv14).1 (map_get ePt (idxO_some hv14).2) (idxO_some hv15).1 (map_get ePt (idxO_some hv15).2) (wk_impl_less hv16) ha2 (B6 ha2 ha2 ha2 ha2 ha2 ha2 (A6 ha2 ha2 ha2 ha2 ha2 ha2))))
      ·replace hw18 := ite_f ha2 hw18
       replace hw18 := bs hw18
       obtain ⟨v17, hv17, hw18⟩ := hw18
       have hw18 := oi hw18
       subst hw18
       exact (r_dq Tryz_mixed 25 [] [(3, .d false [.sl none (a0.map ePt)]), (4, .p (iV x11)), (49, .p (.bool v17))] [(3, {row := some (ePt v14)}), (8, {row := some (ePt v15)}), (11, {call := some (none, [.p (.bool v16)], true)}), (14, gF), (15, gF), (16, {g := some false, row := some (ePt v15)}), (17, gF), (18, gF), (19, gF), (20, gF), (21, gF), (22, {g := some false, row := some (ePt v14)}), (23, gF), (24, gF), (25, {g := some false, call := some (none, [.p (.bool v17)], true)}), (26, bF)] (B6 (idxO_some hv14).1 (map_get ePt (idxO_some hv14).2) (idxO_some hv15).1 (map_get ePt (idxO_some hv15).2) (wk_impl_less hv16) ha2 (B6 ha2 ha2 (idxO_some hv15).1 (map_get ePt (idxO_some hv15).2) ha2 ha2 (B6 ha2 ha2 ha2 ha2 (idxO_some hv14).1 (map_get ePt (idxO_some hv14).2) (A5 ha2 ha2 ha2 (wk_impl_less hv17) ha2)))))
     ·refine kc w18 (fun hc6_18 => ?_) (fun hc6_18 => ?_)
      ·replace h := ite_t hc6_18 h
       refine k_sreg (r_gq [(2, .p (.bool false))] [] trivial) ?_
       refine k_ret ?_
       refine b_r ?_
       refine q_r ?_
       refine lq_r ?_
       refine b_r ?_
       refine q_r ?_
       have hyy := hy_x11 _ (oi h).symm
       subst hyy
       have h := hk_x11
       dsimp only [Sum.elim] at h
       obtain rfl := oi h
       exact er [(.p (.bool false), 2)]
      ·replace h := ite_f hc6_18 h
       refine k_skip ?_
       refine b_n ?_
       refine q_n ?_
       refine k_reg (r_gq [(3, .d false [.sl none (a0.map ePt)]), (4, .p (iV (w64 (x11 + 1))))] [] trivial) ?_
       exact lqn (w64 (x11 + 1)) h
    ·replace h := ite_f hc5_12 h
     refine k_exit ?_
     refine q_x ?_
     refine lq_x ?_
     refine b_x ?_
     have hyy := hy_x11 _ (oi h).symm
     subst hyy
     have h := hk_x11
     dsimp only [Sum.elim] at h
     refine q_n ?_
     exact jx () h
theorem wk_impl_isFar {a0 : Qr}  {r : Bool} (h : impl_isFar a0 = some r) : Meets Tryz.prog 61 [.v (vRt a0)] { vals := [.p (.bool r)] } := by
 refine mo Tryz.func61 [(0, .p (vRt a0))] ?_
 unfold impl_isFar at h
 refine k_sreg (r_gq [(1, .box (eRt a0))] [] trivial) ?_
 replace h := bs h
 obtain ⟨v1, hv1, h⟩ := h
 replace h := bs h
 obtain ⟨w6, hw6, h⟩ := h
 refine k_sreg (l1 := [(2, .p (.bool w6))]) ?_ ?_
 ·clear h
  rcases ft v1 with ha0 | ha0
  ·replace hw6 := ite_t ha0 hw6
   replace hw6 := bs hw6
   obtain ⟨v2, hv2, hw6⟩ := hw6
   replace hw6 := bs hw6
   obtain ⟨v3, hv3, hw6⟩ := hw6
   rcases ft (!v3) with ha1 | ha1
   ·replace hw6 := ite_t ha1 hw6
    replace hw6 := bs hw6
    obtain ⟨v4, hv4, hw6⟩ := hw6
    replace hw6 := bs hw6
    obtain ⟨v5, hv5, hw6⟩ := hw6
    have hw6 := oi hw6
    subst hw6
    exact (r_dq Tryz_mixed 11 [] [(2, .p (.bool (!v5)))] [(1, {call := some (none, [.p (.bool v1)], true)}), (3, gT), (4, {g := some true, call := some (none, [.p (vRt v2)], true)}), (5, {g := some true, call := some (none, [.p (.bool v3)], true)}), (6, gT), (7, bT), (9, {g := some true, call := some (none, [.p (vRt v4)], true)}), (10, gT), (11, {g := some true, call := some (none, [.p (.bool v5)], true)}), (12, gT), (13, bT)] (B6 (wk_impl_isRat hv1) ha0 ha0 (wk_impl_whole hv2) ha0 (wk_impl_less hv3) (B6 ha0 ha0 ha1 (wk_impl_whole hv4) ha1 ha1 (A3 (wk_impl_less hv5) ha1 ha1))))
   ·replace hw6 := ite_f ha1 hw6
    have hw6 := oi hw6
    subst hw6
    exact (r_dq Tryz_mixed 11 [] [(2, .p (.bool false))] [(1, {call := some (none, [.p (.bool v1)], true)}), (3, gT), (4, {g := some true, call := some (none, [.p (vRt v2)], true)}), (5, {g := some true, call := some (none, [.p (.bool v3)], true)}), (6, gT), (7, bT), (9, gF), (10, gF), (11, gF), (12, gF), (13, bF)] (B6 (wk_impl_isRat hv1) ha0 ha0 (wk_impl_whole hv2) ha0 (wk_impl_less hv3) (B6 ha0 ha0 ha1 ha1 ha1 ha1 (A1 ha1))))
  ·replace hw6 := ite_f ha0 hw6
   have hw6 := oi hw6
   subst hw6
   exact (r_dq Tryz_mixed 11 [] [(2, .p (.bool false))] [(1, {call := some (none, [.p (.bool v1)], true)}), (3, gF), (4, gF), (5, gF), (6, gF), (7, bF), (9, gF), (10, gF), (11, gF), (12, gF), (13, bF)] (B6 (wk_impl_isRat hv1) ha0 ha0 ha0 ha0 ha0 (A5 (show false = false from rfl) (show false = false from rfl) (show false = false from rfl) (show false = false from rfl) (show false = false from rfl))))
 ·refine k_ret ?_
  obtain rfl := oi h
  exact er [(.p (.bool w6), 2)]
theorem wk_impl_floorDivide {a0 : Int} {a1 : Int}  {r : Int} (h : impl_floorDivide a0 a1 = some r) : Meets Tryz.prog 188 [wI a0, wI a1] { vals := [.p (iV r)] } := by
 refine mo Tryz.func188 [(0, .p (iV a0)), (1, .p (iV a1))] ?_
 unfold impl_floorDivide at h
 refine k_sreg (r_gq [(0, .p (iV a0)), (1, .p (iV a1))] [] trivial) ?_
 replace h := bs h
 obtain ⟨u1, hu1, h⟩ := h
 refine k_sreg (r_gq [(0, .p (iV a0)), (1, .p (iV a1)), (5, .p (iV (w64 (Int.tdiv a0 a1))))] [] (A1 (guardO_some hu1))) ?_
 refine k_seq ?_
 refine k_sreg (r_gq [(5, .p (iV (w64 (Int.tdiv a0 a1)))), (12, .p (.bool (decide ((Int.tmod a0 a1) < 0))))] [] (A1 (guardO_some hu1))) ?_
 refine kc (decide ((Int.tmod a0 a1) < 0)) (fun hc2_1 => ?_) (fun hc2_1 => ?_)
 ·replace h := ite_t hc2_1 h
  refine k_reg (r_gq [(5, .p (iV (w64 ((w64 (Int.tdiv a0 a1)) - 1))))] [] trivial) ?_
  refine q_n ?_
  refine k_sreg (r_gq [(4, .p (iV (w64 ((w64 (Int.tdiv a0 a1)) - 1))))] [] trivial) ?_
  refine k_ret ?_
  obtain rfl := oi h
  exact er [(.p (iV (w64 ((w64 (Int.tdiv a0 a1)) - 1))), 4)]
 ·replace h := ite_f hc2_1 h
  refine k_skip ?_
  refine q_n ?_
  refine k_sreg (r_gq [(4, .p (iV (w64 (Int.tdiv a0 a1))))] [] trivial) ?_
  refine k_ret ?_
  obtain rfl := oi h
  exact er [(.p (iV (w64 (Int.tdiv a0 a1))), 4)]
theorem wk_impl_floor {a0 : Qr}  {r : Int} (h : impl_floor a0 = some r) : Meets Tryz.prog 162 [.v (vRt a0)] { vals := [.p (iV r)] } := by
 refine mo Tryz.func162 [(0, .p (vRt a0))] ?_
 unfold impl_floor at h
 refine k_sreg (r_gq [(1, .box (eRt a0))] [] trivial) ?_
 replace h := bs h
 obtain ⟨v1, hv1, h⟩ := h
 refine k_sreg (r_gq [(2, .p (iV v1))] [(4, {call := some (none, [.p (iV v1)], true)})] (A1 (wk_impl_floorDivide hv1))) ?_
 refine k_ret ?_
 obtain rfl := oi h
 exact er [(.p (iV v1), 2)]
theorem wk_impl_negated {a0 : Qr}  {r : Qr} (h : impl_negated a0 = some r) : Meets Tryz.prog 165 [.v (vRt a0)] { vals := [.p (vRt r)] } := by
 refine mo Tryz.func165 [(0, .p (vRt a0))] ?_
 unfold impl_negated at h
 refine k_sreg (r_gq [(1, .box (eRt a0)), (2, .box [rI 0, rI 0])] [] trivial) ?_
 refine k_sreg (r_gq [(2, .box [rI (w64 (0 - a0.1)), rI a0.2])] [] trivial) ?_
 refine k_ret ?_
 obtain rfl := oi h
 exact er [(.p (.agg #[.int .i64 (w64 (0 - a0.1)), .int .i64 a0.2]), 2)]
theorem wk_impl_areRats {a0 : (List Qr)}  {r : Bool} (h : impl_areRats a0 = some r) : Meets Tryz.prog 166 [.d false [.sl none (a0.map eRt)]] { vals := [.p (.bool r)] } := by
 refine mo Tryz.func166 [(0, .d false [.sl none (a0.map eRt)])] ?_
 unfold impl_areRats at h
 refine k_sreg (r_gq [(0, .d false [.sl none (a0.map eRt)])] [] trivial) ?_
 refine k_join (J := fun (x : Unit) => []) (K := fun x => impl_areRats_k1 x = some r) (fun x1 h => ?_) ?_
 ·unfold impl_areRats_k1 at h
  refine k_sreg (r_gq [(2, .p (.bool true))] [] trivial) ?_
  refine k_ret ?_
  obtain rfl := oi h
  exact er [(.p (.bool true), 2)]
 ·refine k_sreg (r_gq [(5, .d false [.sl none (a0.map eRt)]), (6, .p (iV (a0.length : Int))), (7, .p (iV 0))] [(1, {n := some a0.length})] (A1 (show (a0.map eRt).length = a0.length from (List.length_map ..)))) ?_
  refine k_block ?_
  obtain ⟨y3, hl_x2, hk_x2⟩ := bs h
  clear h
  refine k_loop (J := fun (x : Int) => [(5, .d false [.sl none (a0.map eRt)]), (6, .p (iV (a0.length : Int))), (7, .p (iV x))]) hl_x2 (wk_of (by kernel_rfl) (by kernel_rfl)) (fun x2 o_x2 h hy_x2 => ?_)
  unfold impl_areRats_b1 at h
  refine k_sreg (r_gq [(5, .d false [.sl none (a0.map eRt)]), (6, .p (iV (a0.length : Int))), (7, .p (iV x2)), (8, .p (.bool (decide (x2 < (a0.length : Int)))))] [] trivial) ?_
  refine k_seq ?_
  refine kc (decide (x2 < (a0.length : Int))) (fun hc5_3 => ?_) (fun hc5_3 => ?_)
  ·replace h := ite_t hc5_3 h
   refine k_skip ?_
   refine q_n ?_
   refine k_seq ?_
   refine k_block ?_
   replace h := bs h
   obtain ⟨v5, hv5, h⟩ := h
   refine k_sreg (r_gq [(4, .box (eRt v5)), (5, .d false [.sl none (a0.map eRt)]), (6, .p (iV (a0.length : Int))), (7, .p (iV x2))] [(0, {row := some (eRt v5)})] (A2 (idxO_some hv5).1 (map_get eRt (idxO_some hv5).2))) ?_
   replace h := bs h
   obtain ⟨v6, hv6, h⟩ := h
   refine k_sreg (r_gq [(5, .d false [.sl none (a0.map eRt)]), (6, .p (iV (a0.length : Int))), (7, .p (iV x2)), (13, .p (.bool (!v6)))] [(1, {call := some (none, [.p (.bool v6)], true)})] (A1 (wk_impl_isRat hv6))) ?_
   refine kc (!v6) (fun hc6_6 => ?_) (fun hc6_6 => ?_)
   ·replace h := ite_t hc6_6 h
    refine k_sreg (r_gq [(2, .p (.bool false))] [] trivial) ?_
    refine k_ret ?_
    refine b_r ?_
    refine q_r ?_
    refine lq_r ?_
    refine b_r ?_
    refine q_r ?_
    have hyy := hy_x2 _ (oi h).symm
    subst hyy
    have h := hk_x2
    dsimp only [Sum.elim] at h
    obtain rfl := oi h
    exact er [(.p (.bool false), 2)]
   ·replace h := ite_f hc6_6 h
    refine k_skip ?_
    refine b_n ?_
    refine q_n ?_
    refine k_reg (r_gq [(5, .d false [.sl none (a0.map eRt)]), (6, .p (iV (a0.length : Int))), (7, .p (iV (w64 (x2 + 1))))] [] trivial) ?_
    exact lqn (w64 (x2 + 1)) h
  ·replace h := ite_f hc5_3 h
   refine k_exit ?_
   refine q_x ?_
   refine lq_x ?_
   refine b_x ?_
   have hyy := hy_x2 _ (oi h).symm
   subst hyy
   have h := hk_x2
   dsimp only [Sum.elim] at h
   refine q_n ?_
   exact jx () h
theorem wk_impl_lowest {a0 : Int} {a1 : Int}  {r : (Qr × Bool)} (h : impl_lowest a0 a1 = some r) : Meets Tryz.prog 167 [wI a0, wI a1] { vals := [.p (vRt r.1), .p (.bool r.2)] } := by
 refine mo Tryz.func167 [(0, .p (iV a0)), (1, .p (iV a1))] ?_
 unfold impl_lowest at h
 refine k_sreg (r_gq [(0, .p (iV a0)), (1, .p (iV a1)), (4, .box [rI 0, rI 0])] [] trivial) ?_
 replace h := bs h
 obtain ⟨v1, hv1, h⟩ := h
 refine k_sreg (r_gq [(0, .p (iV a0)), (1, .p (iV a1)), (4, .box [rI 0, rI 0]), (6, .p (iV v1))] [(2, {call := some (none, [.p (iV v1)], true)})] (A1 (wk_impl_greatestDivisor hv1))) ?_
 refine k_join (J := fun (x : Int) => [(0, .p (iV a0)), (1, .p (iV a1)), (4, .box [rI 0, rI 0]), (6, .p (iV x))]) (K := fun x => impl_lowest_k1 a0 a1 x = some r) (fun x2 h => ?_) ?_
 ·unfold impl_lowest_k1 at h
  replace h := bs h
  obtain ⟨u3, hu3, h⟩ := h
  refine k_sreg (r_dq Tryz_mixed 8 [] [(4, .box [rI 0, rI 0]), (7, .box [rI (w64 (Int.tdiv a0 x2)), rI (w64 (Int.tdiv a1 x2))])] [] (A2 (guardO_some hu3) (guardO_some hu3))) ?_
  refine k_seq ?_
  replace h := bs h
  obtain ⟨v4, hv4, h⟩ := h
  refine k_sreg (r_gq [(4, .box [rI 0, rI 0]), (7, .box [rI (w64 (Int.tdiv a0 x2)), rI (w64 (Int.tdiv a1 x2))]), (24, .p (.bool (!v4)))] [(1, {call := some (none, [.p (.bool v4)], true)})] (A1 (wk_impl_isRat hv4))) ?_
  refine kc (!v4) (fun hc2_4 => ?_) (fun hc2_4 => ?_)
  ·replace h := ite_t hc2_4 h
   refine k_sreg (r_gq [(4, .box [rI 0, rI 0]), (5, .p (.bool false))] [] trivial) ?_
   refine k_ret ?_
   refine q_r ?_
   obtain rfl := oi h
   exact er [(.p (.agg #[.int .i64 0, .int .i64 0]), 4), (.p (.bool false), 5)]
  ·replace h := ite_f hc2_4 h
   refine k_skip ?_
   refine q_n ?_
   refine k_sreg (r_gq [(4, .box [rI (w64 (Int.tdiv a0 x2)), rI (w64 (Int.tdiv a1 x2))]), (5, .p (.bool true))] [] trivial) ?_
   refine k_ret ?_
   obtain rfl := oi h
   exact er [(.p (.agg #[.int .i64 (w64 (Int.tdiv a0 x2)), .int .i64 (w64 (Int.tdiv a1 x2))]), 4), (.p (.bool true), 5)]
 ·refine k_sreg (r_gq [(0, .p (iV a0)), (1, .p (iV a1)), (4, .box [rI 0, rI 0]), (6, .p (iV v1)), (12, .p (.bool (decide (a1 < 0))))] [] trivial) ?_
  refine kc (decide (a1 < 0)) (fun hc2_5 => ?_) (fun hc2_5 => ?_)
  ·replace h := ite_t hc2_5 h
   refine k_reg (r_gq [(0, .p (iV a0)), (1, .p (iV a1)), (4, .box [rI 0, rI 0]), (6, .p (iV (w64 (0 - v1))))] [] trivial) ?_
   refine q_n ?_
   exact jx (w64 (0 - v1)) h
  ·replace h := ite_f hc2_5 h
   refine k_skip ?_
   refine q_n ?_
   exact jx v1 h
theorem wk_impl_AddRats {a0 : Qr} {a1 : Qr}  {r : (Qr × Bool)} (h : impl_AddRats a0 a1 = some r) : Meets Tryz.prog 130 [.v (vRt a0), .v (vRt a1)] { vals := [.p (vRt r.1), .p (.bool r.2)] } := by
 refine mo Tryz.func130 [(0, .p (vRt a0)), (1, .p (vRt a1))] ?_
 unfold impl_AddRats at h
 refine k_sreg (r_gq [(2, .box (eRt a0)), (3, .box (eRt a1)), (4, .box [rI 0, rI 0])] [] trivial) ?_
 refine k_seq ?_
 replace h := bs h
 obtain ⟨v1, hv1, h⟩ := h
 refine k_sreg (r_gq [(2, .box (eRt a0)), (3, .box (eRt a1)), (4, .box [rI 0, rI 0]), (10, .p (.bool (!v1)))] [(3, {call := some (some [.d false [.sl none (([a0, a1]).map eRt)]], [.p (.bool v1)], true)})] (A2 (show ([.d false [.sl none (eraL (([a0, a1]).map eRt))]] : List Arg) = [.d false [.sl none (([a0, a1]).map eRt)]] from (by simp only [eraL_enc (h := eRt) (era_P er_I er_I)])) (wk_impl_areRats hv1))) ?_
 refine kc (!v1) (fun hc2_1 => ?_) (fun hc2_1 => ?_)
 ·replace h := ite_t hc2_1 h
  refine k_sreg (r_gq [(4, .box [rI 0, rI 0]), (5, .p (.bool false))] [] trivial) ?_
  refine k_ret ?_
  refine q_r ?_
  obtain rfl := oi h
  exact er [(.p (.agg #[.int .i64 0, .int .i64 0]), 4), (.p (.bool false), 5)]
 ·replace h := ite_f hc2_1 h
  refine k_skip ?_
  refine q_n ?_
  replace h := bs h
  obtain ⟨v3, hv3, h⟩ := h
  refine k_sreg (r_gq [(4, .box (eRt v3.1)), (5, .p (.bool v3.2))] [(16, {call := some (none, [.p (vRt v3.1), .p (.bool v3.2)], true)})] (A1 (wk_impl_lowest hv3))) ?_
  refine k_ret ?_
  obtain rfl := oi h
  exact er [(.p (vRt v3.1), 4), (.p (.bool v3.2), 5)]
theorem wk_impl_SubtractRats {a0 : Qr} {a1 : Qr}  {r : (Qr × Bool)} (h : impl_SubtractRats a0 a1 = some r) : Meets Tryz.prog 128 [.v (vRt a0), .v (vRt a1)] { vals := [.p (vRt r.1), .p (.bool r.2)] } := by
 refine mo Tryz.func128 [(0, .p (vRt a0)), (1, .p (vRt a1))] ?_
 unfold impl_SubtractRats at h
 refine k_sreg (r_gq [(2, .box (eRt a0)), (3, .box (eRt a1)), (4, .box [rI 0, rI 0])] [] trivial) ?_
 replace h := bs h
 obtain ⟨v1, hv1, h⟩ := h
 replace h := bs h
 obtain ⟨v2, hv2, h⟩ := h
 refine k_sreg (r_dq Tryz_mixed 3 [] [(4, .box (eRt v2.1)), (5, .p (.bool v2.2))] [(2, {call := some (none, [.p (vRt v1)], true)}), (3, {call := some (none, [.p (vRt v2.1), .p (.bool v2.2)], true)})] (A2 (wk_impl_negated hv1) (wk_impl_AddRats hv2))) ?_
 refine k_ret ?_
 obtain rfl := oi h
 exact er [(.p (vRt v2.1), 4), (.p (.bool v2.2), 5)]
theorem wk_impl_calc_keep {a0 : Bool} {a1 : Qr} {a2 : Bool}  {r : (Qr × Bool)} (h : impl_calc_keep a0 a1 a2 = some r) : MeetsB Tryz.prog 129 (.box [.raw (.bool a0)]) [.v (vRt a1), .v (.bool a2)] [.p (vRt r.1)] (.box [.raw (.bool r.2)]) := by
 refine mob Tryz.func129 [(0, .box [.raw (.bool a0)]), (1, .p (vRt a1)), (2, .p (.bool a2))] ?_
 unfold impl_calc_keep at h
 refine k_sreg (r_gq [(0, .box [.raw (.bool a0)]), (2, .p (.bool a2)), (4, .box (eRt a1)), (6, .box [rI 0, rI 0])] [] trivial) ?_
 refine k_seq ?_
 refine k_sreg (r_gq [(0, .box [.raw (.bool a0)]), (4, .box (eRt a1)), (6, .box [rI 0, rI 0]), (8, .p (.bool (!a2)))] [] trivial) ?_
 refine kc (!a2) (fun hc2_0 => ?_) (fun hc2_0 => ?_)
 ·replace h := ite_t hc2_0 h
  refine k_sreg (r_gq [(0, .box [.raw (.bool true)]), (6, .box [rI 0, rI 0])] [] trivial) ?_
  replace h := bs h
  obtain ⟨v2, hv2, h⟩ := h
  refine k_sreg (r_gq [(0, .box [.raw (.bool true)]), (6, .box (eRt v2))] [(0, {call := some (none, [.p (vRt v2)], true)})] (A1 (wk_impl_zero hv2))) ?_
  refine k_ret ?_
  refine q_r ?_
  obtain rfl := oi h
  exact ebr [(.p (vRt v2), 6)]
 ·replace h := ite_f hc2_0 h
  refine k_skip ?_
  refine q_n ?_
  refine k_sreg (r_gq [(0, .box [.raw (.bool a0)]), (6, .box (eRt a1))] [] trivial) ?_
  refine k_ret ?_
  obtain rfl := oi h
  exact ebr [(.p (vRt a1), 6)]
theorem wk_impl_calc_sub {a0 : Bool} {a1 : Qr} {a2 : Qr}  {r : (Qr × Bool)} (h : impl_calc_sub a0 a1 a2 = some r) : MeetsB Tryz.prog 132 (.box [.raw (.bool a0)]) [.v (vRt a1), .v (vRt a2)] [.p (vRt r.1)] (.box [.raw (.bool r.2)]) := by
 refine mob Tryz.func132 [(0, .box [.raw (.bool a0)]), (1, .p (vRt a1)), (2, .p (vRt a2))] ?_
 unfold impl_calc_sub at h
 refine k_sreg (r_gq [(0, .box [.raw (.bool a0)]), (4, .box (eRt a1)), (5, .box (eRt a2)), (6, .box [rI 0, rI 0])] [] trivial) ?_
 replace h := bs h
 obtain ⟨v1, hv1, h⟩ := h
 replace h := bs h
 obtain ⟨v2, hv2, h⟩ := h
 refine k_sreg (r_gq [(0, .box [.raw (.bool v2.2)]), (6, .box (eRt v2.1))] [(3, {call := some (none, [.p (vRt v1.1), .p (.bool v1.2)], true)}), (6, {lend := some (none, [.p (vRt v2.1)], .box [.raw (.bool v2.2)], true)})] (A2 (wk_impl_SubtractRats hv1) (wk_impl_calc_keep hv2))) ?_
 refine k_ret ?_
 obtain rfl := oi h
 exact ebr [(.p (vRt v2.1), 6)]
theorem wk_slices_IndexFunc_Limpl_Point_impl_Point_d {a0 : (List Qp)} {a1 : (Qp → Option Bool)} {F1 : FuncId} {K1 : List (Bool × List C)} (hp1 : ∀ x0 y, a1 x0 = some y → Meets Tryz.prog F1 ([.v (vPt x0)] ++ (K1.map fun (g, cs) => mkA g cs)) { vals := [.p (.bool y)] }) {r : Int} (h : slices_IndexFunc_Limpl_Point_impl_Point a0 a1 = some r) : Meets Tryz.prog 159 [.d false [.sl none (a0.map ePt)], .d false [.fn F1 K1]] { vals := [.p (iV r)] } := by
 refine mo Tryz.func159 [(0, .d false [.sl none (a0.map ePt)]), (1, .d false [.fn F1 K1])] ?_
 unfold slices_IndexFunc_Limpl_Point_impl_Point at h
 refine k_sreg (r_gq [(0, .d false [.sl none (a0.map ePt)]), (1, .d false [.fn F1 K1])] [] trivial) ?_
 refine k_join (J := fun (x : Unit) => []) (K := fun x => slices_IndexFunc_Limpl_Point_impl_Point_k1 x = some r) (fun x1 h => ?_) ?_
 ·unfold slices_IndexFunc_Limpl_Point_impl_Point_k1 at h
  refine k_sreg (r_gq [(4, .p (iV (-1)))] [] trivial) ?_
  refine k_ret ?_
  obtain rfl := oi h
  exact er [(.p (iV (-1)), 4)]
 ·refine k_sreg (r_gq [(0, .d false [.sl none (a0.map ePt)]), (1, .d false [.fn F1 K1]), (7, .p (iV (a0.length : Int))), (8, .p (iV 0))] [(1, {n := some a0.length})] (A1 (show (a0.map ePt).length = a0.length from (List.length_map ..)))) ?_
  refine k_block ?_
  obtain ⟨y3, hl_x2, hk_x2⟩ := bs h
  clear h
  refine k_loop (J := fun (x : Int) => [(0, .d false [.sl none (a0.map ePt)]), (1, .d false [.fn F1 K1]), (7, .p (iV (a0.length : Int))), (8, .p (iV x))]) hl_x2 (wk_of (by kernel_rfl) (by kernel_rfl)) (fun x2 o_x2 h hy_x2 => ?_)
  unfold slices_IndexFunc_Limpl_Point_impl_Point_b1 at h
  refine k_sreg (r_gq [(0, .d false [.sl none (a0.map ePt)]), (1, .d false [.fn F1 K1]), (7, .p (iV (a0.length : Int))), (8, .p (iV x2)), (9, .p (.bool (decide (x2 < (a0.length : Int)))))] [] trivial) ?_
  refine k_seq ?_
  refine kc (decide (x2 < (a0.length : Int))) (fun hc5_3 => ?_) (fun hc5_3 => ?_)
  ·replace h := ite_t hc5_3 h
   refine k_skip ?_
   refine q_n ?_
   refine k_seq ?_
   refine k_block ?_
   refine k_sreg (r_gq [(0, .d false [.sl none (a0.map ePt)]), (1, .d false [.fn F1 K1]), (5, .p (iV x2)), (7, .p (iV (a0.length : Int))), (8, .p (iV x2))] [] trivial) ?_
   replace h := bs h
   obtain ⟨v5, hv5, h⟩ := h
   replace h := bs h
   obtain ⟨v6, hv6, h⟩ := h
   refine k_sreg (r_gq [(0, .d false [.sl none (a0.map ePt)]), (1, .d false [.fn F1 K1]), (5, .p (iV x2)), (7, .p (iV (a0.length : Int))), (8, .p (iV x2)), (16, .p (.bool v6))] [(3, {row := some (ePt v5)}), (5, {call := some (none, [.p (.bool v6)], true)})] (A3 (idxO_some hv5).1 (map_get ePt (idxO_some hv5).2) (hp1 _ _ hv6))) ?_
   refine kc v6 (fun hc6_6 => ?_) (fun hc6_6 => ?_)
   ·replace h := ite_t hc6_6 h
    refine k_sreg (r_gq [(4, .p (iV x2))] [] trivial) ?_
    refine k_ret ?_
    refine b_r ?_
    refine q_r ?_
    refine lq_r ?_
    refine b_r ?_
    refine q_r ?_
    have hyy := hy_x2 _ (oi h).symm
    subst hyy
    have h := hk_x2
    dsimp only [Sum.elim] at h
    obtain rfl := oi h
    exact er [(.p (iV x2), 4)]
   ·replace h := ite_f hc6_6 h
    refine k_skip ?_
    refine b_n ?_
    refine q_n ?_
    refine k_reg (r_gq [(0, .d false [.sl none (a0.map ePt)]), (1, .d false [.fn F1 K1]), (7, .p (iV (a0.length : Int))), (8, .p (iV (w64 (x2 + 1))))] [] trivial) ?_
    exact lqn (w64 (x2 + 1)) h
  ·replace h := ite_f hc5_3 h
   refine k_exit ?_
   refine q_x ?_
   refine lq_x ?_
   refine b_x ?_
   have hyy := hy_x2 _ (oi h).symm
   subst hyy
   have h := hk_x2
   dsimp only [Sum.elim] at h
   refine q_n ?_
   exact jx () h
theorem wk_impl_pieceAt_1 {a0 : Qp} {c0 : Qr}  {r : Bool} (h : impl_pieceAt_1 a0 c0 = some r) : Meets Tryz.prog 202 [.v (vPt a0), .d false [.pt (eRt c0)]] { vals := [.p (.bool r)] } := by
 refine mo Tryz.func202 [(0, .p (vPt a0)), (1, .d false [.pt (eRt c0)])] ?_
 unfold impl_pieceAt_1 at h
 refine k_sreg (r_gq [(1, .d false [.pt (eRt c0)]), (2, .box (ePt a0))] [] trivial) ?_
 replace h := bs h
 obtain ⟨v1, hv1, h⟩ := h
 refine k_sreg (r_gq [(3, .p (.bool (!v1)))] [(3, {call := some (none, [.p (.bool v1)], true)})] (A1 (wk_impl_less hv1))) ?_
 refine k_ret ?_
 obtain rfl := oi h
 exact er [(.p (.bool (!v1)), 3)]
theorem wk_impl_pieceAt {a0 : (List Qp)} {a1 : Qr}  {r : Int} (h : impl_pieceAt a0 a1 = some r) : Meets Tryz.prog 180 [.d false [.sl none (a0.map ePt)], .v (vRt a1)] { vals := [.p (iV r)] } := by
 refine mo Tryz.func180 [(0, .d false [.sl none (a0.map ePt)]), (1, .p (vRt a1))] ?_
 unfold impl_pieceAt at h
 refine k_sreg (r_gq [(0, .d false [.sl none (a0.map ePt)]), (3, .box (eRt a1))] [] trivial) ?_
 refine k_frz 3 (eRt a1) (eRt a1) [(0, .d false [.sl none (a0.map ePt)]), (3, .d false [.pt (eRt a1)])] (by kernel_rfl) (erc_raw (erc_raw rfl)) (by kernel_rfl) (by kernel_rfl) ?_
 replace h := bs h
 obtain ⟨v1, hv1, h⟩ := h
 refine k_sreg (r_gq [(5, .p (iV v1))] [(2, {call := some (none, [.p (iV v1)], true)})] (A1 (show Meets Tryz.prog 159 ([.d false [.sl none (a0.map ePt)], .d false [.fn 202 [(false, [.pt (eRt a1)])]]] ++ []) { vals := [.p (iV v1)] } from (wk_slices_IndexFunc_Limpl_Point_impl_Point_d (fun x0 y hy => wk_impl_pieceAt_1 hy) hv1)))) ?_
 refine k_sreg (r_gq [(4, .p (iV (if (w64 (v1 - 1)) < 0 then 0 else (w64 (v1 - 1)))))] [] trivial) ?_
 refine k_ret ?_
 obtain rfl := oi h
 exact er [(.p (iV (if (w64 (v1 - 1)) < 0 then 0 else (w64 (v1 - 1)))), 4)]
theorem wk_impl_DivideRats {a0 : Qr} {a1 : Qr}  {r : (Qr × Bool)} (h : impl_DivideRats a0 a1 = some r) : Meets Tryz.prog 206 [.v (vRt a0), .v (vRt a1)] { vals := [.p (vRt r.1), .p (.bool r.2)] } := by
 refine mo Tryz.func206 [(0, .p (vRt a0)), (1, .p (vRt a1))] ?_
 unfold impl_DivideRats at h
 refine k_sreg (r_gq [(2, .box (eRt a0)), (3, .box (eRt a1)), (4, .box [rI 0, rI 0])] [] trivial) ?_
 refine k_seq ?_
 replace h := bs h
 obtain ⟨v1, hv1, h⟩ := h
 refine k_sreg (l1 := [(2, .box (eRt a0)), (3, .box (eRt a1)), (4, .box [rI 0, rI 0]), (15, .p (.bool ((!v1) || (a1.1 == 0))))]) ?_ ?_
 ·rcases ft (!v1) with ha0 | ha0
  ·exact RegOk.of_eq (l2 := [(2, .box (eRt a0)), (3, .box (eRt a1)), (4, .box [rI 0, rI 0]), (15, .p (.bool ((!v1) || (a1.1 == 0))))]) (r_gq [(2, .box (eRt a0)), (3, .box (eRt a1)), (4, .box [rI 0, rI 0]), (15, .p (.bool true))] [(3, {call := some (some [.d false [.sl none (([a0, a1]).map eRt)]], [.p (.bool v1)], true)}), (6, gT), (7, gT), (8, gT), (9, bT)] (A6 (show ([.d false [.sl none (eraL (([a0, a1]).map eRt))]] : List Arg) = [.d false [.sl none (([a0, a1]).map eRt)]] from (by simp only [eraL_enc (h := eRt) (era_P er_I er_I)])) (wk_impl_areRats hv1) ha0 ha0 ha0 ha0)) (by simp [ha0])
  ·exact RegOk.of_eq (l2 := [(2, .box (eRt a0)), (3, .box (eRt a1)), (4, .box [rI 0, rI 0]), (15, .p (.bool ((!v1) || (a1.1 == 0))))]) (r_gq [(2, .box (eRt a0)), (3, .box (eRt a1)), (4, .box [rI 0, rI 0]), (15, .p (.bool (a1.1 == 0)))] [(3, {call := some (some [.d false [.sl none (([a0, a1]).map eRt)]], [.p (.bool v1)], true)}), (6, gF), (7, gF), (8, gF), (9, bF)] (A6 (show ([.d false [.sl none (eraL (([a0, a1]).map eRt))]] : List Arg) = [.d false [.sl none (([a0, a1]).map eRt)]] from (by simp only [eraL_enc (h := eRt) (era_P er_I er_I)])) (wk_impl_areRats hv1) ha0 ha0 ha0 ha0)) (by simp [ha0])
 ·refine kc ((!v1) || (a1.1 == 0)) (fun hc2_1 => ?_) (fun hc2_1 => ?_)
  ·replace h := ite_t hc2_1 h
   refine k_sreg (r_gq [(4, .box [rI 0, rI 0]), (5, .p (.bool false))] [] trivial) ?_
   refine k_ret ?_
   refine q_r ?_
   obtain rfl := oi h
   exact er [(.p (.agg #[.int .i64 0, .int .i64 0]), 4), (.p (.bool false), 5)]
  ·replace h := ite_f hc2_1 h
   refine k_skip ?_
   refine q_n ?_
   replace h := bs h
   obtain ⟨v3, hv3, h⟩ := h
   refine k_sreg (r_gq [(4, .box (eRt v3.1)), (5, .p (.bool v3.2))] [(10, {call := some (none, [.p (vRt v3.1), .p (.bool v3.2)], true)})] (A1 (wk_impl_lowest hv3))) ?_
   refine k_ret ?_
   obtain rfl := oi h
   exact er [(.p (vRt v3.1), 4), (.p (.bool v3.2), 5)]
theorem wk_impl_calc_div {a0 : Bool} {a1 : Qr} {a2 : Qr}  {r : (Qr × Bool)} (h : impl_calc_div a0 a1 a2 = some r) : MeetsB Tryz.prog 196 (.box [.raw (.bool a0)]) [.v (vRt a1), .v (vRt a2)] [.p (vRt r.1)] (.box [.raw (.bool r.2)]) := by
 refine mob Tryz.func196 [(0, .box [.raw (.bool a0)]), (1, .p (vRt a1)), (2, .p (vRt a2))] ?_
 unfold impl_calc_div at h
 refine k_sreg (r_gq [(0, .box [.raw (.bool a0)]), (4, .box (eRt a1)), (5, .box (eRt a2)), (6, .box [rI 0, rI 0])] [] trivial) ?_
 replace h := bs h
 obtain ⟨v1, hv1, h⟩ := h
 replace h := bs h
 obtain ⟨v2, hv2, h⟩ := h
 refine k_sreg (r_gq [(0, .box [.raw (.bool v2.2)]), (6, .box (eRt v2.1))] [(3, {call := some (none, [.p (vRt v1.1), .p (.bool v1.2)], true)}), (6, {lend := some (none, [.p (vRt v2.1)], .box [.raw (.bool v2.2)], true)})] (A2 (wk_impl_DivideRats hv1) (wk_impl_calc_keep hv2))) ?_
 refine k_ret ?_
 obtain rfl := oi h
 exact ebr [(.p (vRt v2.1), 6)]
theorem wk_impl_calc_slope {a0 : Bool} {a1 : Qp} {a2 : Qp}  {r : (Qr × Bool)} (h : impl_calc_slope a0 a1 a2 = some r) : MeetsB Tryz.prog 175 (.box [.raw (.bool a0)]) [.v (vPt a1), .v (vPt a2)] [.p (vRt r.1)] (.box [.raw (.bool r.2)]) := by
 refine mob Tryz.func175 [(0, .box [.raw (.bool a0)]), (1, .p (vPt a1)), (2, .p (vPt a2))] ?_
 unfold impl_calc_slope at h
 refine k_sreg (r_gq [(0, .box [.raw (.bool a0)]), (4, .box (ePt a1)), (5, .box (ePt a2)), (6, .box [rI 0, rI 0])] [] trivial) ?_
 replace h := bs h
 obtain ⟨v1, hv1, h⟩ := h
 replace h := bs h
 obtain ⟨v2, hv2, h⟩ := h
 replace h := bs h
 obtain ⟨v3, hv3, h⟩ := h
 refine k_sreg (r_dq Tryz_mixed 13 [(6, 0), (12, 0)] [(0, .box [.raw (.bool v3.2)]), (6, .box (eRt v3.1))] [(6, {lend := some (none, [.p (vRt v1.1)], .box [.raw (.bool v1.2)], true)}), (12, {lend := some (none, [.p (vRt v2.1)], .box [.raw (.bool v2.2)], true)}), (13, {lend := some (none, [.p (vRt v3.1)], .box [.raw (.bool v3.2)], true)})] (A3 (wk_impl_calc_sub hv1) (wk_impl_calc_sub hv2) (wk_impl_calc_div hv3))) ?_
 refine k_ret ?_
 obtain rfl := oi h
 exact ebr [(.p (vRt v3.1), 6)]
theorem wk_impl_MultiplyRats {a0 : Qr} {a1 : Qr}  {r : (Qr × Bool)} (h : impl_MultiplyRats a0 a1 = some r) : Meets Tryz.prog 209 [.v (vRt a0), .v (vRt a1)] { vals := [.p (vRt r.1), .p (.bool r.2)] } := by
 refine mo Tryz.func209 [(0, .p (vRt a0)), (1, .p (vRt a1))] ?_
 unfold impl_MultiplyRats at h
 refine k_sreg (r_gq [(2, .box (eRt a0)), (3, .box (eRt a1)), (4, .box [rI 0, rI 0])] [] trivial) ?_
 refine k_seq ?_
 replace h := bs h
 obtain ⟨v1, hv1, h⟩ := h
 refine k_sreg (r_gq [(2, .box (eRt a0)), (3, .box (eRt a1)), (4, .box [rI 0, rI 0]), (10, .p (.bool (!v1)))] [(3, {call := some (some [.d false [.sl none (([a0, a1]).map eRt)]], [.p (.bool v1)], true)})] (A2 (show ([.d false [.sl none (eraL (([a0, a1]).map eRt))]] : List Arg) = [.d false [.sl none (([a0, a1]).map eRt)]] from (by simp only [eraL_enc (h := eRt) (era_P er_I er_I)])) (wk_impl_areRats hv1))) ?_
 refine kc (!v1) (fun hc2_1 => ?_) (fun hc2_1 => ?_)
 ·replace h := ite_t hc2_1 h
  refine k_sreg (r_gq [(4, .box [rI 0, rI 0]), (5, .p (.bool false))] [] trivial) ?_
  refine k_ret ?_
  refine q_r ?_
  obtain rfl := oi h
  exact er [(.p (.agg #[.int .i64 0, .int .i64 0]), 4), (.p (.bool false), 5)]
 ·replace h := ite_f hc2_1 h
  refine k_skip ?_
  refine q_n ?_
  replace h := bs h
  obtain ⟨v3, hv3, h⟩ := h
  refine k_sreg (r_gq [(4, .box (eRt v3.1)), (5, .p (.bool v3.2))] [(10, {call := some (none, [.p (vRt v3.1), .p (.bool v3.2)], true)})] (A1 (wk_impl_lowest hv3))) ?_
  refine k_ret ?_
  obtain rfl := oi h
  exact er [(.p (vRt v3.1), 4), (.p (.bool v3.2), 5)]
theorem wk_impl_calc_mul {a0 : Bool} {a1 : Qr} {a2 : Qr}  {r : (Qr × Bool)} (h : impl_calc_mul a0 a1 a2 = some r) : MeetsB Tryz.prog 203 (.box [.raw (.bool a0)]) [.v (vRt a1), .v (vRt a2)] [.p (vRt r.1)] (.box [.raw (.bool r.2)]) := by
 refine mob Tryz.func203 [(0, .box [.raw (.bool a0)]), (1, .p (vRt a1)), (2, .p (vRt a2))] ?_
 unfold impl_calc_mul at h
 refine k_sreg (r_gq [(0, .box [.raw (.bool a0)]), (4, .box (eRt a1)), (5, .box (eRt a2)), (6, .box [rI 0, rI 0])] [] trivial) ?_
 replace h := bs h
 obtain ⟨v1, hv1, h⟩ := h
 replace h := bs h
 obtain ⟨v2, hv2, h⟩ := h
 refine k_sreg (r_gq [(0, .box [.raw (.bool v2.2)]), (6, .box (eRt v2.1))] [(3, {call := some (none, [.p (vRt v1.1), .p (.bool v1.2)], true)}), (6, {lend := some (none, [.p (vRt v2.1)], .box [.raw (.bool v2.2)], true)})] (A2 (wk_impl_MultiplyRats hv1) (wk_impl_calc_keep hv2))) ?_
 refine k_ret ?_
 obtain rfl := oi h
 exact ebr [(.p (vRt v2.1), 6)]
theorem wk_impl_calc_add {a0 : Bool} {a1 : Qr} {a2 : Qr}  {r : (Qr × Bool)} (h : impl_calc_add a0 a1 a2 = some r) : MeetsB Tryz.prog 73 (.box [.raw (.bool a0)]) [.v (vRt a1), .v (vRt a2)] [.p (vRt r.1)] (.box [.raw (.bool r.2)]) := by
 refine mob Tryz.func73 [(0, .box [.raw (.bool a0)]), (1, .p (vRt a1)), (2, .p (vRt a2))] ?_
 unfold impl_calc_add at h
 refine k_sreg (r_gq [(0, .box [.raw (.bool a0)]), (4, .box (eRt a1)), (5, .box (eRt a2)), (6, .box [rI 0, rI 0])] [] trivial) ?_
 replace h := bs h
 obtain ⟨v1, hv1, h⟩ := h
 replace h := bs h
 obtain ⟨v2, hv2, h⟩ := h
 refine k_sreg (r_gq [(0, .box [.raw (.bool v2.2)]), (6, .box (eRt v2.1))] [(3, {call := some (none, [.p (vRt v1.1), .p (.bool v1.2)], true)}), (6, {lend := some (none, [.p (vRt v2.1)], .box [.raw (.bool v2.2)], true)})] (A2 (wk_impl_AddRats hv1) (wk_impl_calc_keep hv2))) ?_
 refine k_ret ?_
 obtain rfl := oi h
 exact ebr [(.p (vRt v2.1), 6)]
theorem wk_impl_calc_line {a0 : Bool} {a1 : Qp} {a2 : Qr} {a3 : Qr}  {r : (Qr × Bool)} (h : impl_calc_line a0 a1 a2 a3 = some r) : MeetsB Tryz.prog 181 (.box [.raw (.bool a0)]) [.v (vPt a1), .v (vRt a2), .v (vRt a3)] [.p (vRt r.1)] (.box [.raw (.bool r.2)]) := by
 refine mob Tryz.func181 [(0, .box [.raw (.bool a0)]), (1, .p (vPt a1)), (2, .p (vRt a2)), (3, .p (vRt a3))] ?_
 unfold impl_calc_line at h
 refine k_sreg (r_gq [(0, .box [.raw (.bool a0)]), (5, .box (ePt a1)), (6, .box (eRt a2)), (7, .box (eRt a3)), (8, .box [rI 0, rI 0])] [] trivial) ?_
 replace h := bs h
 obtain ⟨v1, hv1, h⟩ := h
 replace h := bs h
 obtain ⟨v2, hv2, h⟩ := h
 replace h := bs h
 obtain ⟨v3, hv3, h⟩ := h
 refine k_sreg (r_dq Tryz_mixed 11 [(9, 0), (10, 0)] [(0, .box [.raw (.bool v3.2)]), (8, .box (eRt v3.1))] [(9, {lend := some (none, [.p (vRt v1.1)], .box [.raw (.bool v1.2)], true)}), (10, {lend := some (none, [.p (vRt v2.1)], .box [.raw (.bool v2.2)], true)}), (11, {lend := some (none, [.p (vRt v3.1)], .box [.raw (.bool v3.2)], true)})] (A3 (wk_impl_calc_sub hv1) (wk_impl_calc_mul hv2) (wk_impl_calc_add hv3))) ?_
 refine k_ret ?_
 obtain rfl := oi h
 exact ebr [(.p (vRt v3.1), 8)]
theorem wk_impl_calc_value {a0 : Bool} {a1 : (List Qp)} {a2 : Qr}  {r : (Qr × Bool)} (h : impl_calc_value a0 a1 a2 = some r) : MeetsB Tryz.prog 151 (.box [.raw (.bool a0)]) [.d false [.sl none (a1.map ePt)], .v (vRt a2)] [.p (vRt r.1)] (.box [.raw (.bool r.2)]) := by
 refine mob Tryz.func151 [(0, .box [.raw (.bool a0)]), (1, .d false [.sl none (a1.map ePt)]), (2, .p (vRt a2))] ?_
 unfold impl_calc_value at h
 refine k_sreg (r_gq [(0, .box [.raw (.bool a0)]), (1, .d false [.sl none (a1.map ePt)]), (5, .box (eRt a2)), (6, .box [rI 0, rI 0])] [] trivial) ?_
 replace h := bs h
 obtain ⟨v1, hv1, h⟩ := h
 refine k_sreg (r_gq [(0, .box [.raw (.bool a0)]), (1, .d false [.sl none (a1.map ePt)]), (5, .box (eRt a2)), (6, .box [rI 0, rI 0]), (7, .p (iV v1))] [(2, {call := some (none, [.p (iV v1)], true)})] (A1 (wk_impl_pieceAt hv1))) ?_
 replace h := bs h
 obtain ⟨v2, hv2, h⟩ := h
 replace h := bs h
 obtain ⟨v3, hv3, h⟩ := h
 replace h := bs h
 obtain ⟨v4, hv4, h⟩ := h
 replace h := bs h
 obtain ⟨v5, hv5, h⟩ := h
 refine k_sreg (r_dq Tryz_mixed 17 [(15, 0)] [(0, .box [.raw (.bool v5.2)]), (6, .box (eRt v5.1))] [(3, {row := some (ePt v2)}), (8, {row := some (ePt v2)}), (13, {row := some (ePt v3)}), (15, {lend := some (none, [.p (vRt v4.1)], .box [.raw (.bool v4.2)], true)}), (17, {lend := some (none, [.p (vRt v5.1)], .box [.raw (.bool v5.2)], true)})] (B6 (idxO_some hv2).1 (map_get ePt (idxO_some hv2).2) (idxO_some hv2).1 (map_get ePt (idxO_some hv2).2) (idxO_some hv3).1 (map_get ePt (idxO_some hv3).2) (A2 (wk_impl_calc_slope hv4) (wk_impl_calc_line hv5)))) ?_
 refine k_ret ?_
 obtain rfl := oi h
 exact ebr [(.p (vRt v5.1), 6)]
theorem wk_impl_calc_lift {a0 : Bool} {a1 : (List Qp)} {a2 : Qr}  {r : (Qr × Bool)} (h : impl_calc_lift a0 a1 a2 = some r) : MeetsB Tryz.prog 124 (.box [.raw (.bool a0)]) [.d true [.sl none (a1.map ePt)], .v (vRt a2)] [.p (vRt r.1)] (.box [.raw (.bool r.2)]) := by
 refine mob Tryz.func124 [(0, .box [.raw (.bool a0)]), (1, .d true [.sl none (a1.map ePt)]), (2, .p (vRt a2))] ?_
 unfold impl_calc_lift at h
 refine k_sreg (r_gq [(0, .box [.raw (.bool a0)]), (4, .box [.sl none (a1.map ePt)]), (5, .box (eRt a2)), (6, .box [rI 0, rI 0])] [] trivial) ?_
 replace h := bs h
 obtain ⟨v1, hv1, h⟩ := h
 replace h := bs h
 obtain ⟨v2, hv2, h⟩ := h
 refine k_sreg (r_gq [(0, .box [.raw (.bool a0)]), (4, .box [.sl none (a1.map ePt)]), (5, .box (eRt a2)), (6, .box [rI 0, rI 0]), (7, .box (eRt v2))] [(1, {call := some (none, [.p (iV v1)], true)}), (2, {call := some (none, [.p (vRt v2)], true)})] (A2 (wk_impl_floor hv1) (wk_impl_whole hv2))) ?_
 replace h := bs h
 obtain ⟨v3, hv3, h⟩ := h
 replace h := bs h
 obtain ⟨v4, hv4, h⟩ := h
 replace h := bs h
 obtain ⟨v5, hv5, h⟩ := h
 refine k_sreg (r_dq Tryz_mixed 10 [(7, 0), (8, 0)] [(0, .box [.raw (.bool v5.2)]), (6, .box (eRt v5.1))] [(3, bT), (7, {lend := some (none, [.p (vRt v3.1)], .box [.raw (.bool v3.2)], true)}), (8, {lend := some (none, [.p (vRt v4.1)], .box [.raw (.bool v4.2)], true)}), (10, {lend := some (none, [.p (vRt v5.1)], .box [.raw (.bool v5.2)], true)})] (A4 (show frR [.sl none (a1.map ePt)] = true from (frR1 (frL_enc (fr_P (fr_P fr_I fr_I) (fr_P fr_I fr_I))) rfl)) (wk_impl_calc_sub hv3) (wk_impl_calc_value hv4) (wk_impl_calc_add hv5))) ?_
 refine k_ret ?_
 obtain rfl := oi h
 exact ebr [(.p (vRt v5.1), 6)]
theorem wk_impl_liftOrbit {a0 : (List Qp)} {a1 : Qr} {a2 : Int}  {r : ((List Qr) × Bool)} (h : impl_liftOrbit a0 a1 a2 = some r) : Meets Tryz.prog 63 [.d true [.sl none (a0.map ePt)], .v (vRt a1), wI a2] { vals := [.ov false [.sl (some 27) (r.1.map eRt)], .p (.bool r.2)] } := by
 refine mo Tryz.func63 [(0, .d true [.sl none (a0.map ePt)]), (1, .p (vRt a1)), (2, .p (iV a2))] ?_
 unfold impl_liftOrbit at h
 refine k_sreg (r_gq [(2, .p (iV a2)), (3, .box [.sl none (a0.map ePt)]), (4, .box (eRt a1))] [] trivial) ?_
 refine k_sreg (r_gq [(2, .p (iV a2)), (3, .box [.sl none (a0.map ePt)]), (4, .box (eRt a1)), (8, .box [.raw (.bool false)])] [] trivial) ?_
 refine k_sreg (r_gq [(2, .p (iV a2)), (3, .box [.sl none (a0.map ePt)]), (4, .box (eRt a1)), (8, .box [.raw (.bool false)]), (9, .ov false [.sl (some 27) (([a1]).map eRt)])] [] trivial) ?_
 refine k_join (J := fun (x : (List Qr)) => [(9, .ov false [.sl (some 27) (x.map eRt)])]) (K := fun x => impl_liftOrbit_k1 x = some r) (fun x1 h => ?_) ?_
 ·unfold impl_liftOrbit_k1 at h
  refine k_sreg (r_gq [(6, .ov false [.sl (some 27) (x1.map eRt)]), (7, .p (.bool true))] [] trivial) ?_
  refine k_ret ?_
  obtain rfl := oi h
  exact er [(.ov false [.sl (some 27) (x1.map eRt)], 6), (.p (.bool true), 7)]
 ·refine k_sreg (r_gq [(3, .box [.sl none (a0.map ePt)]), (4, .box (eRt a1)), (8, .box [.raw (.bool false)]), (9, .ov false [.sl (some 27) (([a1]).map eRt)]), (12, .p (iV a2)), (13, .p (iV 0))] [] trivial) ?_
  refine k_block ?_
  obtain ⟨y3, hl_x2, hk_x2⟩ := bs h
  clear h
  refine k_loop (J := fun (x : (Int × Int × Bool × (List Qr) × Int)) => [(3, .box [.sl none (a0.map ePt)]), (4, .box [rI x.1, rI x.2.1]), (8, .box [.raw (.bool x.2.2.1)]), (9, .ov false [.sl (some 27) (x.2.2.2.1.map eRt)]), (12, .p (iV a2)), (13, .p (iV x.2.2.2.2))]) hl_x2 (wk_of (by kernel_rfl) (by kernel_rfl)) (fun x2 o_x2 h hy_x2 => ?_)
  unfold impl_liftOrbit_b1 at h
  refine k_sreg (r_gq [(3, .box [.sl none (a0.map ePt)]), (4, .box [rI x2.1, rI x2.2.1]), (8, .box [.raw (.bool x2.2.2.1)]), (9, .ov false [.sl (some 27) (x2.2.2.2.1.map eRt)]), (12, .p (iV a2)), (13, .p (iV x2.2.2.2.2)), (14, .p (.bool (decide (x2.2.2.2.2 < a2))))] [] trivial) ?_
  refine k_seq ?_
  refine kc (decide (x2.2.2.2.2 < a2)) (fun hc5_3 => ?_) (fun hc5_3 => ?_)
  ·replace h := ite_t hc5_3 h
   refine k_skip ?_
   refine q_n ?_
   refine k_seq ?_
   refine k_block ?_
   refine k_seq ?_
   replace h := bs h
   obtain ⟨v5, hv5, h⟩ := h
   refine k_sreg (r_gq [(3, .box [.sl none (a0.map ePt)]), (4, .box [rI x2.1, rI x2.2.1]), (8, .box [.raw (.bool x2.2.2.1)]), (9, .ov false [.sl (some 27) (x2.2.2.2.1.map eRt)]), (12, .p (iV a2)), (13, .p (iV x2.2.2.2.2)), (17, .p (.bool (!v5)))] [(1, {call := some (none, [.p (.bool v5)], true)})] (A1 (wk_impl_isFar hv5))) ?_
   refine kc (!v5) (fun hc7_5 => ?_) (fun hc7_5 => ?_)
   ·replace h := ite_t hc7_5 h
    refine k_sreg (r_gq [(6, .ov false [.sl (some 27) []]), (7, .p (.bool false))] [] trivial) ?_
    refine k_ret ?_
    refine q_r ?_
    refine b_r ?_
    refine q_r ?_
    refine lq_r ?_
    refine b_r ?_
    refine q_r ?_
    have hyy := hy_x2 _ (oi h).symm
    subst hyy
    have h := hk_x2
    dsimp only [Sum.elim] at h
    obtain rfl := oi h
    exact er [(.ov false [.sl (some 27) []], 6), (.p (.bool false), 7)]
   ·replace h := ite_f hc7_5 h
    refine k_skip ?_
    refine q_n ?_
    refine k_seq ?_
    replace h := bs h
    obtain ⟨v7, hv7, h⟩ := h
    refine k_sreg (r_gq [(3, .box [.sl none (a0.map ePt)]), (4, .box (eRt v7.1)), (8, .box [.raw (.bool v7.2)]), (9, .ov false [.sl (some 27) (x2.2.2.2.1.map eRt)]), (12, .p (iV a2)), (13, .p (iV x2.2.2.2.2))] [(0, bT), (2, {lend := some (none, [.p (vRt v7.1)], .box [.raw (.bool v7.2)], true)})] (A2 (show frR [.sl none (a0.map ePt)] = true from (frR1 (frL_enc (fr_P (fr_P fr_I fr_I) (fr_P fr_I fr_I))) rfl)) (wk_impl_calc_lift hv7))) ?_
    refine k_sreg (r_gq [(3, .box [.sl none (a0.map ePt)]), (4, .box (eRt v7.1)), (8, .box [.raw (.bool v7.2)]), (9, .ov false [.sl (some 27) (x2.2.2.2.1.map eRt)]), (12, .p (iV a2)), (13, .p (iV x2.2.2.2.2)), (22, .p (.bool v7.2))] [] trivial) ?_
    refine kc v7.2 (fun hc7_7 => ?_) (fun hc7_7 => ?_)
    ·replace h := ite_t hc7_7 h
     refine k_sreg (r_gq [(6, .ov false [.sl (some 27) []]), (7, .p (.bool false))] [] trivial) ?_
     refine k_ret ?_
     refine q_r ?_
     refine b_r ?_
     refine q_r ?_
     refine lq_r ?_
     refine b_r ?_
     refine q_r ?_
     have hyy := hy_x2 _ (oi h).symm
     subst hyy
     have h := hk_x2
     dsimp only [Sum.elim] at h
     obtain rfl := oi h
     exact er [(.ov false [.sl (some 27) []], 6), (.p (.bool false), 7)]
    ·replace h := ite_f hc7_7 h
     refine k_skip ?_
     refine q_n ?_
     replace h := bs h
     obtain ⟨u9, hu9, h⟩ := h
     refine k_reg (r_gq [(3, .box [.sl none (a0.map ePt)]), (4, .box (eRt v7.1)), (8, .box [.raw (.bool v7.2)]), (9, .ov false [.sl (some 27) ((x2.2.2.2.1 ++ [v7.1]).map eRt)]), (12, .p (iV a2)), (13, .p (iV x2.2.2.2.2))] [(3, {fix := some (26, .ov false [.sl (some 27) ((x2.2.2.2.1 ++ [v7.1]).map eRt)])})] (A3 (show List.length ((x2.2.2.2.1.map eRt) : List (List C)) + List.length ((([v7.1]).map eRt) : List (List C)) ≤ 1099511627776 from (by have hg := (guardO_some hu9); simpa using hg)) (show ∀ row ∈ ((([v7.1]).map eRt) : List (List C)), row.length = 2 from (rows_len fun _ => rfl)) (show (SV.ov false [.sl (some 27) ((x2.2.2.2.1.map eRt) ++ (([v7.1]).map eRt))] : SV) = .ov false [.sl (some 27) ((x2.2.2.2.1 ++ [v7.1]).map eRt)] from (congrArg (fun z => SV.ov false [.sl (some 27) z]) (List.map_append ..).symm)))) ?_
     refine b_n ?_
     refine q_n ?_
     refine k_reg (r_gq [(3, .box [.sl none (a0.map ePt)]), (4, .box (eRt v7.1)), (8, .box [.raw (.bool v7.2)]), (9, .ov false [.sl (some 27) ((x2.2.2.2.1 ++ [v7.1]).map eRt)]), (12, .p (iV a2)), (13, .p (iV (w64 (x2.2.2.2.2 + 1))))] [] trivial) ?_
     exact lqn (v7.1.1, v7.1.2, v7.2, (x2.2.2.2.1 ++ [v7.1]), (w64 (x2.2.2.2.2 + 1))) h
  ·replace h := ite_f hc5_3 h
   refine k_exit ?_
   refine q_x ?_
   refine lq_x ?_
   refine b_x ?_
   have hyy := hy_x2 _ (oi h).symm
   subst hyy
   have h := hk_x2
   dsimp only [Sum.elim] at h
   refine q_n ?_
   exact jx x2.2.2.2.1 h
theorem wk_impl_LiftOrbit {a0 : (List Qp)} {a1 : Qr} {a2 : Int}  {r : ((List Qr) × Bool)} (h : impl_LiftOrbit a0 a1 a2 = some r) : Meets Tryz.prog 7 [.d true [.sl none (a0.map ePt)], .v (vRt a1), wI a2] { vals := [.ov false [.sl (some 27) (r.1.map eRt)], .p (.bool r.2)] } := by
 refine mo Tryz.func7 [(0, .d true [.sl none (a0.map ePt)]), (1, .p (vRt a1)), (2, .p (iV a2))] ?_
 unfold impl_LiftOrbit at h
 refine k_sreg (r_gq [(2, .p (iV a2)), (3, .box [.sl none (a0.map ePt)]), (4, .box (eRt a1))] [] trivial) ?_
 refine k_seq ?_
 replace h := bs h
 obtain ⟨v1, hv1, h⟩ := h
 replace h := bs h
 obtain ⟨w4, hw4, h⟩ := h
 refine k_sreg (l1 := [(2, .p (iV a2)), (3, .box [.sl none (a0.map ePt)]), (4, .box (eRt a1)), (20, .p (.bool w4))]) ?_ ?_
 ·clear h
  rcases ft (!v1) with ha0 | ha0
  ·replace hw4 := ite_t ha0 hw4
   have hw4 := oi hw4
   subst hw4
   exact (r_gq [(2, .p (iV a2)), (3, .box [.sl none (a0.map ePt)]), (4, .box (eRt a1)), (20, .p (.bool true))] [(0, bT), (1, {call := some (none, [.p (.bool v1)], true)}), (4, gT), (5, gT), (6, gT), (7, bT), (9, gT), (10, gT), (11, gT), (12, bT)] (B6 (show frR [.sl none (a0.map ePt)] = true from (frR1 (frL_enc (fr_P (fr_P fr_I fr_I) (fr_P fr_I fr_I))) rfl)) (wk_impl_isLift hv1) ha0 ha0 ha0 ha0 (A4 (show true = true from rfl) (show true = true from rfl) (show true = true from rfl) (show true = true from rfl))))
  ·replace hw4 := ite_f ha0 hw4
   replace hw4 := bs hw4
   obtain ⟨v2, hv2, hw4⟩ := hw4
   rcases ft (!v2) with ha1 | ha1
   ·replace hw4 := ite_t ha1 hw4
    have hw4 := oi hw4
    subst hw4
    exact (r_gq [(2, .p (iV a2)), (3, .box [.sl none (a0.map ePt)]), (4, .box (eRt a1)), (20, .p (.bool true))] [(0, bT), (1, {call := some (none, [.p (.bool v1)], true)}), (4, gF), (5, {g := some false, call := some (none, [.p (.bool v2)], true)}), (6, gF), (7, bF), (9, gT), (10, gT), (11, gT), (12, bT)] (B6 (show frR [.sl none (a0.map ePt)] = true from (frR1 (frL_enc (fr_P (fr_P fr_I fr_I) (fr_P fr_I fr_I))) rfl)) (wk_impl_isLift hv1) ha0 ha0 (wk_impl_isFar hv2) ha0 (A5 ha0 ha1 ha1 ha1 ha1)))
   ·replace hw4 := ite_f ha1 hw4
    replace hw4 := bs hw4
    obtain ⟨v3, hv3, hw4⟩ := hw4
    have hw4 := oi hw4
    subst hw4
    exact (r_gq [(2, .p (iV a2)), (3, .box [.sl none (a0.map ePt)]), (4, .box (eRt a1)), (20, .p (.bool (!v3)))] [(0, bT), (1, {call := some (none, [.p (.bool v1)], true)}), (4, gF), (5, {g := some false, call := some (none, [.p (.bool v2)], true)}), (6, gF), (7, bF), (9, gF), (10, {g := some false, call := some (none, [.p (.bool v3)], true)}), (11, gF), (12, bF)] (B6 (show frR [.sl none (a0.map ePt)] = true from (frR1 (frL_enc (fr_P (fr_P fr_I fr_I) (fr_P fr_I fr_I))) rfl)) (wk_impl_isLift hv1) ha0 ha0 (wk_impl_isFar hv2) ha0 (A6 ha0 ha1 ha1 (wk_impl_within hv3) ha1 ha1)))
 ·refine kc w4 (fun hc2_4 => ?_) (fun hc2_4 => ?_)
  ·replace h := ite_t hc2_4 h
   refine k_sreg (r_gq [(6, .ov false [.sl (some 27) []]), (7, .p (.bool false))] [] trivial) ?_
   refine k_ret ?_
   refine q_r ?_
   obtain rfl := oi h
   exact er [(.ov false [.sl (some 27) []], 6), (.p (.bool false), 7)]
  ·replace h := ite_f hc2_4 h
   refine k_skip ?_
   refine q_n ?_
   replace h := bs h
   obtain ⟨v6, hv6, h⟩ := h
   refine k_sreg (r_gq [(6, .ov false [.sl (some 27) (v6.1.map eRt)]), (7, .p (.bool v6.2))] [(0, bT), (3, {call := some (none, [.ov false [.sl (some 27) (v6.1.map eRt)], .p (.bool v6.2)], true)})] (A3 (show frR [.sl none (a0.map ePt)] = true from (frR1 (frL_enc (fr_P (fr_P fr_I fr_I) (fr_P fr_I fr_I))) rfl)) (wk_impl_liftOrbit hv6) (show List.all [.ov false [.sl (some 27) (v6.1.map eRt)], .p (.bool v6.2)] simpleR = true from (sa_o (wnR1 (wnL_enc (wn_P wn_I wn_I)) rfl) (sa_p rfl))))) ?_
   refine k_ret ?_
   obtain rfl := oi h
   exact er [(.ov false [.sl (some 27) (v6.1.map eRt)], 6), (.p (.bool v6.2), 7)]
theorem wk_spec_liNear {a0 : Qr}  {r : Bool} (h : spec_liNear a0 = some r) : Meets Tryz.prog 65 [.v (vRt a0)] { vals := [.p (.bool r)] } := by
 refine mo Tryz.func65 [(0, .p (vRt a0))] ?_
 unfold spec_liNear at h
 refine k_sreg (r_gq [(1, .box (eRt a0))] [] trivial) ?_
 replace h := bs h
 obtain ⟨v1, hv1, h⟩ := h
 replace h := bs h
 obtain ⟨w3, hw3, h⟩ := h
 refine k_sreg (l1 := [(2, .p (.bool w3))]) ?_ ?_
 ·clear h
  rcases ft v1 with ha0 | ha0
  ·replace hw3 := ite_t ha0 hw3
   replace hw3 := bs hw3
   obtain ⟨v2, hv2, hw3⟩ := hw3
   have hw3 := oi hw3
   subst hw3
   exact (r_gq [(2, .p (.bool v2))] [(1, {call := some (none, [.p (.bool v1)], true)}), (3, gT), (4, gT), (5, gT), (6, gT), (7, gT), (8, gT), (9, gT), (10, gT), (11, {g := some true, call := some (none, [.p (.bool v2)], true)}), (12, bT)] (B6 (wk_spec_raGood hv1) ha0 ha0 ha0 ha0 ha0 (A6 ha0 ha0 ha0 ha0 (wk_spec_l1In hv2) ha0)))
  ·replace hw3 := ite_f ha0 hw3
   have hw3 := oi hw3
   subst hw3
   exact (r_gq [(2, .p (.bool false))] [(1, {call := some (none, [.p (.bool v1)], true)}), (3, gF), (4, gF), (5, gF), (6, gF), (7, gF), (8, gF), (9, gF), (10, gF), (11, gF), (12, bF)] (B6 (wk_spec_raGood hv1) ha0 ha0 ha0 ha0 ha0 (A5 ha0 ha0 ha0 ha0 ha0)))
 ·refine k_ret ?_
  obtain rfl := oi h
  exact er [(.p (.bool w3), 2)]
theorem wk_spec_orSteps {a0 : Int}  {r : Bool} (h : spec_orSteps a0 = some r) : Meets Tryz.prog 66 [wI a0] { vals := [.p (.bool r)] } := by
 refine mo Tryz.func66 [(0, .p (iV a0))] ?_
 unfold spec_orSteps at h
 refine k_sreg (r_gq [(0, .p (iV a0))] [] trivial) ?_
 replace h := bs h
 obtain ⟨v1, hv1, h⟩ := h
 refine k_sreg (r_gq [(2, .p (.bool v1))] [(1, {call := some (none, [.p (.bool v1)], true)})] (A1 (wk_spec_l1In hv1))) ?_
 refine k_ret ?_
 obtain rfl := oi h
 exact er [(.p (.bool v1), 2)]
theorem wk_spec_raDown {a0 : Int} {a1 : Int}  {r : Int} (h : spec_raDown a0 a1 = some r) : Meets Tryz.prog 189 [wI a0, wI a1] { vals := [.p (iV r)] } := by
 refine mo Tryz.func189 [(0, .p (iV a0)), (1, .p (iV a1))] ?_
 unfold spec_raDown at h
 refine k_sreg (r_gq [(0, .p (iV a0)), (1, .p (iV a1))] [] trivial) ?_
 refine k_seq ?_
 refine k_sreg (r_gq [(0, .p (iV a0)), (1, .p (iV a1)), (7, .p (.bool (a1 == 0)))] [] trivial) ?_
 refine kc (a1 == 0) (fun hc2_0 => ?_) (fun hc2_0 => ?_)
 ·replace h := ite_t hc2_0 h
  refine k_sreg (r_gq [(4, .p (iV 0))] [] trivial) ?_
  refine k_ret ?_
  refine q_r ?_
  obtain rfl := oi h
  exact er [(.p (iV 0), 4)]
 ·replace h := ite_f hc2_0 h
  refine k_skip ?_
  refine q_n ?_
  replace h := bs h
  obtain ⟨u2, hu2, h⟩ := h
  refine k_sreg (r_gq [(0, .p (iV a0)), (1, .p (iV a1)), (5, .p (iV (w64 (Int.tdiv a0 a1))))] [] (A1 (guardO_some hu2))) ?_
  refine k_seq ?_
  refine k_sreg (r_gq [(5, .p (iV (w64 (Int.tdiv a0 a1)))), (14, .p (.bool (decide ((Int.tmod a0 a1) < 0))))] [] (A1 (guardO_some hu2))) ?_
  refine kc (decide ((Int.tmod a0 a1) < 0)) (fun hc2_2 => ?_) (fun hc2_2 => ?_)
  ·replace h := ite_t hc2_2 h
   refine k_reg (r_gq [(5, .p (iV (w64 ((w64 (Int.tdiv a0 a1)) - 1))))] [] trivial) ?_
   refine q_n ?_
   refine k_sreg (r_gq [(4, .p (iV (w64 ((w64 (Int.tdiv a0 a1)) - 1))))] [] trivial) ?_
   refine k_ret ?_
   obtain rfl := oi h
   exact er [(.p (iV (w64 ((w64 (Int.tdiv a0 a1)) - 1))), 4)]
  ·replace h := ite_f hc2_2 h
   refine k_skip ?_
   refine q_n ?_
   refine k_sreg (r_gq [(4, .p (iV (w64 (Int.tdiv a0 a1))))] [] trivial) ?_
   refine k_ret ?_
   obtain rfl := oi h
   exact er [(.p (iV (w64 (Int.tdiv a0 a1))), 4)]
theorem wk_spec_raFloor {a0 : Qr}  {r : Int} (h : spec_raFloor a0 = some r) : Meets Tryz.prog 164 [.v (vRt a0)] { vals := [.p (iV r)] } := by
 refine mo Tryz.func164 [(0, .p (vRt a0))] ?_
 unfold spec_raFloor at h
 refine k_sreg (r_gq [(1, .box (eRt a0))] [] trivial) ?_
 replace h := bs h
 obtain ⟨v1, hv1, h⟩ := h
 refine k_sreg (r_gq [(2, .p (iV v1))] [(4, {call := some (none, [.p (iV v1)], true)})] (A1 (wk_spec_raDown hv1))) ?_
 refine k_ret ?_
 obtain rfl := oi h
 exact er [(.p (iV v1), 2)]
theorem wk_spec_imPiece {a0 : (List Qp)} {a1 : Qr}  {r : Int} (h : spec_imPiece a0 a1 = some r) : Meets Tryz.prog 170 [.d false [.sl none (a0.map ePt)], .v (vRt a1)] { vals := [.p (iV r)] } := by
 refine mo Tryz.func170 [(0, .d false [.sl none (a0.map ePt)]), (1, .p (vRt a1))] ?_
 unfold spec_imPiece at h
 refine k_sreg (r_gq [(0, .d false [.sl none (a0.map ePt)]), (3, .box (eRt a1))] [] trivial) ?_
 refine k_sreg (r_gq [(0, .d false [.sl none (a0.map ePt)]), (3, .box (eRt a1)), (5, .p (iV 0))] [] trivial) ?_
 refine k_join (J := fun (x : Int) => [(5, .p (iV x))]) (K := fun x => spec_imPiece_k1 x = some r) (fun x1 h => ?_) ?_
 ·unfold spec_imPiece_k1 at h
  refine k_sreg (r_gq [(4, .p (iV x1))] [] trivial) ?_
  refine k_ret ?_
  obtain rfl := oi h
  exact er [(.p (iV x1), 4)]
 ·refine k_block ?_
  obtain ⟨y3, hl_x2, hk_x2⟩ := bs h
  clear h
  refine k_loop (J := fun (x : Int) => [(0, .d false [.sl none (a0.map ePt)]), (3, .box (eRt a1)), (5, .p (iV x))]) hl_x2 (wk_of (by kernel_rfl) (by kernel_rfl)) (fun x2 o_x2 h hy_x2 => ?_)
  unfold spec_imPiece_b1 at h
  refine k_seq ?_
  replace h := bs h
  obtain ⟨w6, hw6, h⟩ := h
  refine k_sreg (l1 := [(0, .d false [.sl none (a0.map ePt)]), (3, .box (eRt a1)), (5, .p (iV x2)), (21, .p (.bool w6))]) ?_ ?_
  ·clear h
   rcases ft (decide ((w64 (x2 + 2)) < (a0.length : Int))) with ha0 | ha0
   ·replace hw6 := ite_t ha0 hw6
    replace hw6 := bs hw6
    obtain ⟨v4, hv4, hw6⟩ := hw6
    replace hw6 := bs hw6
    obtain ⟨v5, hv5, hw6⟩ := hw6
    have hw6 := oi hw6
    subst hw6
    exact (r_dq Tryz_mixed 13 [] [(0, .d false [.sl none (a0.map ePt)]), (3, .box (eRt a1)), (5, .p (iV x2)), (21, .p (.bool (decide (v5 < 0))))] [(3, {n := some a0.length}), (6, gT), (7, gT), (8, gT), (9, {g := some true, row := some (ePt v4)}), (10, gT), (11, gT), (12, gT), (13, {g := some true, call := some (none, [.p (iV v5)], true)}), (14, gT), (15, bT)] (B6 (show (a0.map ePt).length = a0.length from (List.length_map ..)) ha0 ha0 ha0 ha0 (idxO_some hv4).1 (B6 (map_get ePt (idxO_some hv4).2) ha0 ha0 ha0 ha0 (wk_spec_raCmp hv5) (A2 ha0 ha0))))
   ·replace hw6 := ite_f ha0 hw6
    have hw6 := oi hw6
    subst hw6
    exact (r_dq Tryz_mixed 13 [] [(0, .d false [.sl none (a0.map ePt)]), (3, .box (eRt a1)), (5, .p (iV x2)), (21, .p (.bool false))] [(3, {n := some a0.length}), (6, gF), (7, gF), (8, gF), (9, gF), (10, gF), (11, gF), (12, gF), (13, gF), (14, gF), (15, bF)] (B6 (show (a0.map ePt).length = a0.length from (List.length_map ..)) ha0 ha0 ha0 ha0 ha0 (A5 ha0 ha0 ha0 ha0 ha0)))
  ·refine kc w6 (fun hc5_6 => ?_) (fun hc5_6 => ?_)
   ·replace h := ite_t hc5_6 h
    refine k_skip ?_
    refine q_n ?_
    refine k_block ?_
    refine k_reg (r_gq [(0, .d false [.sl none (a0.map ePt)]), (3, .box (eRt a1)), (5, .p (iV (w64 (x2 + 1))))] [] trivial) ?_
    refine b_n ?_
    exact lqn (w64 (x2 + 1)) h
   ·replace h := ite_f hc5_6 h
    refine k_exit ?_
    refine q_x ?_
    refine lq_x ?_
    refine b_x ?_
    have hyy := hy_x2 _ (oi h).symm
    subst hyy
    have h := hk_x2
    refine q_n ?_
    exact jx x2 h
theorem wk_spec_raSub {a0 : Qr} {a1 : Qr}  {r : (Qr × Bool)} (h : spec_raSub a0 a1 = some r) : Meets Tryz.prog 76 [.v (vRt a0), .v (vRt a1)] { vals := [.p (vRt r.1), .p (.bool r.2)] } := by
 refine mo Tryz.func76 [(0, .p (vRt a0)), (1, .p (vRt a1))] ?_
 unfold spec_raSub at h
 refine k_sreg (r_gq [(2, .box (eRt a0)), (3, .box (eRt a1)), (4, .box [rI 0, rI 0])] [] trivial) ?_
 replace h := bs h
 obtain ⟨v1, hv1, h⟩ := h
 refine k_sreg (r_gq [(4, .box (eRt v1.1)), (5, .p (.bool v1.2))] [(16, {call := some (none, [.p (vRt v1.1), .p (.bool v1.2)], true)})] (A1 (wk_spec_raMake hv1))) ?_
 refine k_ret ?_
 obtain rfl := oi h
 exact er [(.p (vRt v1.1), 4), (.p (.bool v1.2), 5)]
theorem wk_spec_raDiv {a0 : Qr} {a1 : Qr}  {r : (Qr × Bool)} (h : spec_raDiv a0 a1 = some r) : Meets Tryz.prog 197 [.v (vRt a0), .v (vRt a1)] { vals := [.p (vRt r.1), .p (.bool r.2)] } := by
 refine mo Tryz.func197 [(0, .p (vRt a0)), (1, .p (vRt a1))] ?_
 unfold spec_raDiv at h
 refine k_sreg (r_gq [(2, .box (eRt a0)), (3, .box (eRt a1)), (4, .box [rI 0, rI 0])] [] trivial) ?_
 refine k_seq ?_
 refine k_sreg (r_gq [(2, .box (eRt a0)), (3, .box (eRt a1)), (4, .box [rI 0, rI 0]), (8, .p (.bool (a1.1 == 0)))] [] trivial) ?_
 refine kc (a1.1 == 0) (fun hc2_0 => ?_) (fun hc2_0 => ?_)
 ·replace h := ite_t hc2_0 h
  refine k_sreg (r_gq [(4, .box [rI 0, rI 0]), (5, .p (.bool false))] [] trivial) ?_
  refine k_ret ?_
  refine q_r ?_
  obtain rfl := oi h
  exact er [(.p (.agg #[.int .i64 0, .int .i64 0]), 4), (.p (.bool false), 5)]
 ·replace h := ite_f hc2_0 h
  refine k_skip ?_
  refine q_n ?_
  replace h := bs h
  obtain ⟨v2, hv2, h⟩ := h
  refine k_sreg (r_gq [(4, .box (eRt v2.1)), (5, .p (.bool v2.2))] [(10, {call := some (none, [.p (vRt v2.1), .p (.bool v2.2)], true)})] (A1 (wk_spec_raMake hv2))) ?_
  refine k_ret ?_
  obtain rfl := oi h
  exact er [(.p (vRt v2.1), 4), (.p (.bool v2.2), 5)]
theorem wk_spec_imSlope {a0 : Qp} {a1 : Qp}  {r : Qr} (h : spec_imSlope a0 a1 = some r) : Meets Tryz.prog 176 [.v (vPt a0), .v (vPt a1)] { vals := [.p (vRt r)] } := by
 refine mo Tryz.func176 [(0, .p (vPt a0)), (1, .p (vPt a1))] ?_
 unfold spec_imSlope at h
 refine k_sreg (r_gq [(2, .box (ePt a0)), (3, .box (ePt a1)), (4, .box [rI 0, rI 0])] [] trivial) ?_
 replace h := bs h
 obtain ⟨v1, hv1, h⟩ := h
 refine k_sreg (r_gq [(2, .box (ePt a0)), (3, .box (ePt a1)), (4, .box [rI 0, rI 0]), (5, .box (eRt v1.1))] [(4, {call := some (none, [.p (vRt v1.1), .p (.bool v1.2)], true)})] (A1 (wk_spec_raSub hv1))) ?_
 replace h := bs h
 obtain ⟨v2, hv2, h⟩ := h
 refine k_sreg (r_gq [(4, .box [rI 0, rI 0]), (5, .box (eRt v1.1)), (7, .box (eRt v2.1))] [(4, {call := some (none, [.p (vRt v2.1), .p (.bool v2.2)], true)})] (A1 (wk_spec_raSub hv2))) ?_
 replace h := bs h
 obtain ⟨v3, hv3, h⟩ := h
 refine k_sreg (r_gq [(4, .box [rI 0, rI 0]), (9, .box (eRt v3.1))] [(2, {call := some (none, [.p (vRt v3.1), .p (.bool v3.2)], true)})] (A1 (wk_spec_raDiv hv3))) ?_
 refine k_sreg (r_gq [(4, .box (eRt v3.1))] [] trivial) ?_
 refine k_ret ?_
 obtain rfl := oi h
 exact er [(.p (vRt v3.1), 4)]
theorem wk_spec_raMul {a0 : Qr} {a1 : Qr}  {r : (Qr × Bool)} (h : spec_raMul a0 a1 = some r) : Meets Tryz.prog 194 [.v (vRt a0), .v (vRt a1)] { vals := [.p (vRt r.1), .p (.bool r.2)] } := by
 refine mo Tryz.func194 [(0, .p (vRt a0)), (1, .p (vRt a1))] ?_
 unfold spec_raMul at h
 refine k_sreg (r_gq [(2, .box (eRt a0)), (3, .box (eRt a1)), (4, .box [rI 0, rI 0])] [] trivial) ?_
 replace h := bs h
 obtain ⟨v1, hv1, h⟩ := h
 refine k_sreg (r_gq [(4, .box (eRt v1.1)), (5, .p (.bool v1.2))] [(10, {call := some (none, [.p (vRt v1.1), .p (.bool v1.2)], true)})] (A1 (wk_spec_raMake hv1))) ?_
 refine k_ret ?_
 obtain rfl := oi h
 exact er [(.p (vRt v1.1), 4), (.p (.bool v1.2), 5)]
end Go.PV

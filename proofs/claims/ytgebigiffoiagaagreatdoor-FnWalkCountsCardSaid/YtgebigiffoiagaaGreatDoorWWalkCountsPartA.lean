/-
  Walks through the functions that the law reaches: each answers as its plain definition does.
  Conditions: none.
-/
import Derived.KernelRfl
import Derived.Shelf.LaysM
import Derived.Shelf.Strconv.Itoa3
import Derived.Test.YtgebigiffoiagaaGreatDoorDf
import Derived.Test.YtgebigiffoiagaaGreatDoorProg
open Go Go.PV Go.Proofs
set_option linter.all false
namespace Go.PV
attribute [local irreducible] pvC pvL pvD sOp seqQ blockQ Meets MeetsB Ok OkL RegOk agree endQ seqL blockL loopQ endL endLB
theorem Tryz_mixed : Tryz.prog.follows .mixedOrders = true := by kernel_rfl
theorem Tryz_und5 : Tryz.prog.underlying 5 = some (.int .u8) := by kernel_rfl
theorem Tryz_und3 : Tryz.prog.underlying 3 = some (.int .i64) := by kernel_rfl
theorem Tryz_und50 : Tryz.prog.underlying 50 = some (.int .u64) := by kernel_rfl
theorem Tryz_und38 : Tryz.prog.underlying 38 = some (.int .u64) := by kernel_rfl
theorem wk_spec_l1Cur_next {a0 : Cu}  {r : (Int × Cu)} (h : spec_l1Cur_next a0 = some r) : MeetsB Tryz.prog 71 (.box (eCu a0)) [] [.p (iV r.1)] (.box (eCu r.2)) := by
 refine mob Tryz.func71 [(0, .box (eCu a0))] ?_
 unfold spec_l1Cur_next at h
 refine k_sreg (r_gq [(0, .box (eCu a0))] [] trivial) ?_
 refine k_sreg (r_gq [(0, .box (eCu a0)), (3, .p (iV 0))] [] trivial) ?_
 refine k_join (J := fun (x : Int) => [(0, .box (eCu a0)), (3, .p (iV x))]) (K := fun x => spec_l1Cur_next_k1 a0 x = some r) (fun x1 h => ?_) ?_
 ·unfold spec_l1Cur_next_k1 at h
  refine k_sreg (r_gq [(0, .box [.sl none (a0.1.map (eU .u8)), rI (w64 (a0.2.1 + 1)), .raw (.int .u64 a0.2.2)]), (3, .p (iV x1))] [] trivial) ?_
  refine k_sreg (r_gq [(0, .box [.sl none (a0.1.map (eU .u8)), rI (w64 (a0.2.1 + 1)), .raw (.int .u64 (IntKind.wrap .u64 ((IntKind.wrap .u64 ((IntKind.wrap .u64 (a0.2.2 * 6364136223846793005)) + (IntKind.wrap .u64 x1))) + 1442695040888963407)))]), (3, .p (iV x1))] [(7, {pv := some (.int .u64 (IntKind.wrap .u64 x1))})] (A1 (show PureAt Tryz.prog (.convert 3 50 (.tmp 38)) [.int .i64 x1] (.int .u64 (IntKind.wrap .u64 x1)) from (pure_conv Tryz_und3 Tryz_und50)))) ?_
  refine k_seq ?_
  refine k_sreg (r_dq Tryz_mixed 9 [] [(0, .box [.sl none (a0.1.map (eU .u8)), rI (w64 (a0.2.1 + 1)), .raw (.int .u64 (IntKind.wrap .u64 ((IntKind.wrap .u64 ((IntKind.wrap .u64 (a0.2.2 * 6364136223846793005)) + (IntKind.wrap .u64 x1))) + 1442695040888963407)))]), (3, .p (iV x1)), (53, .p (.bool (decide ((w64 (a0.2.1 + 1)) ≤ (a0.1.length : Int)))))] [(7, bT), (8, {n := some a0.1.length})] (A2 (show frR [.sl none (a0.1.map (eU .u8))] = true from (frR1 (frL_enc (fr_U .u8)) rfl)) (show (a0.1.map (eU .u8)).length = a0.1.length from (List.length_map ..)))) ?_
  refine kc (decide ((w64 (a0.2.1 + 1)) ≤ (a0.1.length : Int))) (fun hc2_1 => ?_) (fun hc2_1 => ?_)
  ·replace h := ite_t hc2_1 h
   refine k_sreg (r_gq [(0, .box [.sl none (a0.1.map (eU .u8)), rI (w64 (a0.2.1 + 1)), .raw (.int .u64 (IntKind.wrap .u64 ((IntKind.wrap .u64 ((IntKind.wrap .u64 (a0.2.2 * 6364136223846793005)) + (IntKind.wrap .u64 x1))) + 1442695040888963407)))]), (2, .p (iV x1))] [] trivial) ?_
   refine k_ret ?_
   refine q_r ?_
   obtain rfl := oi h
   exact ebr [(.p (iV x1), 2)]
  ·replace h := ite_f hc2_1 h
   refine k_skip ?_
   refine q_n ?_
   refine k_sreg (r_gq [(0, .box [.sl none (a0.1.map (eU .u8)), rI (w64 (a0.2.1 + 1)), .raw (.int .u64 (IntKind.wrap .u64 ((IntKind.wrap .u64 ((IntKind.wrap .u64 (a0.2.2 * 6364136223846793005)) + (IntKind.wrap .u64 x1))) + 1442695040888963407)))]), (2, .p (iV (IntKind.wrap .i64 (iand .u64 (ishr .u64 (IntKind.wrap .u64 ((IntKind.wrap .u64 ((IntKind.wrap .u64 (a0.2.2 * 6364136223846793005)) + (IntKind.wrap .u64 x1))) + 1442695040888963407)) 40) 255))))] [(4, {pv := some (.int .u64 (ishr .u64 (IntKind.wrap .u64 ((IntKind.wrap .u64 ((IntKind.wrap .u64 (a0.2.2 * 6364136223846793005)) + (IntKind.wrap .u64 x1))) + 1442695040888963407)) 40))}), (5, {pv := some (.int .u64 (iand .u64 (ishr .u64 (IntKind.wrap .u64 ((IntKind.wrap .u64 ((IntKind.wrap .u64 (a0.2.2 * 6364136223846793005)) + (IntKind.wrap .u64 x1))) + 1442695040888963407)) 40) 255))}), (6, {pv := some (iV (IntKind.wrap .i64 (iand .u64 (ishr .u64 (IntKind.wrap .u64 ((IntKind.wrap .u64 ((IntKind.wrap .u64 (a0.2.2 * 6364136223846793005)) + (IntKind.wrap .u64 x1))) + 1442695040888963407)) 40) 255)))})] (A3 (show PureAt Tryz.prog (.binOp .shr 50 (.tmp 58) (.const (.int .u64 40)) 38) [.int .u64 (IntKind.wrap .u64 ((IntKind.wrap .u64 ((IntKind.wrap .u64 (a0.2.2 * 6364136223846793005)) + (IntKind.wrap .u64 x1))) + 1442695040888963407)), .int .u64 40] (.int .u64 (ishr .u64 (IntKind.wrap .u64 ((IntKind.wrap .u64 ((IntKind.wrap .u64 (a0.2.2 * 6364136223846793005)) + (IntKind.wrap .u64 x1))) + 1442695040888963407)) 40)) from (pure_shr (by decide))) (show PureAt Tryz.prog (.binOp .and 50 (.tmp 59) (.const (.int .u64 255)) 50) [.int .u64 (ishr .u64 (IntKind.wrap .u64 ((IntKind.wrap .u64 ((IntKind.wrap .u64 (a0.2.2 * 6364136223846793005)) + (IntKind.wrap .u64 x1))) + 1442695040888963407)) 40), .int .u64 255] (.int .u64 (iand .u64 (ishr .u64 (IntKind.wrap .u64 ((IntKind.wrap .u64 ((IntKind.wrap .u64 (a0.2.2 * 6364136223846793005)) + (IntKind.wrap .u64 x1))) + 1442695040888963407)) 40) 255)) from (pure_and)) (show PureAt Tryz.prog (.convert 50 3 (.tmp 60)) [.int .u64 (iand .u64 (ishr .u64 (IntKind.wrap .u64 ((IntKind.wrap .u64 ((IntKind.wrap .u64 (a0.2.2 * 6364136223846793005)) + (IntKind.wrap .u64 x1))) + 1442695040888963407)) 40) 255)] (iV (IntKind.wrap .i64 (iand .u64 (ishr .u64 (IntKind.wrap .u64 ((IntKind.wrap .u64 ((IntKind.wrap .u64 (a0.2.2 * 6364136223846793005)) + (IntKind.wrap .u64 x1))) + 1442695040888963407)) 40) 255))) from (pure_conv Tryz_und50 Tryz_und3)))) ?_
   refine k_ret ?_
   obtain rfl := oi h
   exact ebr [(.p (iV (IntKind.wrap .i64 (iand .u64 (ishr .u64 (IntKind.wrap .u64 ((IntKind.wrap .u64 ((IntKind.wrap .u64 (a0.2.2 * 6364136223846793005)) + (IntKind.wrap .u64 x1))) + 1442695040888963407)) 40) 255))), 2)]
 ·refine k_sreg (r_dq Tryz_mixed 9 [] [(0, .box (eCu a0)), (3, .p (iV 0)), (13, .p (.bool (decide (a0.2.1 < (a0.1.length : Int)))))] [(7, bT), (8, {n := some a0.1.length})] (A2 (show frR [.sl none (a0.1.map (eU .u8))] = true from (frR1 (frL_enc (fr_U .u8)) rfl)) (show (a0.1.map (eU .u8)).length = a0.1.length from (List.length_map ..)))) ?_
  refine kc (decide (a0.2.1 < (a0.1.length : Int))) (fun hc2_2 => ?_) (fun hc2_2 => ?_)
  ·replace h := ite_t hc2_2 h
   replace h := bs h
   obtain ⟨v4, hv4, h⟩ := h
   refine k_reg (r_dq Tryz_mixed 8 [] [(0, .box (eCu a0)), (3, .p (iV (IntKind.wrap .i64 v4)))] [(3, bT), (8, {row := some [.raw (.int .u8 v4)]}), (10, {pv := some (iV (IntKind.wrap .i64 v4))})] (A4 (show frR [.sl none (a0.1.map (eU .u8))] = true from (frR1 (frL_enc (fr_U .u8)) rfl)) (idxO_some hv4).1 (map_get (eU .u8) (idxO_some hv4).2) (show PureAt Tryz.prog (.convert 5 3 (.tmp 23)) [.int .u8 v4] (iV (IntKind.wrap .i64 v4)) from (pure_conv Tryz_und5 Tryz_und3)))) ?_
   refine q_n ?_
   exact jx (IntKind.wrap .i64 v4) h
  ·replace h := ite_f hc2_2 h
   refine k_skip ?_
   refine q_n ?_
   exact jx 0 h
theorem wk_spec_l1Cur_pick {a0 : Cu} {a1 : Int}  {r : (Int × Cu)} (h : spec_l1Cur_pick a0 a1 = some r) : MeetsB Tryz.prog 49 (.box (eCu a0)) [wI a1] [.p (iV r.1)] (.box (eCu r.2)) := by
 refine mob Tryz.func49 [(0, .box (eCu a0)), (1, .p (iV a1))] ?_
 unfold spec_l1Cur_pick at h
 refine k_sreg (r_gq [(0, .box (eCu a0)), (1, .p (iV a1))] [] trivial) ?_
 refine k_seq ?_
 refine k_sreg (r_gq [(0, .box (eCu a0)), (1, .p (iV a1)), (7, .p (.bool (decide (a1 ≤ 1))))] [] trivial) ?_
 refine kc (decide (a1 ≤ 1)) (fun hc2_0 => ?_) (fun hc2_0 => ?_)
 ·replace h := ite_t hc2_0 h
  refine k_sreg (r_gq [(0, .box (eCu a0)), (4, .p (iV 0))] [] trivial) ?_
  refine k_ret ?_
  refine q_r ?_
  obtain rfl := oi h
  exact ebr [(.p (iV 0), 4)]
 ·replace h := ite_f hc2_0 h
  refine k_skip ?_
  refine q_n ?_
  replace h := bs h
  obtain ⟨v2, hv2, h⟩ := h
  refine k_sreg (r_gq [(0, .box (eCu v2.2)), (1, .p (iV a1)), (5, .p (iV v2.1))] [(1, {lend := some (none, [.p (iV v2.1)], .box (eCu v2.2), false)})] (A1 (wk_spec_l1Cur_next hv2))) ?_
  refine k_join (J := fun (x : ((List Int) × Int × Int × Int)) => [(0, .box (eCu (x.1, x.2.1, x.2.2.1))), (1, .p (iV a1)), (5, .p (iV x.2.2.2))]) (K := fun x => spec_l1Cur_pick_k1 a1 x = some r) (fun x3 h => ?_) ?_
  ·unfold spec_l1Cur_pick_k1 at h
   replace h := bs h
   obtain ⟨u4, hu4, h⟩ := h
   refine k_sreg (r_gq [(0, .box (eCu (x3.1, x3.2.1, x3.2.2.1))), (4, .p (iV (Int.tmod x3.2.2.2 a1)))] [] (A1 (guardO_some hu4))) ?_
   refine k_ret ?_
   obtain rfl := oi h
   exact ebr [(.p (iV (Int.tmod x3.2.2.2 a1)), 4)]
  ·refine k_sreg (r_gq [(0, .box (eCu v2.2)), (1, .p (iV a1)), (5, .p (iV v2.1)), (11, .p (.bool (decide (a1 > 200))))] [] trivial) ?_
   refine kc (decide (a1 > 200)) (fun hc2_4 => ?_) (fun hc2_4 => ?_)
   ·replace h := ite_t hc2_4 h
    replace h := bs h
    obtain ⟨v6, hv6, h⟩ := h
    refine k_reg (r_gq [(0, .box (eCu v6.2)), (1, .p (iV a1)), (5, .p (iV (w64 ((w64 (v2.1 * 256)) + v6.1))))] [(3, {lend := some (none, [.p (iV v6.1)], .box (eCu v6.2), false)})] (A1 (wk_spec_l1Cur_next hv6))) ?_
    refine q_n ?_
    exact jx (v6.2.1, v6.2.2.1, v6.2.2.2, (w64 ((w64 (v2.1 * 256)) + v6.1))) h
   ·replace h := ite_f hc2_4 h
    refine k_skip ?_
    refine q_n ?_
    exact jx (v2.2.1, v2.2.2.1, v2.2.2.2, v2.1) h
theorem wk_spec_l1Cur_one {a0 : Cu} {a1 : Int}  {r : (Bool × Cu)} (h : spec_l1Cur_one a0 a1 = some r) : MeetsB Tryz.prog 30 (.box (eCu a0)) [wI a1] [.p (.bool r.1)] (.box (eCu r.2)) := by
 refine mob Tryz.func30 [(0, .box (eCu a0)), (1, .p (iV a1))] ?_
 unfold spec_l1Cur_one at h
 refine k_sreg (r_gq [(0, .box (eCu a0)), (1, .p (iV a1))] [] trivial) ?_
 replace h := bs h
 obtain ⟨v1, hv1, h⟩ := h
 refine k_sreg (r_gq [(0, .box (eCu v1.2)), (4, .p (.bool (v1.1 == 0)))] [(2, {lend := some (none, [.p (iV v1.1)], .box (eCu v1.2), false)})] (A1 (wk_spec_l1Cur_pick hv1))) ?_
 refine k_ret ?_
 obtain rfl := oi h
 exact ebr [(.p (.bool (v1.1 == 0)), 4)]
theorem wk_spec_l1Cur_among {a0 : Cu} {a1 : (List Int)}  {r : (Int × Cu)} (h : spec_l1Cur_among a0 a1 = some r) : MeetsB Tryz.prog 50 (.box (eCu a0)) [.d false [.sl none (a1.map eI)]] [.p (iV r.1)] (.box (eCu r.2)) := by
 refine mob Tryz.func50 [(0, .box (eCu a0)), (1, .d false [.sl none (a1.map eI)])] ?_
 unfold spec_l1Cur_among at h
 refine k_sreg (r_gq [(0, .box (eCu a0)), (1, .d false [.sl none (a1.map eI)])] [] trivial) ?_
 replace h := bs h
 obtain ⟨v1, hv1, h⟩ := h
 replace h := bs h
 obtain ⟨v2, hv2, h⟩ := h
 refine k_sreg (r_gq [(0, .box (eCu v1.2)), (4, .p (iV v2))] [(3, {n := some a1.length}), (4, {lend := some (none, [.p (iV v1.1)], .box (eCu v1.2), false)}), (5, {row := some (eI v2)})] (A4 (show (a1.map eI).length = a1.length from (List.length_map ..)) (wk_spec_l1Cur_pick hv1) (idxO_some hv2).1 (map_get eI (idxO_some hv2).2))) ?_
 refine k_ret ?_
 obtain rfl := oi h
 exact ebr [(.p (iV v2), 4)]
theorem wk_spec_l1Cur_graph {a0 : Cu}  {r : ((List (List Int)) × Cu)} (h : spec_l1Cur_graph a0 = some r) : MeetsB Tryz.prog 48 (.box (eCu a0)) [] [.ov false [.sl (some 42) (r.1.map (eO 3 eI))]] (.box (eCu r.2)) := by
 refine mob Tryz.func48 [(0, .box (eCu a0))] ?_
 unfold spec_l1Cur_graph at h
 refine k_sreg (r_gq [(0, .box (eCu a0))] [] trivial) ?_
 replace h := bs h
 obtain ⟨v1, hv1, h⟩ := h
 refine k_sreg (r_gq [(0, .box (eCu v1.2)), (3, .p (iV (w64 (1 + v1.1))))] [(1, {lend := some (none, [.p (iV v1.1)], .box (eCu v1.2), false)})] (A1 (wk_spec_l1Cur_pick hv1))) ?_
 refine k_join (J := fun (x : ((List Int) × Int × Int × Int)) => [(0, .box (eCu (x.1, x.2.1, x.2.2.1))), (3, .p (iV x.2.2.2))]) (K := fun x => spec_l1Cur_graph_k1 x = some r) (fun x2 h => ?_) ?_
 ·unfold spec_l1Cur_graph_k1 at h
  replace h := bs h
  obtain ⟨v3, hv3, h⟩ := h
  refine k_sreg (r_gq [(0, .box (eCu v3.2)), (3, .p (iV x2.2.2.2)), (4, .p (iV v3.1))] [(2, {lend := some (some [.d false [.sl none (([2, 2, 3]).map eI)]], [.p (iV v3.1)], .box (eCu v3.2), false), fix := some (21, .d false [.sl none (([2, 2, 3]).map eI)])})] (A3 (show ([.d false [.sl none (eraL (([2, 2, 3]).map eI))]] : List Arg) = [.d false [.sl none (([2, 2, 3]).map eI)]] from (by simp only [eraL_enc (h := eI) er_I])) (wk_spec_l1Cur_among hv3) (show (SV.d false (eraR [.sl (some 3) (([2, 2, 3]).map eI)]) : SV) = .d false [.sl none (([2, 2, 3]).map eI)] from (congrArg (fun z => SV.d false z) (erc_sl (eraL_enc er_I) rfl))))) ?_
  refine k_sreg (r_gq [(0, .box (eCu v3.2)), (3, .p (iV x2.2.2.2)), (4, .p (iV v3.1)), (5, .ov false [.sl (some 42) []])] [] trivial) ?_
  refine k_join (J := fun (x : ((List Int) × Int × Int × (List (List Int)))) => [(0, .box (eCu (x.1, x.2.1, x.2.2.1))), (3, .p (iV x2.2.2.2)), (5, .ov false [.sl (some 42) (x.2.2.2.map (eO 3 eI))])]) (K := fun x => spec_l1Cur_graph_k2 x2 x = some r) (fun x4 h => ?_) ?_
  ·unfold spec_l1Cur_graph_k2 at h
   refine k_join (J := fun (x : ((List Int) × Int × Int × (List (List Int)))) => [(0, .box (eCu (x.1, x.2.1, x.2.2.1))), (5, .ov false [.sl (some 42) (x.2.2.2.map (eO 3 eI))])]) (K := fun x => spec_l1Cur_graph_k3 x = some r) (fun x5 h => ?_) ?_
   ·unfold spec_l1Cur_graph_k3 at h
    refine k_join (J := fun (x : ((List Int) × Int × Int × (List (List Int)))) => [(0, .box (eCu (x.1, x.2.1, x.2.2.1))), (5, .ov false [.sl (some 42) (x.2.2.2.map (eO 3 eI))])]) (K := fun x => spec_l1Cur_graph_k4 x = some r) (fun x6 h => ?_) ?_
    ·unfold spec_l1Cur_graph_k4 at h
     refine k_sreg (r_gq [(0, .box (eCu (x6.1, x6.2.1, x6.2.2.1))), (2, .ov false [.sl (some 42) (x6.2.2.2.map (eO 3 eI))])] [] trivial) ?_
     refine k_ret ?_
     obtain rfl := oi h
     exact ebr [(.ov false [.sl (some 42) (x6.2.2.2.map (eO 3 eI))], 2)]
    ·replace h := bs h
     obtain ⟨v7, hv7, h⟩ := h
     refine k_sreg (r_gq [(0, .box (eCu v7.2)), (5, .ov false [.sl (some 42) (x5.2.2.2.map (eO 3 eI))]), (75, .p (.bool v7.1))] [(1, {lend := some (none, [.p (.bool v7.1)], .box (eCu v7.2), false)})] (A1 (wk_spec_l1Cur_one hv7))) ?_
     refine kc v7.1 (fun hc2_7 => ?_) (fun hc2_7 => ?_)
     ·replace h := ite_t hc2_7 h
      refine k_sreg (r_gq [(0, .box (eCu v7.2)), (5, .ov false [.sl (some 42) (x5.2.2.2.map (eO 3 eI))]), (77, .p (iV (x5.2.2.2.length : Int))), (78, .p (iV 0))] [(1, {n := some x5.2.2.2.length})] (A1 (show (x5.2.2.2.map (eO 3 eI)).length = x5.2.2.2.length from (List.length_map ..)))) ?_
      refine k_block ?_
      obtain ⟨y10, hl_x9, hk_x9⟩ := bs h
      clear h
      refine k_loop (J := fun (x : ((List (List Int)) × Int)) => [(0, .box (eCu v7.2)), (5, .ov false [.sl (some 42) (x.1.map (eO 3 eI))]), (77, .p (iV (x5.2.2.2.length : Int))), (78, .p (iV x.2))]) hl_x9 (wk_of (by kernel_rfl) (by kernel_rfl)) (fun x9 o_x9 h hy_x9 => ?_)
      unfold spec_l1Cur_graph_b1 at h
      refine k_sreg (r_gq [(0, .box (eCu v7.2)), (5, .ov false [.sl (some 42) (x9.1.map (eO 3 eI))]), (77, .p (iV (x5.2.2.2.length : Int))), (78, .p (iV x9.2)), (79, .p (.bool (decide (x9.2 < (x5.2.2.2.length : Int)))))] [] trivial) ?_
      refine k_seq ?_
      refine kc (decide (x9.2 < (x5.2.2.2.length : Int))) (fun hc5_10 => ?_) (fun hc5_10 => ?_)
      ·replace h := ite_t hc5_10 h
       refine k_skip ?_
       refine q_n ?_
       refine k_join (J := fun (x : (List (List Int))) => [(0, .box (eCu v7.2)), (5, .ov false [.sl (some 42) (x.map (eO 3 eI))]), (77, .p (iV (x5.2.2.2.length : Int))), (78, .p (iV x9.2))]) (K := fun x => spec_l1Cur_graph_k5 x9 x = some o_x9) (fun x12 h => ?_) ?_
       ·unfold spec_l1Cur_graph_k5 at h
        refine k_reg (r_gq [(0, .box (eCu v7.2)), (5, .ov false [.sl (some 42) (x12.map (eO 3 eI))]), (77, .p (iV (x5.2.2.2.length : Int))), (78, .p (iV (w64 (x9.2 + 1))))] [] trivial) ?_
        exact lqn (x12, (w64 (x9.2 + 1))) h
       ·refine k_block ?_
        refine k_sreg (r_gq [(0, .box (eCu v7.2)), (5, .ov false [.sl (some 42) (x9.1.map (eO 3 eI))]), (10, .p (iV x9.2)), (77, .p (iV (x5.2.2.2.length : Int))), (78, .p (iV x9.2))] [] trivial) ?_
        replace h := bs h
        obtain ⟨v13, hv13, h⟩ := h
        refine k_sreg (r_gq [(0, .box (eCu v7.2)), (5, .ov false [.sl (some 42) (x9.1.map (eO 3 eI))]), (10, .p (iV x9.2)), (77, .p (iV (x5.2.2.2.length : Int))), (78, .p (iV x9.2)), (85, .p (iV (v13.length : Int))), (86, .p (iV 0))] [(2, {row := some [.sl (some 3) (v13.map eI)]}), (3, {row := some [.sl (some 3) (v13.map eI)]}), (4, {deep := some [.sl (some 3) (v13.map eI)], n := some v13.length})] (A6 (idxO_some hv13).1 (map_get (eO 3 eI) (idxO_some hv13).2) (show frR [.sl (some 3) (v13.map eI)] = false from rfl) (show getRow [[.sl (some 42) (x9.1.map (eO 3 eI))]] [(0, 0), ((Int.toNat x9.2), 0)] = some [.sl (some 3) (v13.map eI)] from ((gr0 rfl).trans (gre (map_get (eO 3 eI) (idxO_some hv13).2)))) (show (v13.map eI).length = v13.length from (List.length_map ..)) (show getRow [[.sl (some 42) (x9.1.map (eO 3 eI))]] [(0, 0), ((Int.toNat x9.2), 0)] = some [.sl (some 3) (v13.map eI)] from ((gr0 rfl).trans (gre (map_get (eO 3 eI) (idxO_some hv13).2)))))) ?_
        refine k_block ?_
        obtain ⟨y15, hl_x14, hk_x14⟩ := bs h
        clear h
        refine k_loop (J := fun (x : ((List (List Int)) × Int)) => [(0, .box (eCu v7.2)), (5, .ov false [.sl (some 42) (x.1.map (eO 3 eI))]), (10, .p (iV x9.2)), (77, .p (iV (x5.2.2.2.length : Int))), (78, .p (iV x9.2)), (85, .p (iV (v13.length : Int))), (86, .p (iV x.2))]) hl_x14 (wk_of (by kernel_rfl) (by kernel_rfl)) (fun x14 o_x14 h hy_x14 => ?_)
        unfold spec_l1Cur_graph_b2 at h
        refine k_sreg (r_gq [(0, .box (eCu v7.2)), (5, .ov false [.sl (some 42) (x14.1.map (eO 3 eI))]), (10, .p (iV x9.2)), (77, .p (iV (x5.2.2.2.length : Int))), (78, .p (iV x9.2)), (85, .p (iV (v13.length : Int))), (86, .p (iV x14.2)), (87, .p (.bool (decide (x14.2 < (v13.length : Int)))))] [] trivial) ?_
        refine k_seq ?_
        refine kc (decide (x14.2 < (v13.length : Int))) (fun hc9_15 => ?_) (fun hc9_15 => ?_)
        ·replace h := ite_t hc9_15 h
         refine k_skip ?_
         refine q_n ?_
         refine k_seq ?_
         refine k_block ?_
         refine k_sreg (r_gq [(0, .box (eCu v7.2)), (5, .ov false [.sl (some 42) (x14.1.map (eO 3 eI))]), (10, .p (iV x9.2)), (11, .p (iV x14.2)), (77, .p (iV (x5.2.2.2.length : Int))), (78, .p (iV x9.2)), (85, .p (iV (v13.length : Int))), (86, .p (iV x14.2))] [] trivial) ?_
         replace h := bs h
         obtain ⟨v17, hv17, h⟩ := h
         replace h := bs h
         obtain ⟨v18, hv18, h⟩ := h
         refine k_reg (r_gq [(0, .box (eCu v7.2)), (5, .ov false [.sl (some 42) ((x14.1.set (Int.toNat x9.2) (v17.set (Int.toNat x14.2) 9)).map (eO 3 eI))]), (10, .p (iV x9.2)), (77, .p (iV (x5.2.2.2.length : Int))), (78, .p (iV x9.2)), (85, .p (iV (v13.length : Int))), (86, .p (iV x14.2))] [(2, {row := some [.sl (some 3) (v17.map eI)]}), (3, {row := some [.sl (some 3) (v17.map eI)]}), (5, {deep := some [.sl (some 3) (v17.map eI)], row := some (eI v18)}), (6, {row := some (eI v18), fix := some (5, .ov false [.sl (some 42) ((x14.1.set (Int.toNat x9.2) (v17.set (Int.toNat x14.2) 9)).map (eO 3 eI))])})] (B6 (idxO_some hv17).1 (map_get (eO 3 eI) (idxO_some hv17).2) (show frR [.sl (some 3) (v17.map eI)] = false from rfl) (show getRow [[.sl (some 42) (x14.1.map (eO 3 eI))]] [(0, 0), ((Int.toNat x9.2), 0)] = some [.sl (some 3) (v17.map eI)] from ((gr0 rfl).trans (gre (map_get (eO 3 eI) (idxO_some hv17).2)))) (idxO_some hv18).1 (map_get eI (idxO_some hv18).2) (A3 (show getRow [[.sl (some 42) (x14.1.map (eO 3 eI))]] [(0, 0), ((Int.toNat x9.2), 0)] = some [.sl (some 3) (v17.map eI)] from ((gr0 rfl).trans (gre (map_get (eO 3 eI) (idxO_some hv17).2)))) (show getRow [[.sl (some 42) (x14.1.map (eO 3 eI))]] [(0, 0), ((Int.toNat x9.2), 0), ((Int.toNat x14.2), 0)] = some (eI v18) from ((gr0 rfl).trans ((grs (map_get (eO 3 eI) (idxO_some hv17).2) rfl).trans (gre (map_get eI (idxO_some hv18).2))))) (show (SV.ov false [.sl (some 42) (setL (x14.1.map (eO 3 eI)) [((Int.toNat x9.2), 0), ((Int.toNat x14.2), 0)] [rI 9])] : SV) = .ov false [.sl (some 42) ((x14.1.set (Int.toNat x9.2) (v17.set (Int.toNat x14.2) 9)).map (eO 3 eI))] from (congrArg (fun z => SV.ov false [.sl (some 42) z]) (set2 (f := (eO 3 eI)) (y := (v17.set (Int.toNat x14.2) 9)) (idxO_some hv17).2 rfl (set1 (f := eI) (y := 9) (idxO_some hv18).2 rfl) rfl)))))) ?_
         refine b_n ?_
         refine q_n ?_
         refine k_reg (r_gq [(0, .box (eCu v7.2)), (5, .ov false [.sl (some 42) ((x14.1.set (Int.toNat x9.2) (v17.set (Int.toNat x14.2) 9)).map (eO 3 eI))]), (10, .p (iV x9.2)), (77, .p (iV (x5.2.2.2.length : Int))), (78, .p (iV x9.2)), (85, .p (iV (v13.length : Int))), (86, .p (iV (w64 (x14.2 + 1))))] [] trivial) ?_
         exact lqn ((x14.1.set (Int.toNat x9.2) (v17.set (Int.toNat x14.2) 9)), (w64 (x14.2 + 1))) h
        ·replace h := ite_f hc9_15 h
         refine k_exit ?_
         refine q_x ?_
         refine lq_x ?_
         refine b_x ?_
         refine b_n ?_
         have hyy := hy_x14 _ (oi h).symm
         subst hyy
         have h := hk_x14
         refine q_n ?_
         exact jx x14.1 h
      ·replace h := ite_f hc5_10 h
       refine k_exit ?_
       refine q_x ?_
       refine lq_x ?_
       refine b_x ?_
       have hyy := hy_x9 _ (oi h).symm
       subst hyy
       have h := hk_x9
       refine q_n ?_
       exact jx (v7.2.1, v7.2.2.1, v7.2.2.2, x9.1) h
     ·replace h := ite_f hc2_7 h
      refine k_skip ?_
      refine q_n ?_
      exact jx (v7.2.1, v7.2.2.1, v7.2.2.2, x5.2.2.2) h
   ·replace h := bs h
    obtain ⟨v19, hv19, h⟩ := h
    refine k_sreg (r_gq [(0, .box (eCu v19.2)), (3, .p (iV x2.2.2.2)), (5, .ov false [.sl (some 42) (x4.2.2.2.map (eO 3 eI))]), (60, .p (.bool v19.1))] [(1, {lend := some (none, [.p (.bool v19.1)], .box (eCu v19.2), false)})] (A1 (wk_spec_l1Cur_one hv19))) ?_
    refine kc v19.1 (fun hc2_19 => ?_) (fun hc2_19 => ?_)
    ·replace h := ite_t hc2_19 h
     replace h := bs h
     obtain ⟨v21, hv21, h⟩ := h
     replace h := bs h
     obtain ⟨v22, hv22, h⟩ := h
     replace h := bs h
     obtain ⟨v23, hv23, h⟩ := h
     replace h := bs h
     obtain ⟨v24, hv24, h⟩ := h
     replace h := bs h
     obtain ⟨v25, hv25, h⟩ := h
     refine k_reg (r_dq Tryz_mixed 12 [(3, 0), (8, 0), (11, 0)] [(0, .box (eCu v24.2)), (5, .ov false [.sl (some 42) ((x4.2.2.2.set (Int.toNat v21.1) (v22.set (Int.toNat v23.1) v24.1)).map (eO 3 eI))])] [(3, {lend := some (none, [.p (iV v21.1)], .box (eCu v21.2), false)}), (4, {row := some [.sl (some 3) (v22.map eI)]}), (5, {row := some [.sl (some 3) (v22.map eI)]}), (8, {lend := some (none, [.p (iV v23.1)], .box (eCu v23.2), false)}), (10, {pre := some (0, .u), fix := some (71, .d false [.sl none (([3, 9]).map eI)])}), (11, {lend := some (none, [.p (iV v24.1)], .box (eCu v24.2), false)}), (12, {deep := some [.sl (some 3) (v22.map eI)], row := some (eI v25)}), (13, {row := some (eI v25), fix := some (5, .ov false [.sl (some 42) ((x4.2.2.2.set (Int.toNat v21.1) (v22.set (Int.toNat v23.1) v24.1)).map (eO 3 eI))])})] (B6 (wk_spec_l1Cur_pick hv21) (idxO_some hv22).1 (map_get (eO 3 eI) (idxO_some hv22).2) (show frR [.sl (some 3) (v22.map eI)] = false from rfl) (show getRow [[.sl (some 42) (x4.2.2.2.map (eO 3 eI))]] [(0, 0), ((Int.toNat v21.1), 0)] = some [.sl (some 3) (v22.map eI)] from ((gr0 rfl).trans (gre (map_get (eO 3 eI) (idxO_some hv22).2)))) (wk_spec_l1Cur_pick hv23) (B6 (show (SV.d false (eraR [.sl (some 3) (([3, 9]).map eI)]) : SV) = .d false [.sl none (([3, 9]).map eI)] from (congrArg (fun z => SV.d false z) (erc_sl (eraL_enc er_I) rfl))) (wk_spec_l1Cur_among hv24) (idxO_some hv25).1 (map_get eI (idxO_some hv25).2) (show getRow [[.sl (some 42) (x4.2.2.2.map (eO 3 eI))]] [(0, 0), ((Int.toNat v21.1), 0)] = some [.sl (some 3) (v22.map eI)] from ((gr0 rfl).trans (gre (map_get (eO 3 eI) (idxO_some hv22).2)))) (show getRow [[.sl (some 42) (x4.2.2.2.map (eO 3 eI))]] [(0, 0), ((Int.toNat v21.1), 0), ((Int.toNat v23.1), 0)] = some (eI v25) from ((gr0 rfl).trans ((grs (map_get (eO 3 eI) (idxO_some hv22).2) rfl).trans (gre (map_get eI (idxO_some hv25).2))))) (A1 (show (SV.ov false [.sl (some 42) (setL (x4.2.2.2.map (eO 3 eI)) [((Int.toNat v21.1), 0), ((Int.toNat v23.1), 0)] (eI v24.1))] : SV) = .ov false [.sl (some 42) ((x4.2.2.2.set (Int.toNat v21.1) (v22.set (Int.toNat v23.1) v24.1)).map (eO 3 eI))] from (congrArg (fun z => SV.ov false [.sl (some 42) z]) (set2 (f := (eO 3 eI)) (y := (v22.set (Int.toNat v23.1) v24.1)) (idxO_some hv22).2 rfl (set1 (f := eI) (y := v24.1) (idxO_some hv25).2 rfl) rfl))))))) ?_
     refine q_n ?_
     exact jx (v24.2.1, v24.2.2.1, v24.2.2.2, (x4.2.2.2.set (Int.toNat v21.1) (v22.set (Int.toNat v23.1) v24.1))) h
    ·replace h := ite_f hc2_19 h
     refine k_skip ?_
     refine q_n ?_
     exact jx (v19.2.1, v19.2.2.1, v19.2.2.2, x4.2.2.2) h
  ·refine k_sreg (r_gq [(0, .box (eCu v3.2)), (3, .p (iV x2.2.2.2)), (4, .p (iV v3.1)), (5, .ov false [.sl (some 42) []]), (6, .p (iV 0))] [] trivial) ?_
   refine k_block ?_
   obtain ⟨y27, hl_x26, hk_x26⟩ := bs h
   clear h
   refine k_loop (J := fun (x : ((List Int) × Int × Int × (List (List Int)) × Int)) => [(0, .box (eCu (x.1, x.2.1, x.2.2.1))), (3, .p (iV x2.2.2.2)), (4, .p (iV v3.1)), (5, .ov false [.sl (some 42) (x.2.2.2.1.map (eO 3 eI))]), (6, .p (iV x.2.2.2.2))]) hl_x26 (wk_of (by kernel_rfl) (by kernel_rfl)) (fun x26 o_x26 h hy_x26 => ?_)
   unfold spec_l1Cur_graph_b3 at h
   refine k_seq ?_
   refine k_sreg (r_gq [(0, .box (eCu (x26.1, x26.2.1, x26.2.2.1))), (3, .p (iV x2.2.2.2)), (4, .p (iV v3.1)), (5, .ov false [.sl (some 42) (x26.2.2.2.1.map (eO 3 eI))]), (6, .p (iV x26.2.2.2.2)), (25, .p (.bool (decide (x26.2.2.2.2 < x2.2.2.2))))] [] trivial) ?_
   refine kc (decide (x26.2.2.2.2 < x2.2.2.2)) (fun hc5_27 => ?_) (fun hc5_27 => ?_)
   ·replace h := ite_t hc5_27 h
    refine k_skip ?_
    refine q_n ?_
    refine k_join (J := fun (x : ((List Int) × Int × Int × (List (List Int)))) => [(0, .box (eCu (x.1, x.2.1, x.2.2.1))), (3, .p (iV x2.2.2.2)), (4, .p (iV v3.1)), (5, .ov false [.sl (some 42) (x.2.2.2.map (eO 3 eI))]), (6, .p (iV x26.2.2.2.2))]) (K := fun x => spec_l1Cur_graph_k6 x26 x = some o_x26) (fun x29 h => ?_) ?_
    ·unfold spec_l1Cur_graph_k6 at h
     refine k_reg (r_gq [(0, .box (eCu (x29.1, x29.2.1, x29.2.2.1))), (3, .p (iV x2.2.2.2)), (4, .p (iV v3.1)), (5, .ov false [.sl (some 42) (x29.2.2.2.map (eO 3 eI))]), (6, .p (iV (w64 (x26.2.2.2.2 + 1))))] [] trivial) ?_
     exact lqn (x29.1, x29.2.1, x29.2.2.1, x29.2.2.2, (w64 (x26.2.2.2.2 + 1))) h
    ·refine k_block ?_
     refine k_sreg (r_gq [(0, .box (eCu (x26.1, x26.2.1, x26.2.2.1))), (3, .p (iV x2.2.2.2)), (4, .p (iV v3.1)), (5, .ov false [.sl (some 42) (x26.2.2.2.1.map (eO 3 eI))]), (6, .p (iV x26.2.2.2.2)), (7, .ov false [.sl (some 3) []])] [] trivial) ?_
     refine k_join (J := fun (x : ((List Int) × Int × Int × (List Int))) => [(0, .box (eCu (x.1, x.2.1, x.2.2.1))), (3, .p (iV x2.2.2.2)), (4, .p (iV v3.1)), (5, .ov false [.sl (some 42) (x26.2.2.2.1.map (eO 3 eI))]), (6, .p (iV x26.2.2.2.2)), (7, .ov false [.sl (some 3) (x.2.2.2.map eI)])]) (K := fun x => spec_l1Cur_graph_k7 x26 x = some o_x26) (fun x30 h => ?_) ?_
     ·unfold spec_l1Cur_graph_k7 at h
      replace h := bs h
      obtain ⟨u31, hu31, h⟩ := h
      refine k_reg (r_gq [(0, .box (eCu (x30.1, x30.2.1, x30.2.2.1))), (3, .p (iV x2.2.2.2)), (4, .p (iV v3.1)), (5, .ov false [.sl (some 42) ((x26.2.2.2.1 ++ [x30.2.2.2]).map (eO 3 eI))]), (6, .p (iV x26.2.2.2.2))] [(3, {fix := some (58, .ov false [.sl (some 42) ((x26.2.2.2.1 ++ [x30.2.2.2]).map (eO 3 eI))])})] (A3 (show List.length ((x26.2.2.2.1.map (eO 3 eI)) : List (List C)) + List.length ((([x30.2.2.2]).map (eO 3 eI)) : List (List C)) ≤ 1099511627776 from (by have hg := (guardO_some hu31); simpa using hg)) (show ∀ row ∈ ((([x30.2.2.2]).map (eO 3 eI)) : List (List C)), row.length = 1 from (rows_len fun _ => rfl)) (show (SV.ov false [.sl (some 42) ((x26.2.2.2.1.map (eO 3 eI)) ++ (([x30.2.2.2]).map (eO 3 eI)))] : SV) = .ov false [.sl (some 42) ((x26.2.2.2.1 ++ [x30.2.2.2]).map (eO 3 eI))] from (congrArg (fun z => SV.ov false [.sl (some 42) z]) (List.map_append ..).symm)))) ?_
      refine b_n ?_
      refine q_n ?_
      exact jx (x30.1, x30.2.1, x30.2.2.1, (x26.2.2.2.1 ++ [x30.2.2.2])) h
     ·refine k_sreg (r_gq [(0, .box (eCu (x26.1, x26.2.1, x26.2.2.1))), (3, .p (iV x2.2.2.2)), (4, .p (iV v3.1)), (5, .ov false [.sl (some 42) (x26.2.2.2.1.map (eO 3 eI))]), (6, .p (iV x26.2.2.2.2)), (7, .ov false [.sl (some 3) []]), (8, .p (iV 0))] [] trivial) ?_
      refine k_block ?_
      obtain ⟨y33, hl_x32, hk_x32⟩ := bs h
      clear h
      refine k_loop (J := fun (x : ((List Int) × Int × Int × (List Int) × Int)) => [(0, .box (eCu (x.1, x.2.1, x.2.2.1))), (3, .p (iV x2.2.2.2)), (4, .p (iV v3.1)), (5, .ov false [.sl (some 42) (x26.2.2.2.1.map (eO 3 eI))]), (6, .p (iV x26.2.2.2.2)), (7, .ov false [.sl (some 3) (x.2.2.2.1.map eI)]), (8, .p (iV x.2.2.2.2))]) hl_x32 (wk_of (by kernel_rfl) (by kernel_rfl)) (fun x32 o_x32 h hy_x32 => ?_)
      unfold spec_l1Cur_graph_b4 at h
      refine k_seq ?_
      refine k_sreg (r_gq [(0, .box (eCu (x32.1, x32.2.1, x32.2.2.1))), (3, .p (iV x2.2.2.2)), (4, .p (iV v3.1)), (5, .ov false [.sl (some 42) (x26.2.2.2.1.map (eO 3 eI))]), (6, .p (iV x26.2.2.2.2)), (7, .ov false [.sl (some 3) (x32.2.2.2.1.map eI)]), (8, .p (iV x32.2.2.2.2)), (30, .p (.bool (decide (x32.2.2.2.2 < x2.2.2.2))))] [] trivial) ?_
      refine kc (decide (x32.2.2.2.2 < x2.2.2.2)) (fun hc10_33 => ?_) (fun hc10_33 => ?_)
      ·replace h := ite_t hc10_33 h
       refine k_skip ?_
       refine q_n ?_
       refine k_seq ?_
       refine k_block ?_
       refine k_sreg (r_gq [(0, .box (eCu (x32.1, x32.2.1, x32.2.2.1))), (3, .p (iV x2.2.2.2)), (4, .p (iV v3.1)), (5, .ov false [.sl (some 42) (x26.2.2.2.1.map (eO 3 eI))]), (6, .p (iV x26.2.2.2.2)), (7, .ov false [.sl (some 3) (x32.2.2.2.1.map eI)]), (8, .p (iV x32.2.2.2.2)), (9, .p (iV 0))] [] trivial) ?_
       refine k_join (J := fun (x : ((List Int) × Int × Int × Int)) => [(0, .box (eCu (x.1, x.2.1, x.2.2.1))), (3, .p (iV x2.2.2.2)), (4, .p (iV v3.1)), (5, .ov false [.sl (some 42) (x26.2.2.2.1.map (eO 3 eI))]), (6, .p (iV x26.2.2.2.2)), (7, .ov false [.sl (some 3) (x32.2.2.2.1.map eI)]), (8, .p (iV x32.2.2.2.2)), (9, .p (iV x.2.2.2))]) (K := fun x => spec_l1Cur_graph_k8 x32 x = some o_x32) (fun x35 h => ?_) ?_
       ·unfold spec_l1Cur_graph_k8 at h
        replace h := bs h
        obtain ⟨u36, hu36, h⟩ := h
        refine k_reg (r_gq [(0, .box (eCu (x35.1, x35.2.1, x35.2.2.1))), (3, .p (iV x2.2.2.2)), (4, .p (iV v3.1)), (5, .ov false [.sl (some 42) (x26.2.2.2.1.map (eO 3 eI))]), (6, .p (iV x26.2.2.2.2)), (7, .ov false [.sl (some 3) ((x32.2.2.2.1 ++ [x35.2.2.2]).map eI)]), (8, .p (iV x32.2.2.2.2))] [(3, {fix := some (54, .ov false [.sl (some 3) ((x32.2.2.2.1 ++ [x35.2.2.2]).map eI)])})] (A3 (show List.length ((x32.2.2.2.1.map eI) : List (List C)) + List.length ((([x35.2.2.2]).map eI) : List (List C)) ≤ 1099511627776 from (by have hg := (guardO_some hu36); simpa using hg)) (show ∀ row ∈ ((([x35.2.2.2]).map eI) : List (List C)), row.length = 1 from (rows_len fun _ => rfl)) (show (SV.ov false [.sl (some 3) ((x32.2.2.2.1.map eI) ++ (([x35.2.2.2]).map eI))] : SV) = .ov false [.sl (some 3) ((x32.2.2.2.1 ++ [x35.2.2.2]).map eI)] from (congrArg (fun z => SV.ov false [.sl (some 3) z]) (List.map_append ..).symm)))) ?_
        refine b_n ?_
        refine q_n ?_
        refine k_reg (r_gq [(0, .box (eCu (x35.1, x35.2.1, x35.2.2.1))), (3, .p (iV x2.2.2.2)), (4, .p (iV v3.1)), (5, .ov false [.sl (some 42) (x26.2.2.2.1.map (eO 3 eI))]), (6, .p (iV x26.2.2.2.2)), (7, .ov false [.sl (some 3) ((x32.2.2.2.1 ++ [x35.2.2.2]).map eI)]), (8, .p (iV (w64 (x32.2.2.2.2 + 1))))] [] trivial) ?_
        exact lqn (x35.1, x35.2.1, x35.2.2.1, (x32.2.2.2.1 ++ [x35.2.2.2]), (w64 (x32.2.2.2.2 + 1))) h
       ·replace h := bs h
        obtain ⟨v37, hv37, h⟩ := h
        replace h := bs h
        obtain ⟨w39, hw39, h⟩ := h
        refine k_sreg (l1 := [(0, .box (eCu v37.2)), (3, .p (iV x2.2.2.2)), (4, .p (iV v3.1)), (5, .ov false [.sl (some 42) (x26.2.2.2.1.map (eO 3 eI))]), (6, .p (iV x26.2.2.2.2)), (7, .ov false [.sl (some 3) (x32.2.2.2.1.map eI)]), (8, .p (iV x32.2.2.2.2)), (9, .p (iV 0)), (47, .p (.bool w39))]) ?_ ?_
        ·clear h
         rcases ft v37.1 with ha2 | ha2
         ·replace hw39 := ite_t ha2 hw39
          have hw39 := oi hw39
          subst hw39
          exact (r_gq [(0, .box (eCu v37.2)), (3, .p (iV x2.2.2.2)), (4, .p (iV v3.1)), (5, .ov false [.sl (some 42) (x26.2.2.2.1.map (eO 3 eI))]), (6, .p (iV x26.2.2.2.2)), (7, .ov false [.sl (some 3) (x32.2.2.2.1.map eI)]), (8, .p (iV x32.2.2.2.2)), (9, .p (iV 0)), (47, .p (.bool true))] [(2, {lend := some (none, [.p (.bool v37.1)], .box (eCu v37.2), false)}), (4, gT), (5, gT), (6, gT), (13, gT), (14, bT)] (A6 (wk_spec_l1Cur_one hv37) ha2 ha2 ha2 ha2 ha2))
         ·replace hw39 := ite_f ha2 hw39
          rcases ft (v3.1 == 2) with ha3 | ha3
          ·replace hw39 := ite_t ha3 hw39
           replace hw39 := bs hw39
           obtain ⟨u38, hu38, hw39⟩ := hw39
           have hw39 := oi hw39
           subst hw39
           exact (r_gq [(0, .box (eCu v37.2)), (3, .p (iV x2.2.2.2)), (4, .p (iV v3.1)), (5, .ov false [.sl (some 42) (x26.2.2.2.1.map (eO 3 eI))]), (6, .p (iV x26.2.2.2.2)), (7, .ov false [.sl (some 3) (x32.2.2.2.1.map eI)]), (8, .p (iV x32.2.2.2.2)), (9, .p (iV 0)), (47, .p (.bool (x32.2.2.2.2 == (Int.tmod (w64 (x26.2.2.2.2 + 1)) x2.2.2.2))))] [(2, {lend := some (none, [.p (.bool v37.1)], .box (eCu v37.2), false)}), (4, gF), (5, gF), (6, gF), (7, gT), (8, gT), (9, gT), (10, gT), (11, gT), (12, gT), (13, {g := some false, b := some true}), (14, bF)] (B6 (wk_spec_l1Cur_one hv37) ha2 ha2 ha2 ha3 ha3 (B6 ha3 ha3 ha3 (guardO_some hu38) ha3 ha2 (A2 ha3 ha2))))
          ·replace hw39 := ite_f ha3 hw39
           have hw39 := oi hw39
           subst hw39
           exact (r_gq [(0, .box (eCu v37.2)), (3, .p (iV x2.2.2.2)), (4, .p (iV v3.1)), (5, .ov false [.sl (some 42) (x26.2.2.2.1.map (eO 3 eI))]), (6, .p (iV x26.2.2.2.2)), (7, .ov false [.sl (some 3) (x32.2.2.2.1.map eI)]), (8, .p (iV x32.2.2.2.2)), (9, .p (iV 0)), (47, .p (.bool false))] [(2, {lend := some (none, [.p (.bool v37.1)], .box (eCu v37.2), false)}), (4, gF), (5, gF), (6, gF), (7, gF), (8, gF), (9, gF), (10, gF), (11, gF), (12, gF), (13, {g := some false, b := some false}), (14, bF)] (B6 (wk_spec_l1Cur_one hv37) ha2 ha2 ha2 ha3 ha3 (B6 ha3 ha3 ha3 ha3 ha2 ha3 (A1 ha2))))
        ·refine kc w39 (fun hc12_39 => ?_) (fun hc12_39 => ?_)
         ·replace h := ite_t hc12_39 h
          replace h := bs h
          obtain ⟨v41, hv41, h⟩ := h
          refine k_reg (r_gq [(0, .box (eCu v41.2)), (3, .p (iV x2.2.2.2)), (4, .p (iV v3.1)), (5, .ov false [.sl (some 42) (x26.2.2.2.1.map (eO 3 eI))]), (6, .p (iV x26.2.2.2.2)), (7, .ov false [.sl (some 3) (x32.2.2.2.1.map eI)]), (8, .p (iV x32.2.2.2.2)), (9, .p (iV v41.1))] [(2, {lend := some (some [.d false [.sl none (([1, 1, 1, 2]).map eI)]], [.p (iV v41.1)], .box (eCu v41.2), false), fix := some (49, .d false [.sl none (([1, 1, 1, 2]).map eI)])})] (A3 (show ([.d false [.sl none (eraL (([1, 1, 1, 2]).map eI))]] : List Arg) = [.d false [.sl none (([1, 1, 1, 2]).map eI)]] from (by simp only [eraL_enc (h := eI) er_I])) (wk_spec_l1Cur_among hv41) (show (SV.d false (eraR [.sl (some 3) (([1, 1, 1, 2]).map eI)]) : SV) = .d false [.sl none (([1, 1, 1, 2]).map eI)] from (congrArg (fun z => SV.d false z) (erc_sl (eraL_enc er_I) rfl))))) ?_
          refine q_n ?_
          exact jx (v41.2.1, v41.2.2.1, v41.2.2.2, v41.1) h
         ·replace h := ite_f hc12_39 h
          refine k_skip ?_
          refine q_n ?_
          exact jx (v37.2.1, v37.2.2.1, v37.2.2.2, 0) h
      ·replace h := ite_f hc10_33 h
       refine k_exit ?_
       refine q_x ?_
       refine lq_x ?_
       refine b_x ?_
       have hyy := hy_x32 _ (oi h).symm
       subst hyy
       have h := hk_x32
       refine q_n ?_
       exact jx (x32.1, x32.2.1, x32.2.2.1, x32.2.2.2.1) h
   ·replace h := ite_f hc5_27 h
    refine k_exit ?_
    refine q_x ?_
    refine lq_x ?_
    refine b_x ?_
    have hyy := hy_x26 _ (oi h).symm
    subst hyy
    have h := hk_x26
    refine q_n ?_
    exact jx (x26.1, x26.2.1, x26.2.2.1, x26.2.2.2.1) h
 ·replace h := bs h
  obtain ⟨v42, hv42, h⟩ := h
  refine k_sreg (r_gq [(0, .box (eCu v42.2)), (3, .p (iV (w64 (1 + v1.1)))), (16, .p (.bool v42.1))] [(1, {lend := some (none, [.p (.bool v42.1)], .box (eCu v42.2), false)})] (A1 (wk_spec_l1Cur_one hv42))) ?_
  refine kc v42.1 (fun hc2_42 => ?_) (fun hc2_42 => ?_)
  ·replace h := ite_t hc2_42 h
   replace h := bs h
   obtain ⟨v44, hv44, h⟩ := h
   refine k_reg (r_gq [(0, .box (eCu v44.2)), (3, .p (iV v44.1))] [(2, {lend := some (some [.d false [.sl none (([5, 6, 7, 8]).map eI)]], [.p (iV v44.1)], .box (eCu v44.2), false), fix := some (18, .d false [.sl none (([5, 6, 7, 8]).map eI)])})] (A3 (show ([.d false [.sl none (eraL (([5, 6, 7, 8]).map eI))]] : List Arg) = [.d false [.sl none (([5, 6, 7, 8]).map eI)]] from (by simp only [eraL_enc (h := eI) er_I])) (wk_spec_l1Cur_among hv44) (show (SV.d false (eraR [.sl (some 3) (([5, 6, 7, 8]).map eI)]) : SV) = .d false [.sl none (([5, 6, 7, 8]).map eI)] from (congrArg (fun z => SV.d false z) (erc_sl (eraL_enc er_I) rfl))))) ?_
   refine q_n ?_
   exact jx (v44.2.1, v44.2.2.1, v44.2.2.2, v44.1) h
  ·replace h := ite_f hc2_42 h
   refine k_skip ?_
   refine q_n ?_
   exact jx (v42.2.1, v42.2.2.1, v42.2.2.2, (w64 (1 + v1.1))) h
theorem wk_spec_l1Cur_anyGraph {a0 : Cu}  {r : ((List (List Int)) × Cu)} (h : spec_l1Cur_anyGraph a0 = some r) : MeetsB Tryz.prog 24 (.box (eCu a0)) [] [.ov false [.sl (some 42) (r.1.map (eO 3 eI))]] (.box (eCu r.2)) := by
 refine mob Tryz.func24 [(0, .box (eCu a0))] ?_
 unfold spec_l1Cur_anyGraph at h
 refine k_sreg (r_gq [(0, .box (eCu a0))] [] trivial) ?_
 replace h := bs h
 obtain ⟨v1, hv1, h⟩ := h
 refine k_sreg (r_gq [(0, .box (eCu v1.2)), (3, .ov false [.sl (some 42) (v1.1.map (eO 3 eI))])] [(1, {lend := some (none, [.ov false [.sl (some 42) (v1.1.map (eO 3 eI))]], .box (eCu v1.2), false)})] (A1 (wk_spec_l1Cur_graph hv1))) ?_
 refine k_join (J := fun (x : ((List Int) × Int × Int × (List (List Int)))) => [(0, .box (eCu (x.1, x.2.1, x.2.2.1))), (3, .ov false [.sl (some 42) (x.2.2.2.map (eO 3 eI))])]) (K := fun x => spec_l1Cur_anyGraph_k1 x = some r) (fun x2 h => ?_) ?_
 ·unfold spec_l1Cur_anyGraph_k1 at h
  refine k_sreg (r_gq [(0, .box (eCu (x2.1, x2.2.1, x2.2.2.1))), (2, .ov false [.sl (some 42) (x2.2.2.2.map (eO 3 eI))])] [] trivial) ?_
  refine k_ret ?_
  obtain rfl := oi h
  exact ebr [(.ov false [.sl (some 42) (x2.2.2.2.map (eO 3 eI))], 2)]
 ·replace h := bs h
  obtain ⟨v3, hv3, h⟩ := h
  refine k_sreg (r_gq [(0, .box (eCu v3.2)), (3, .ov false [.sl (some 42) (v1.1.map (eO 3 eI))]), (7, .p (iV v3.1))] [(1, {lend := some (none, [.p (iV v3.1)], .box (eCu v3.2), false)})] (A1 (wk_spec_l1Cur_pick hv3))) ?_
  refine k_block ?_
  refine k_sreg (r_gq [(0, .box (eCu v3.2)), (3, .ov false [.sl (some 42) (v1.1.map (eO 3 eI))]), (7, .p (iV v3.1)), (8, .p (.bool (v3.1 == 0)))] [] trivial) ?_
  refine kc (v3.1 == 0) (fun hc3_3 => ?_) (fun hc3_3 => ?_)
  ·replace h := ite_t hc3_3 h
   replace h := bs h
   obtain ⟨v5, hv5, h⟩ := h
   replace h := bs h
   obtain ⟨v6, hv6, h⟩ := h
   replace h := bs h
   obtain ⟨v7, hv7, h⟩ := h
   replace h := bs h
   obtain ⟨v8, hv8, h⟩ := h
   refine k_reg (r_dq Tryz_mixed 10 [(6, 0), (9, 0)] [(0, .box (eCu v7.2)), (3, .ov false [.sl (some 42) ((v1.1.set (Int.toNat 0) (v5.set (Int.toNat v6.1) v7.1)).map (eO 3 eI))])] [(1, {row := some [.sl (some 3) (v5.map eI)]}), (2, {row := some [.sl (some 3) (v5.map eI)]}), (5, {n := some v1.1.length}), (6, {lend := some (none, [.p (iV v6.1)], .box (eCu v6.2), false)}), (8, {pre := some (0, .u), fix := some (18, .d false [.sl none (([(-1), 10]).map eI)])}), (9, {lend := some (none, [.p (iV v7.1)], .box (eCu v7.2), false)}), (10, {deep := some [.sl (some 3) (v5.map eI)], row := some (eI v8)}), (11, {row := some (eI v8), fix := some (3, .ov false [.sl (some 42) ((v1.1.set (Int.toNat 0) (v5.set (Int.toNat v6.1) v7.1)).map (eO 3 eI))])})] (B6 (idxO_some hv5).1 (map_get (eO 3 eI) (idxO_some hv5).2) (show frR [.sl (some 3) (v5.map eI)] = false from rfl) (show getRow [[.sl (some 42) (v1.1.map (eO 3 eI))]] [(0, 0), ((Int.toNat 0), 0)] = some [.sl (some 3) (v5.map eI)] from ((gr0 rfl).trans (gre (map_get (eO 3 eI) (idxO_some hv5).2)))) (show (v1.1.map (eO 3 eI)).length = v1.1.length from (List.length_map ..)) (wk_spec_l1Cur_pick hv6) (B6 (show (SV.d false (eraR [.sl (some 3) (([(-1), 10]).map eI)]) : SV) = .d false [.sl none (([(-1), 10]).map eI)] from (congrArg (fun z => SV.d false z) (erc_sl (eraL_enc er_I) rfl))) (wk_spec_l1Cur_among hv7) (idxO_some hv8).1 (map_get eI (idxO_some hv8).2) (show getRow [[.sl (some 42) (v1.1.map (eO 3 eI))]] [(0, 0), ((Int.toNat 0), 0)] = some [.sl (some 3) (v5.map eI)] from ((gr0 rfl).trans (gre (map_get (eO 3 eI) (idxO_some hv5).2)))) (show getRow [[.sl (some 42) (v1.1.map (eO 3 eI))]] [(0, 0), ((Int.toNat 0), 0), ((Int.toNat v6.1), 0)] = some (eI v8) from ((gr0 rfl).trans ((grs (map_get (eO 3 eI) (idxO_some hv5).2) rfl).trans (gre (map_get eI (idxO_some hv8).2))))) (A1 (show (SV.ov false [.sl (some 42) (setL (v1.1.map (eO 3 eI)) [((Int.toNat 0), 0), ((Int.toNat v6.1), 0)] (eI v7.1))] : SV) = .ov false [.sl (some 42) ((v1.1.set (Int.toNat 0) (v5.set (Int.toNat v6.1) v7.1)).map (eO 3 eI))] from (congrArg (fun z => SV.ov false [.sl (some 42) z]) (set2 (f := (eO 3 eI)) (y := (v5.set (Int.toNat v6.1) v7.1)) (idxO_some hv5).2 rfl (set1 (f := eI) (y := v7.1) (idxO_some hv8).2 rfl) rfl))))))) ?_
   refine b_n ?_
   refine q_n ?_
   exact jx (v7.2.1, v7.2.2.1, v7.2.2.2, (v1.1.set (Int.toNat 0) (v5.set (Int.toNat v6.1) v7.1))) h
  ·replace h := ite_f hc3_3 h
   refine k_sreg (r_gq [(0, .box (eCu v3.2)), (3, .ov false [.sl (some 42) (v1.1.map (eO 3 eI))]), (7, .p (iV v3.1)), (21, .p (.bool (v3.1 == 1)))] [] trivial) ?_
   refine kc (v3.1 == 1) (fun hc3_8 => ?_) (fun hc3_8 => ?_)
   ·replace h := ite_t hc3_8 h
    replace h := bs h
    obtain ⟨v10, hv10, h⟩ := h
    replace h := bs h
    obtain ⟨u11, hu11, h⟩ := h
    refine k_reg (r_gq [(0, .box (eCu v3.2)), (3, .ov false [.sl (some 42) ((v1.1.set (Int.toNat 0) (v10 ++ [1])).map (eO 3 eI))])] [(2, {row := some [.sl (some 3) (v10.map eI)]}), (3, {row := some [.sl (some 3) (v10.map eI)]}), (5, {take := some (26, [.sl (some 3) (v10.map eI)]), fix := some (28, .ov false [.sl (some 3) ((v10 ++ [1]).map eI)])}), (6, {row := some [.dead]}), (7, {row := some [.dead], fix := some (3, .ov false [.sl (some 42) ((v1.1.set (Int.toNat 0) (v10 ++ [1])).map (eO 3 eI))])})] (B6 (idxO_some hv10).1 (map_get (eO 3 eI) (idxO_some hv10).2) (show frR [.sl (some 3) (v10.map eI)] = false from rfl) (show getRow [[.sl (some 42) (v1.1.map (eO 3 eI))]] [(0, 0), ((Int.toNat 0), 0)] = some [.sl (some 3) (v10.map eI)] from ((gr0 rfl).trans (gre (map_get (eO 3 eI) (idxO_some hv10).2)))) (show getRow [[.sl (some 42) (v1.1.map (eO 3 eI))]] [(0, 0), ((Int.toNat 0), 0)] = some [.sl (some 3) (v10.map eI)] from ((gr0 rfl).trans (gre (map_get (eO 3 eI) (idxO_some hv10).2)))) (show List.length ((v10.map eI) : List (List C)) + List.length ((([1]).map eI) : List (List C)) ≤ 1099511627776 from (by have hg := (guardO_some hu11); simpa using hg)) (A6 (show ∀ row ∈ ((([1]).map eI) : List (List C)), row.length = 1 from (rows_len fun _ => rfl)) (show (SV.ov false [.sl (some 3) ((v10.map eI) ++ (([1]).map eI))] : SV) = .ov false [.sl (some 3) ((v10 ++ [1]).map eI)] from (congrArg (fun z => SV.ov false [.sl (some 3) z]) (List.map_append ..).symm)) (idxO_some hv10).1 (show (setL (v1.1.map (eO 3 eI)) [((Int.toNat 0), 0)] [.dead])[(Int.toNat 0)]? = some [.dead] from (get_dead1 (F := (eO 3 eI)) (idxO_some hv10).2 rfl)) (show getRow [[.sl (some 42) (setL (v1.1.map (eO 3 eI)) [((Int.toNat 0), 0)] [.dead])]] [(0, 0), ((Int.toNat 0), 0)] = some [.dead] from ((gr0 rfl).trans (get_dead (F := (eO 3 eI)) (idxO_some hv10).2 rfl))) (show (SV.ov false [.sl (some 42) (setL (setL (v1.1.map (eO 3 eI)) [((Int.toNat 0), 0)] [.dead]) [((Int.toNat 0), 0)] [.sl (some 3) ((v10 ++ [1]).map eI)])] : SV) = .ov false [.sl (some 42) ((v1.1.set (Int.toNat 0) (v10 ++ [1])).map (eO 3 eI))] from (congrArg (fun z => SV.ov false [.sl (some 42) z]) ((set_dead _ _ _).trans (set1 (f := (eO 3 eI)) (y := (v10 ++ [1])) (idxO_some hv10).2 rfl))))))) ?_
    refine b_n ?_
    refine q_n ?_
    exact jx (v3.2.1, v3.2.2.1, v3.2.2.2, (v1.1.set (Int.toNat 0) (v10 ++ [1]))) h
   ·replace h := ite_f hc3_8 h
    refine k_sreg (r_gq [(0, .box (eCu v3.2)), (3, .ov false [.sl (some 42) (v1.1.map (eO 3 eI))]), (7, .p (iV v3.1)), (30, .p (.bool (v3.1 == 2)))] [] trivial) ?_
    refine kc (v3.1 == 2) (fun hc3_11 => ?_) (fun hc3_11 => ?_)
    ·replace h := ite_t hc3_11 h
     refine k_sreg (r_gq [(0, .box (eCu v3.2)), (2, .ov false [.sl (some 42) []])] [] trivial) ?_
     refine k_ret ?_
     refine b_r ?_
     refine q_r ?_
     obtain rfl := oi h
     exact ebr [(.ov false [.sl (some 42) []], 2)]
    ·replace h := ite_f hc3_11 h
     refine k_sreg (r_gq [(0, .box (eCu v3.2)), (3, .ov false [.sl (some 42) (v1.1.map (eO 3 eI))]), (32, .p (.bool (v3.1 == 3)))] [] trivial) ?_
     refine kc (v3.1 == 3) (fun hc3_12 => ?_) (fun hc3_12 => ?_)
     ·replace h := ite_t hc3_12 h
      refine k_sreg (r_gq [(0, .box (eCu v3.2)), (3, .ov false [.sl (some 42) []])] [] trivial) ?_
      refine k_block ?_
      obtain ⟨y15, hl_x14, hk_x14⟩ := bs h
      clear h
      refine k_loop (J := fun (x : (List (List Int))) => [(0, .box (eCu v3.2)), (3, .ov false [.sl (some 42) (x.map (eO 3 eI))])]) hl_x14 (wk_of (by kernel_rfl) (by kernel_rfl)) (fun x14 o_x14 h hy_x14 => ?_)
      unfold spec_l1Cur_anyGraph_b1 at h
      refine k_seq ?_
      refine k_sreg (r_gq [(0, .box (eCu v3.2)), (3, .ov false [.sl (some 42) (x14.map (eO 3 eI))]), (36, .p (.bool (decide ((x14.length : Int) < 9))))] [(1, {n := some x14.length})] (A1 (show (x14.map (eO 3 eI)).length = x14.length from (List.length_map ..)))) ?_
      refine kc (decide ((x14.length : Int) < 9)) (fun hc6_15 => ?_) (fun hc6_15 => ?_)
      ·replace h := ite_t hc6_15 h
       refine k_skip ?_
       refine q_n ?_
       refine k_block ?_
       replace h := bs h
       obtain ⟨u17, hu17, h⟩ := h
       replace h := bs h
       obtain ⟨u18, hu18, h⟩ := h
       refine k_reg (r_gq [(0, .box (eCu v3.2)), (3, .ov false [.sl (some 42) ((x14 ++ [(List.replicate (Int.toNat (9 : Int)) (0 : Int))]).map (eO 3 eI))])] [(1, {fix := some (38, .ov false [.sl (some 3) ((List.replicate (Int.toNat (9 : Int)) (0 : Int)).map eI)])}), (3, {fix := some (40, .ov false [.sl (some 42) ((x14 ++ [(List.replicate (Int.toNat (9 : Int)) (0 : Int))]).map (eO 3 eI))])})] (B6 (show (9 : Int) = (9 : Int) from rfl) (guardO_some hu17).1 (guardO_some hu17).2 (show (SV.ov false [.sl (some 3) (List.replicate (Int.toNat (9 : Int)) [rI 0])] : SV) = .ov false [.sl (some 3) ((List.replicate (Int.toNat (9 : Int)) (0 : Int)).map eI)] from (congrArg (fun z => SV.ov false [.sl (some 3) z]) (rep_fix eI (0 : Int)))) (show List.length ((x14.map (eO 3 eI)) : List (List C)) + List.length ((([(List.replicate (Int.toNat (9 : Int)) (0 : Int))]).map (eO 3 eI)) : List (List C)) ≤ 1099511627776 from (by have hg := (guardO_some hu18); simpa using hg)) (show ∀ row ∈ ((([(List.replicate (Int.toNat (9 : Int)) (0 : Int))]).map (eO 3 eI)) : List (List C)), row.length = 1 from (rows_len fun _ => rfl)) (A1 (show (SV.ov false [.sl (some 42) ((x14.map (eO 3 eI)) ++ (([(List.replicate (Int.toNat (9 : Int)) (0 : Int))]).map (eO 3 eI)))] : SV) = .ov false [.sl (some 42) ((x14 ++ [(List.replicate (Int.toNat (9 : Int)) (0 : Int))]).map (eO 3 eI))] from (congrArg (fun z => SV.ov false [.sl (some 42) z]) (List.map_append ..).symm))))) ?_
       refine b_n ?_
       exact lqn (x14 ++ [(List.replicate (Int.toNat (9 : Int)) (0 : Int))]) h
      ·replace h := ite_f hc6_15 h
       refine k_exit ?_
       refine q_x ?_
       refine lq_x ?_
       refine b_x ?_
       refine b_n ?_
       have hyy := hy_x14 _ (oi h).symm
       subst hyy
       have h := hk_x14
       refine q_n ?_
       exact jx (v3.2.1, v3.2.2.1, v3.2.2.2, x14) h
     ·replace h := ite_f hc3_12 h
      refine k_skip ?_
      refine b_n ?_
      refine q_n ?_
      exact jx (v3.2.1, v3.2.2.1, v3.2.2.2, v1.1) h
theorem wk_spec_l1Cur_walkSteps {a0 : Cu}  {r : (Int × Cu)} (h : spec_l1Cur_walkSteps a0 = some r) : MeetsB Tryz.prog 42 (.box (eCu a0)) [] [.p (iV r.1)] (.box (eCu r.2)) := by
 refine mob Tryz.func42 [(0, .box (eCu a0))] ?_
 unfold spec_l1Cur_walkSteps at h
 refine k_sreg (r_gq [(0, .box (eCu a0))] [] trivial) ?_
 replace h := bs h
 obtain ⟨v1, hv1, h⟩ := h
 replace h := bs h
 obtain ⟨v2, hv2, h⟩ := h
 refine k_sreg (r_gq [(0, .box (eCu v2.2)), (2, .p (iV v2.1))] [(3, {lend := some (some [.d false [.sl none (([13, (-1)]).map eI)]], [.p (iV v1.1)], .box (eCu v1.2), false), fix := some (5, .d false [.sl none (([13, (-1)]).map eI)])}), (5, {lend := some (some [.d false [.sl none (([0, 1, 2, 3, 5, 8, 12, v1.1]).map eI)]], [.p (iV v2.1)], .box (eCu v2.2), false), fix := some (7, .d false [.sl none (([0, 1, 2, 3, 5, 8, 12, v1.1]).map eI)])})] (A6 (show ([.d false [.sl none (eraL (([13, (-1)]).map eI))]] : List Arg) = [.d false [.sl none (([13, (-1)]).map eI)]] from (by simp only [eraL_enc (h := eI) er_I])) (wk_spec_l1Cur_among hv1) (show (SV.d false (eraR [.sl (some 3) (([13, (-1)]).map eI)]) : SV) = .d false [.sl none (([13, (-1)]).map eI)] from (congrArg (fun z => SV.d false z) (erc_sl (eraL_enc er_I) rfl))) (show ([.d false [.sl none (eraL (([0, 1, 2, 3, 5, 8, 12, v1.1]).map eI))]] : List Arg) = [.d false [.sl none (([0, 1, 2, 3, 5, 8, 12, v1.1]).map eI)]] from (by simp only [eraL_enc (h := eI) er_I])) (wk_spec_l1Cur_among hv2) (show (SV.d false (eraR [.sl (some 3) (([0, 1, 2, 3, 5, 8, 12, v1.1]).map eI)]) : SV) = .d false [.sl none (([0, 1, 2, 3, 5, 8, 12, v1.1]).map eI)] from (congrArg (fun z => SV.d false z) (erc_sl (eraL_enc er_I) rfl))))) ?_
 refine k_ret ?_
 obtain rfl := oi h
 exact ebr [(.p (iV v2.1), 2)]
theorem wk_spec_DrawPowerOf {a0 : (List Int)}  {r : ((List (List Int)) × Int)} (h : spec_DrawPowerOf a0 = some r) : Meets Tryz.prog 18 [.d false [.sl none (a0.map (eU .u8))]] { vals := [.ov false [.sl (some 42) (r.1.map (eO 3 eI))], .p (iV r.2)] } := by
 refine mo Tryz.func18 [(0, .d false [.sl none (a0.map (eU .u8))])] ?_
 unfold spec_DrawPowerOf at h
 refine k_sreg (r_gq [(0, .d false [.sl none (a0.map (eU .u8))])] [] trivial) ?_
 refine k_sreg (r_gq [(4, .addr 7 [(0, 0)]), (7, .box (eCu (a0, 0, 0)))] [] trivial) ?_
 replace h := bs h
 obtain ⟨v1, hv1, h⟩ := h
 replace h := bs h
 obtain ⟨v2, hv2, h⟩ := h
 refine k_sreg (r_gq [(2, .ov false [.sl (some 42) (v1.1.map (eO 3 eI))]), (3, .p (iV v2.1))] [(1, {lend := some (none, [.ov false [.sl (some 42) (v1.1.map (eO 3 eI))]], .box (eCu v1.2), false)}), (3, {lend := some (none, [.p (iV v2.1)], .box (eCu v2.2), false)})] (A2 (wk_spec_l1Cur_anyGraph hv1) (wk_spec_l1Cur_walkSteps hv2))) ?_
 refine k_ret ?_
 obtain rfl := oi h
 exact er [(.ov false [.sl (some 42) (v1.1.map (eO 3 eI))], 2), (.p (iV v2.1), 3)]
theorem wk_spec_DrawTotalWalks {a0 : (List Int)}  {r : ((List (List Int)) × Int)} (h : spec_DrawTotalWalks a0 = some r) : Meets Tryz.prog 4 [.d false [.sl none (a0.map (eU .u8))]] { vals := [.ov false [.sl (some 42) (r.1.map (eO 3 eI))], .p (iV r.2)] } := by
 refine mo Tryz.func4 [(0, .d false [.sl none (a0.map (eU .u8))])] ?_
 unfold spec_DrawTotalWalks at h
 refine k_sreg (r_gq [(0, .d false [.sl none (a0.map (eU .u8))])] [] trivial) ?_
 replace h := bs h
 obtain ⟨v1, hv1, h⟩ := h
 refine k_sreg (r_gq [(2, .ov false [.sl (some 42) (v1.1.map (eO 3 eI))]), (3, .p (iV v1.2))] [(1, {call := some (none, [.ov false [.sl (some 42) (v1.1.map (eO 3 eI))], .p (iV v1.2)], true)})] (A2 (wk_spec_DrawPowerOf hv1) (show List.all [.ov false [.sl (some 42) (v1.1.map (eO 3 eI))], .p (iV v1.2)] simpleR = true from (sa_o (wnR1 (wnL_enc (wn_O wn_I)) rfl) (sa_p rfl))))) ?_
 refine k_ret ?_
 obtain rfl := oi h
 exact er [(.ov false [.sl (some 42) (v1.1.map (eO 3 eI))], 2), (.p (iV v1.2), 3)]
theorem wk_impl_within {a0 : Int} {a1 : Int} {a2 : Int}  {r : Bool} (h : impl_within a0 a1 a2 = some r) : Meets Tryz.prog 44 [wI a0, wI a1, wI a2] { vals := [.p (.bool r)] } := by
 refine mo Tryz.func44 [(0, .p (iV a0)), (1, .p (iV a1)), (2, .p (iV a2))] ?_
 unfold impl_within at h
 refine k_sreg (r_gq [(0, .p (iV a0)), (1, .p (iV a1)), (2, .p (iV a2))] [] trivial) ?_
 refine k_sreg (l1 := [(6, .p (.bool ((decide (a1 ≤ a0)) && (decide (a0 ≤ a2)))))]) ?_ ?_
 ·rcases ft (decide (a1 ≤ a0)) with ha0 | ha0
  ·exact RegOk.of_eq (l2 := [(6, .p (.bool ((decide (a1 ≤ a0)) && (decide (a0 ≤ a2)))))]) (r_gq [(6, .p (.bool (decide (a0 ≤ a2))))] [(4, gT), (5, gT), (6, gT), (7, bT)] (A4 ha0 ha0 ha0 ha0)) (by simp [ha0])
  ·exact RegOk.of_eq (l2 := [(6, .p (.bool ((decide (a1 ≤ a0)) && (decide (a0 ≤ a2)))))]) (r_gq [(6, .p (.bool false))] [(4, gF), (5, gF), (6, gF), (7, bF)] (A4 ha0 ha0 ha0 ha0)) (by simp [ha0])
 ·refine k_ret ?_
  obtain rfl := oi h
  exact er [(.p (.bool ((decide (a1 ≤ a0)) && (decide (a0 ≤ a2)))), 6)]
theorem wk_slices_IndexFunc_LLint_Lint_d {a0 : (List (List Int))} {a1 : ((List Int) → Option Bool)} {F1 : FuncId} {K1 : List (Bool × List C)} (hp1 : ∀ x0 y, a1 x0 = some y → Meets Tryz.prog F1 ([.d false [.sl none (x0.map eI)]] ++ (K1.map fun (g, cs) => mkA g cs)) { vals := [.p (.bool y)] }) {r : Int} (h : slices_IndexFunc_LLint_Lint a0 a1 = some r) : Meets Tryz.prog 65 [.d false [.sl none (a0.map (eF eI))], .d false [.fn F1 K1]] { vals := [.p (iV r)] } := by
 refine mo Tryz.func65 [(0, .d false [.sl none (a0.map (eF eI))]), (1, .d false [.fn F1 K1])] ?_
 unfold slices_IndexFunc_LLint_Lint at h
 refine k_sreg (r_gq [(0, .d false [.sl none (a0.map (eF eI))]), (1, .d false [.fn F1 K1])] [] trivial) ?_
 refine k_join (J := fun (x : Unit) => []) (K := fun x => slices_IndexFunc_LLint_Lint_k1 x = some r) (fun x1 h => ?_) ?_
 ·unfold slices_IndexFunc_LLint_Lint_k1 at h
  refine k_sreg (r_gq [(4, .p (iV (-1)))] [] trivial) ?_
  refine k_ret ?_
  obtain rfl := oi h
  exact er [(.p (iV (-1)), 4)]
 ·refine k_sreg (r_gq [(0, .d false [.sl none (a0.map (eF eI))]), (1, .d false [.fn F1 K1]), (7, .p (iV (a0.length : Int))), (8, .p (iV 0))] [(1, {n := some a0.length})] (A1 (show (a0.map (eF eI)).length = a0.length from (List.length_map ..)))) ?_
  refine k_block ?_
  obtain ⟨y3, hl_x2, hk_x2⟩ := bs h
  clear h
  refine k_loop (J := fun (x : Int) => [(0, .d false [.sl none (a0.map (eF eI))]), (1, .d false [.fn F1 K1]), (7, .p (iV (a0.length : Int))), (8, .p (iV x))]) hl_x2 (wk_of (by kernel_rfl) (by kernel_rfl)) (fun x2 o_x2 h hy_x2 => ?_)
  unfold slices_IndexFunc_LLint_Lint_b1 at h
  refine k_sreg (r_gq [(0, .d false [.sl none (a0.map (eF eI))]), (1, .d false [.fn F1 K1]), (7, .p (iV (a0.length : Int))), (8, .p (iV x2)), (9, .p (.bool (decide (x2 < (a0.length : Int)))))] [] trivial) ?_
  refine k_seq ?_
  refine kc (decide (x2 < (a0.length : Int))) (fun hc5_3 => ?_) (fun hc5_3 => ?_)
  ·replace h := ite_t hc5_3 h
   refine k_skip ?_
   refine q_n ?_
   refine k_seq ?_
   refine k_block ?_
   refine k_sreg (r_gq [(0, .d false [.sl none (a0.map (eF eI))]), (1, .d false [.fn F1 K1]), (5, .p (iV x2)), (7, .p (iV (a0.length : Int))), (8, .p (iV x2))] [] trivial) ?_
   replace h := bs h
   obtain ⟨v5, hv5, h⟩ := h
   replace h := bs h
   obtain ⟨v6, hv6, h⟩ := h
   refine k_sreg (r_gq [(0, .d false [.sl none (a0.map (eF eI))]), (1, .d false [.fn F1 K1]), (5, .p (iV x2)), (7, .p (iV (a0.length : Int))), (8, .p (iV x2)), (16, .p (.bool v6))] [(3, {row := some [.sl none (v5.map eI)]}), (5, {call := some (none, [.p (.bool v6)], true)})] (A3 (idxO_some hv5).1 (map_get (eF eI) (idxO_some hv5).2) (hp1 _ _ hv6))) ?_
   refine kc v6 (fun hc6_6 => ?_) (fun hc6_6 => ?_)
   ·replace h := ite_t hc6_6 h
    refine k_sreg (r_gq [(4, .p (iV x2))] [] trivial) ?_
    refine k_ret ?_
    refine b_r ?_
    refine q_r ?_
    refine lq_r ?_
    refine b_r ?_
    refine q_r ?_
    have hyy := hy_x2 _ (oi h).symm
    subst hyy
    have h := hk_x2
    dsimp only [Sum.elim] at h
    obtain rfl := oi h
    exact er [(.p (iV x2), 4)]
   ·replace h := ite_f hc6_6 h
    refine k_skip ?_
    refine b_n ?_
    refine q_n ?_
    refine k_reg (r_gq [(0, .d false [.sl none (a0.map (eF eI))]), (1, .d false [.fn F1 K1]), (7, .p (iV (a0.length : Int))), (8, .p (iV (w64 (x2 + 1))))] [] trivial) ?_
    exact lqn (w64 (x2 + 1)) h
  ·replace h := ite_f hc5_3 h
   refine k_exit ?_
   refine q_x ?_
   refine lq_x ?_
   refine b_x ?_
   have hyy := hy_x2 _ (oi h).symm
   subst hyy
   have h := hk_x2
   dsimp only [Sum.elim] at h
   refine q_n ?_
   exact jx () h
theorem wk_slices_ContainsFunc_LLint_Lint_d {a0 : (List (List Int))} {a1 : ((List Int) → Option Bool)} {F1 : FuncId} {K1 : List (Bool × List C)} (hp1 : ∀ x0 y, a1 x0 = some y → Meets Tryz.prog F1 ([.d false [.sl none (x0.map eI)]] ++ (K1.map fun (g, cs) => mkA g cs)) { vals := [.p (.bool y)] }) {r : Bool} (h : slices_ContainsFunc_LLint_Lint a0 a1 = some r) : Meets Tryz.prog 36 [.d false [.sl none (a0.map (eF eI))], .d false [.fn F1 K1]] { vals := [.p (.bool r)] } := by
 refine mo Tryz.func36 [(0, .d false [.sl none (a0.map (eF eI))]), (1, .d false [.fn F1 K1])] ?_
 unfold slices_ContainsFunc_LLint_Lint at h
 refine k_sreg (r_gq [(0, .d false [.sl none (a0.map (eF eI))]), (1, .d false [.fn F1 K1])] [] trivial) ?_
 replace h := bs h
 obtain ⟨v1, hv1, h⟩ := h
 refine k_sreg (r_gq [(4, .p (.bool (decide (v1 ≥ 0))))] [(2, {call := some (none, [.p (iV v1)], true)})] (A1 (show Meets Tryz.prog 65 ([.d false [.sl none (a0.map (eF eI))], .d false [.fn F1 K1]] ++ []) { vals := [.p (iV v1)] } from (wk_slices_IndexFunc_LLint_Lint_d hp1 hv1)))) ?_
 refine k_ret ?_
 obtain rfl := oi h
 exact er [(.p (.bool (decide (v1 ≥ 0))), 4)]
theorem wk_slices_IndexFunc_Lint_int_v {a0 : (List Int)} {a1 : (Int → Option Bool)} {F1 : FuncId} (hp1 : ∀ x0 y, a1 x0 = some y → Meets Tryz.prog F1 ([wI x0] ++ []) { vals := [.p (.bool y)] }) {r : Int} (h : slices_IndexFunc_Lint_int a0 a1 = some r) : Meets Tryz.prog 86 [.d false [.sl none (a0.map eI)], .v (.func (.func F1) #[] #[])] { vals := [.p (iV r)] } := by
 refine mo Tryz.func86 [(0, .d false [.sl none (a0.map eI)]), (1, .p (.func (.func F1) #[] #[]))] ?_
 unfold slices_IndexFunc_Lint_int at h
 refine k_sreg (r_gq [(0, .d false [.sl none (a0.map eI)]), (1, .p (.func (.func F1) #[] #[]))] [] trivial) ?_
 refine k_join (J := fun (x : Unit) => []) (K := fun x => slices_IndexFunc_Lint_int_k1 x = some r) (fun x1 h => ?_) ?_
 ·unfold slices_IndexFunc_Lint_int_k1 at h
  refine k_sreg (r_gq [(4, .p (iV (-1)))] [] trivial) ?_
  refine k_ret ?_
  obtain rfl := oi h
  exact er [(.p (iV (-1)), 4)]
 ·refine k_sreg (r_gq [(0, .d false [.sl none (a0.map eI)]), (1, .p (.func (.func F1) #[] #[])), (7, .p (iV (a0.length : Int))), (8, .p (iV 0))] [(1, {n := some a0.length})] (A1 (show (a0.map eI).length = a0.length from (List.length_map ..)))) ?_
  refine k_block ?_
  obtain ⟨y3, hl_x2, hk_x2⟩ := bs h
  clear h
  refine k_loop (J := fun (x : Int) => [(0, .d false [.sl none (a0.map eI)]), (1, .p (.func (.func F1) #[] #[])), (7, .p (iV (a0.length : Int))), (8, .p (iV x))]) hl_x2 (wk_of (by kernel_rfl) (by kernel_rfl)) (fun x2 o_x2 h hy_x2 => ?_)
  unfold slices_IndexFunc_Lint_int_b1 at h
  refine k_sreg (r_gq [(0, .d false [.sl none (a0.map eI)]), (1, .p (.func (.func F1) #[] #[])), (7, .p (iV (a0.length : Int))), (8, .p (iV x2)), (9, .p (.bool (decide (x2 < (a0.length : Int)))))] [] trivial) ?_
  refine k_seq ?_
  refine kc (decide (x2 < (a0.length : Int))) (fun hc5_3 => ?_) (fun hc5_3 => ?_)
  ·replace h := ite_t hc5_3 h
   refine k_skip ?_
   refine q_n ?_
   refine k_seq ?_
   refine k_block ?_
   refine k_sreg (r_gq [(0, .d false [.sl none (a0.map eI)]), (1, .p (.func (.func F1) #[] #[])), (5, .p (iV x2)), (7, .p (iV (a0.length : Int))), (8, .p (iV x2))] [] trivial) ?_
   replace h := bs h
   obtain ⟨v5, hv5, h⟩ := h
   replace h := bs h
   obtain ⟨v6, hv6, h⟩ := h
   refine k_sreg (r_gq [(0, .d false [.sl none (a0.map eI)]), (1, .p (.func (.func F1) #[] #[])), (5, .p (iV x2)), (7, .p (iV (a0.length : Int))), (8, .p (iV x2)), (16, .p (.bool v6))] [(3, {row := some (eI v5)}), (5, {call := some (none, [.p (.bool v6)], true)})] (A3 (idxO_some hv5).1 (map_get eI (idxO_some hv5).2) (hp1 _ _ hv6))) ?_
   refine kc v6 (fun hc6_6 => ?_) (fun hc6_6 => ?_)
   ·replace h := ite_t hc6_6 h
    refine k_sreg (r_gq [(4, .p (iV x2))] [] trivial) ?_
    refine k_ret ?_
    refine b_r ?_
    refine q_r ?_
    refine lq_r ?_
    refine b_r ?_
    refine q_r ?_
    have hyy := hy_x2 _ (oi h).symm
    subst hyy
    have h := hk_x2
    dsimp only [Sum.elim] at h
    obtain rfl := oi h
    exact er [(.p (iV x2), 4)]
   ·replace h := ite_f hc6_6 h
    refine k_skip ?_
    refine b_n ?_
    refine q_n ?_
    refine k_reg (r_gq [(0, .d false [.sl none (a0.map eI)]), (1, .p (.func (.func F1) #[] #[])), (7, .p (iV (a0.length : Int))), (8, .p (iV (w64 (x2 + 1))))] [] trivial) ?_
    exact lqn (w64 (x2 + 1)) h
  ·replace h := ite_f hc5_3 h
   refine k_exit ?_
   refine q_x ?_
   refine lq_x ?_
   refine b_x ?_
   have hyy := hy_x2 _ (oi h).symm
   subst hyy
   have h := hk_x2
   dsimp only [Sum.elim] at h
   refine q_n ?_
   exact jx () h
theorem wk_slices_ContainsFunc_Lint_int_v {a0 : (List Int)} {a1 : (Int → Option Bool)} {F1 : FuncId} (hp1 : ∀ x0 y, a1 x0 = some y → Meets Tryz.prog F1 ([wI x0] ++ []) { vals := [.p (.bool y)] }) {r : Bool} (h : slices_ContainsFunc_Lint_int a0 a1 = some r) : Meets Tryz.prog 67 [.d false [.sl none (a0.map eI)], .v (.func (.func F1) #[] #[])] { vals := [.p (.bool r)] } := by
 refine mo Tryz.func67 [(0, .d false [.sl none (a0.map eI)]), (1, .p (.func (.func F1) #[] #[]))] ?_
 unfold slices_ContainsFunc_Lint_int at h
 refine k_sreg (r_gq [(0, .d false [.sl none (a0.map eI)]), (1, .p (.func (.func F1) #[] #[]))] [] trivial) ?_
 replace h := bs h
 obtain ⟨v1, hv1, h⟩ := h
 refine k_sreg (r_gq [(4, .p (.bool (decide (v1 ≥ 0))))] [(2, {call := some (none, [.p (iV v1)], true)})] (A1 (show Meets Tryz.prog 86 ([.d false [.sl none (a0.map eI)], .v (.func (.func F1) #[] #[])] ++ []) { vals := [.p (iV v1)] } from (wk_slices_IndexFunc_Lint_int_v hp1 hv1)))) ?_
 refine k_ret ?_
 obtain rfl := oi h
 exact er [(.p (.bool (decide (v1 ≥ 0))), 4)]
theorem wk_impl_isGraph_1_1 {a0 : Int}  {r : Bool} (h : impl_isGraph_1_1 a0 = some r) : Meets Tryz.prog 68 [wI a0] { vals := [.p (.bool r)] } := by
 refine mo Tryz.func68 [(0, .p (iV a0))] ?_
 unfold impl_isGraph_1_1 at h
 refine k_sreg (r_gq [(0, .p (iV a0))] [] trivial) ?_
 replace h := bs h
 obtain ⟨v1, hv1, h⟩ := h
 refine k_sreg (r_gq [(2, .p (.bool (!v1)))] [(1, {call := some (none, [.p (.bool v1)], true)})] (A1 (wk_impl_within hv1))) ?_
 refine k_ret ?_
 obtain rfl := oi h
 exact er [(.p (.bool (!v1)), 2)]
theorem wk_impl_isGraph_1 {a0 : (List Int)} {c0 : (List (List Int))}  {r : Bool} (h : impl_isGraph_1 a0 c0 = some r) : Meets Tryz.prog 66 [.d false [.sl none (a0.map eI)], .d false [.pt [.sl none (c0.map (eF eI))]]] { vals := [.p (.bool r)] } := by
 refine mo Tryz.func66 [(0, .d false [.sl none (a0.map eI)]), (1, .d false [.pt [.sl none (c0.map (eF eI))]])] ?_
 unfold impl_isGraph_1 at h
 refine k_sreg (r_gq [(0, .d false [.sl none (a0.map eI)]), (1, .d false [.pt [.sl none (c0.map (eF eI))]])] [] trivial) ?_
 replace h := bs h
 obtain ⟨w2, hw2, h⟩ := h
 refine k_sreg (l1 := [(3, .p (.bool w2))]) ?_ ?_
 ·clear h
  rcases ft ((a0.length : Int) != (c0.length : Int)) with ha0 | ha0
  ·replace hw2 := ite_t ha0 hw2
   have hw2 := oi hw2
   subst hw2
   exact (r_gq [(3, .p (.bool true))] [(1, {n := some a0.length}), (3, {n := some c0.length}), (6, gT), (7, gT), (8, bT)] (A5 (show (a0.map eI).length = a0.length from (List.length_map ..)) (show (c0.map (eF eI)).length = c0.length from (List.length_map ..)) ha0 ha0 ha0))
  ·replace hw2 := ite_f ha0 hw2
   replace hw2 := bs hw2
   obtain ⟨v1, hv1, hw2⟩ := hw2
   have hw2 := oi hw2
   subst hw2
   exact (r_gq [(3, .p (.bool v1))] [(1, {n := some a0.length}), (3, {n := some c0.length}), (6, gF), (7, {g := some false, call := some (none, [.p (.bool v1)], true)}), (8, bF)] (A6 (show (a0.map eI).length = a0.length from (List.length_map ..)) (show (c0.map (eF eI)).length = c0.length from (List.length_map ..)) ha0 ha0 (show Meets Tryz.prog 67 ([.d false [.sl none (a0.map eI)], .v (.func (.func 68) #[] #[])] ++ []) { vals := [.p (.bool v1)] } from (wk_slices_ContainsFunc_Lint_int_v (fun x0 y hy => wk_impl_isGraph_1_1 hy) hv1)) ha0))
 ·refine k_ret ?_
  obtain rfl := oi h
  exact er [(.p (.bool w2), 3)]
theorem wk_impl_isGraph {a0 : (List (List Int))}  {r : Bool} (h : impl_isGraph a0 = some r) : Meets Tryz.prog 43 [.d false [.sl none (a0.map (eF eI))]] { vals := [.p (.bool r)] } := by
 refine mo Tryz.func43 [(0, .d false [.sl none (a0.map (eF eI))])] ?_
 unfold impl_isGraph at h
 refine k_sreg (r_gq [(1, .box [.sl none (a0.map (eF eI))])] [] trivial) ?_
 refine k_frz 1 [.sl none (a0.map (eF eI))] [.sl none (a0.map (eF eI))] [(1, .d false [.pt [.sl none (a0.map (eF eI))]])] (by kernel_rfl) (erc_sl (eraL_enc (era_F er_I)) rfl) (by kernel_rfl) (by kernel_rfl) ?_
 replace h := bs h
 obtain ⟨v1, hv1, h⟩ := h
 replace h := bs h
 obtain ⟨w3, hw3, h⟩ := h
 refine k_sreg (l1 := [(2, .p (.bool w3))]) ?_ ?_
 ·clear h
  rcases ft v1 with ha0 | ha0
  ·replace hw3 := ite_t ha0 hw3
   replace hw3 := bs hw3
   obtain ⟨v2, hv2, hw3⟩ := hw3
   have hw3 := oi hw3
   subst hw3
   exact (r_gq [(2, .p (.bool (!v2)))] [(1, {n := some a0.length}), (2, {call := some (none, [.p (.bool v1)], true)}), (4, gT), (5, gT), (6, {g := some true, call := some (none, [.p (.bool v2)], true)}), (7, gT), (8, bT)] (B6 (show (a0.map (eF eI)).length = a0.length from (List.length_map ..)) (wk_impl_within hv1) ha0 ha0 ha0 (show Meets Tryz.prog 36 ([.d false [.sl none (a0.map (eF eI))], .d false [.fn 66 [(false, [.pt [.sl none (a0.map (eF eI))]])]]] ++ []) { vals := [.p (.bool v2)] } from (wk_slices_ContainsFunc_LLint_Lint_d (fun x0 y hy => wk_impl_isGraph_1 hy) hv2)) (A2 ha0 ha0)))
  ·replace hw3 := ite_f ha0 hw3
   have hw3 := oi hw3
   subst hw3
   exact (r_gq [(2, .p (.bool false))] [(1, {n := some a0.length}), (2, {call := some (none, [.p (.bool v1)], true)}), (4, gF), (5, gF), (6, gF), (7, gF), (8, bF)] (B6 (show (a0.map (eF eI)).length = a0.length from (List.length_map ..)) (wk_impl_within hv1) ha0 ha0 ha0 ha0 (A1 ha0)))
 ·refine k_ret ?_
  obtain rfl := oi h
  exact er [(.p (.bool w3), 2)]
theorem wk_impl_isWalk {a0 : (List (List Int))} {a1 : Int}  {r : Bool} (h : impl_isWalk a0 a1 = some r) : Meets Tryz.prog 19 [.d false [.sl none (a0.map (eF eI))], wI a1] { vals := [.p (.bool r)] } := by
 refine mo Tryz.func19 [(0, .d false [.sl none (a0.map (eF eI))]), (1, .p (iV a1))] ?_
 unfold impl_isWalk at h
 refine k_sreg (r_gq [(0, .d false [.sl none (a0.map (eF eI))]), (1, .p (iV a1))] [] trivial) ?_
 replace h := bs h
 obtain ⟨v1, hv1, h⟩ := h
 replace h := bs h
 obtain ⟨w3, hw3, h⟩ := h
 refine k_sreg (l1 := [(4, .p (.bool w3))]) ?_ ?_
 ·clear h
  rcases ft v1 with ha0 | ha0
  ·replace hw3 := ite_t ha0 hw3
   replace hw3 := bs hw3
   obtain ⟨v2, hv2, hw3⟩ := hw3
   have hw3 := oi hw3
   subst hw3
   exact (r_gq [(4, .p (.bool v2))] [(1, {call := some (none, [.p (.bool v1)], true)}), (3, gT), (4, {g := some true, call := some (none, [.p (.bool v2)], true)}), (5, bT)] (A5 (wk_impl_isGraph hv1) ha0 ha0 (wk_impl_within hv2) ha0))
  ·replace hw3 := ite_f ha0 hw3
   have hw3 := oi hw3
   subst hw3
   exact (r_gq [(4, .p (.bool false))] [(1, {call := some (none, [.p (.bool v1)], true)}), (3, gF), (4, gF), (5, bF)] (A4 (wk_impl_isGraph hv1) ha0 ha0 ha0))
 ·refine k_ret ?_
  obtain rfl := oi h
  exact er [(.p (.bool w3), 4)]
theorem wk_impl_emptyGraph {a0 : Int}  {r : (List (List Int))} (h : impl_emptyGraph a0 = some r) : Meets Tryz.prog 69 [wI a0] { vals := [.ov false [.sl (some 42) (r.map (eO 3 eI))]] } := by
 refine mo Tryz.func69 [(0, .p (iV a0))] ?_
 unfold impl_emptyGraph at h
 refine k_sreg (r_gq [(0, .p (iV a0))] [] trivial) ?_
 replace h := bs h
 obtain ⟨u1, hu1, h⟩ := h
 refine k_sreg (r_gq [(0, .p (iV a0)), (3, .ov false [.sl (some 42) ((List.replicate (Int.toNat a0) ([] : (List Int))).map (eO 3 eI))])] [(1, {fix := some (6, .ov false [.sl (some 42) ((List.replicate (Int.toNat a0) ([] : (List Int))).map (eO 3 eI))])})] (A4 (show a0 = a0 from rfl) (guardO_some hu1).1 (guardO_some hu1).2 (show (SV.ov false [.sl (some 42) (List.replicate (Int.toNat a0) [.sl (some 3) []])] : SV) = .ov false [.sl (some 42) ((List.replicate (Int.toNat a0) ([] : (List Int))).map (eO 3 eI))] from (congrArg (fun z => SV.ov false [.sl (some 42) z]) (rep_fix (eO 3 eI) ([] : (List Int))))))) ?_
 refine k_join (J := fun (x : (List (List Int))) => [(3, .ov false [.sl (some 42) (x.map (eO 3 eI))])]) (K := fun x => impl_emptyGraph_k1 x = some r) (fun x2 h => ?_) ?_
 ·unfold impl_emptyGraph_k1 at h
  refine k_sreg (r_gq [(2, .ov false [.sl (some 42) (x2.map (eO 3 eI))])] [] trivial) ?_
  refine k_ret ?_
  obtain rfl := oi h
  exact er [(.ov false [.sl (some 42) (x2.map (eO 3 eI))], 2)]
 ·refine k_sreg (r_gq [(0, .p (iV a0)), (3, .ov false [.sl (some 42) ((List.replicate (Int.toNat a0) ([] : (List Int))).map (eO 3 eI))]), (8, .p (iV ((List.replicate (Int.toNat a0) ([] : (List Int))).length : Int))), (9, .p (iV 0))] [(1, {n := some (List.replicate (Int.toNat a0) ([] : (List Int))).length})] (A1 (show ((List.replicate (Int.toNat a0) ([] : (List Int))).map (eO 3 eI)).length = (List.replicate (Int.toNat a0) ([] : (List Int))).length from (List.length_map ..)))) ?_
  refine k_block ?_
  obtain ⟨y4, hl_x3, hk_x3⟩ := bs h
  clear h
  refine k_loop (J := fun (x : ((List (List Int)) × Int)) => [(0, .p (iV a0)), (3, .ov false [.sl (some 42) (x.1.map (eO 3 eI))]), (8, .p (iV ((List.replicate (Int.toNat a0) ([] : (List Int))).length : Int))), (9, .p (iV x.2))]) hl_x3 (wk_of (by kernel_rfl) (by kernel_rfl)) (fun x3 o_x3 h hy_x3 => ?_)
  unfold impl_emptyGraph_b1 at h
  refine k_sreg (r_gq [(0, .p (iV a0)), (3, .ov false [.sl (some 42) (x3.1.map (eO 3 eI))]), (8, .p (iV ((List.replicate (Int.toNat a0) ([] : (List Int))).length : Int))), (9, .p (iV x3.2)), (10, .p (.bool (decide (x3.2 < ((List.replicate (Int.toNat a0) ([] : (List Int))).length : Int)))))] [] trivial) ?_
  refine k_seq ?_
  refine kc (decide (x3.2 < ((List.replicate (Int.toNat a0) ([] : (List Int))).length : Int))) (fun hc5_4 => ?_) (fun hc5_4 => ?_)
  ·replace h := ite_t hc5_4 h
   refine k_skip ?_
   refine q_n ?_
   refine k_seq ?_
   refine k_block ?_
   refine k_sreg (r_gq [(0, .p (iV a0)), (3, .ov false [.sl (some 42) (x3.1.map (eO 3 eI))]), (4, .p (iV x3.2)), (8, .p (iV ((List.replicate (Int.toNat a0) ([] : (List Int))).length : Int))), (9, .p (iV x3.2))] [] trivial) ?_
   replace h := bs h
   obtain ⟨v6, hv6, h⟩ := h
   refine k_reg (r_gq [(0, .p (iV a0)), (3, .ov false [.sl (some 42) ((x3.1.set (Int.toNat x3.2) (List.replicate (Int.toNat a0) (0 : Int))).map (eO 3 eI))]), (8, .p (iV ((List.replicate (Int.toNat a0) ([] : (List Int))).length : Int))), (9, .p (iV x3.2))] [(3, {fix := some (15, .ov false [.sl (some 3) ((List.replicate (Int.toNat a0) (0 : Int)).map eI)])}), (4, {row := some [.sl (some 3) (v6.map eI)]}), (5, {row := some [.sl (some 3) (v6.map eI)], fix := some (3, .ov false [.sl (some 42) ((x3.1.set (Int.toNat x3.2) (List.replicate (Int.toNat a0) (0 : Int))).map (eO 3 eI))])})] (B6 (show a0 = a0 from rfl) (guardO_some hu1).1 (guardO_some hu1).2 (show (SV.ov false [.sl (some 3) (List.replicate (Int.toNat a0) [rI 0])] : SV) = .ov false [.sl (some 3) ((List.replicate (Int.toNat a0) (0 : Int)).map eI)] from (congrArg (fun z => SV.ov false [.sl (some 3) z]) (rep_fix eI (0 : Int)))) (idxO_some hv6).1 (map_get (eO 3 eI) (idxO_some hv6).2) (A2 (show getRow [[.sl (some 42) (x3.1.map (eO 3 eI))]] [(0, 0), ((Int.toNat x3.2), 0)] = some [.sl (some 3) (v6.map eI)] from ((gr0 rfl).trans (gre (map_get (eO 3 eI) (idxO_some hv6).2)))) (show (SV.ov false [.sl (some 42) (setL (x3.1.map (eO 3 eI)) [((Int.toNat x3.2), 0)] [.sl (some 3) ((List.replicate (Int.toNat a0) (0 : Int)).map eI)])] : SV) = .ov false [.sl (some 42) ((x3.1.set (Int.toNat x3.2) (List.replicate (Int.toNat a0) (0 : Int))).map (eO 3 eI))] from (congrArg (fun z => SV.ov false [.sl (some 42) z]) (set1 (f := (eO 3 eI)) (y := (List.replicate (Int.toNat a0) (0 : Int))) (idxO_some hv6).2 rfl)))))) ?_
   refine b_n ?_
   refine q_n ?_
   refine k_reg (r_gq [(0, .p (iV a0)), (3, .ov false [.sl (some 42) ((x3.1.set (Int.toNat x3.2) (List.replicate (Int.toNat a0) (0 : Int))).map (eO 3 eI))]), (8, .p (iV ((List.replicate (Int.toNat a0) ([] : (List Int))).length : Int))), (9, .p (iV (w64 (x3.2 + 1))))] [] trivial) ?_
   exact lqn ((x3.1.set (Int.toNat x3.2) (List.replicate (Int.toNat a0) (0 : Int))), (w64 (x3.2 + 1))) h
  ·replace h := ite_f hc5_4 h
   refine k_exit ?_
   refine q_x ?_
   refine lq_x ?_
   refine b_x ?_
   have hyy := hy_x3 _ (oi h).symm
   subst hyy
   have h := hk_x3
   refine q_n ?_
   exact jx x3.1 h
theorem wk_impl_powerUpTo {a0 : (List (List Int))} {a1 : Int} {a2 : Int}  {r : (List (List Int))} (h : impl_powerUpTo a0 a1 a2 = some r) : Meets Tryz.prog 45 [.d false [.sl none (a0.map (eF eI))], wI a1, wI a2] { vals := [.ov false [.sl (some 42) (r.map (eO 3 eI))]] } := by
 refine mo Tryz.func45 [(0, .d false [.sl none (a0.map (eF eI))]), (1, .p (iV a1)), (2, .p (iV a2))] ?_
 unfold impl_powerUpTo at h
 refine k_sreg (r_gq [(0, .d false [.sl none (a0.map (eF eI))]), (1, .p (iV a1)), (2, .p (iV a2))] [] trivial) ?_
 replace h := bs h
 obtain ⟨v1, hv1, h⟩ := h
 refine k_sreg (r_gq [(0, .d false [.sl none (a0.map (eF eI))]), (1, .p (iV a1)), (2, .p (iV a2)), (7, .ov false [.sl (some 42) (v1.map (eO 3 eI))])] [(1, {n := some a0.length}), (2, {call := some (none, [.ov false [.sl (some 42) (v1.map (eO 3 eI))]], true)})] (A3 (show (a0.map (eF eI)).length = a0.length from (List.length_map ..)) (wk_impl_emptyGraph hv1) (show List.all [.ov false [.sl (some 42) (v1.map (eO 3 eI))]] simpleR = true from (sa_o (wnR1 (wnL_enc (wn_O wn_I)) rfl) rfl)))) ?_
 refine k_join (J := fun (x : (List (List Int))) => [(0, .d false [.sl none (a0.map (eF eI))]), (1, .p (iV a1)), (2, .p (iV a2)), (7, .ov false [.sl (some 42) (x.map (eO 3 eI))])]) (K := fun x => impl_powerUpTo_k1 a0 a1 a2 x = some r) (fun x2 h => ?_) ?_
 ·unfold impl_powerUpTo_k1 at h
  refine k_join (J := fun (x : (List (List Int))) => [(7, .ov false [.sl (some 42) (x.map (eO 3 eI))])]) (K := fun x => impl_powerUpTo_k2 x = some r) (fun x3 h => ?_) ?_
  ·unfold impl_powerUpTo_k2 at h
   refine k_sreg (r_gq [(6, .ov false [.sl (some 42) (x3.map (eO 3 eI))])] [] trivial) ?_
   refine k_ret ?_
   obtain rfl := oi h
   exact er [(.ov false [.sl (some 42) (x3.map (eO 3 eI))], 6)]
  ·refine k_sreg (r_gq [(0, .d false [.sl none (a0.map (eF eI))]), (2, .p (iV a2)), (7, .ov false [.sl (some 42) (x2.map (eO 3 eI))]), (31, .p (iV a1)), (32, .p (iV 0))] [] trivial) ?_
   refine k_block ?_
   obtain ⟨y5, hl_x4, hk_x4⟩ := bs h
   clear h
   refine k_loop (J := fun (x : ((List (List Int)) × Int)) => [(0, .d false [.sl none (a0.map (eF eI))]), (2, .p (iV a2)), (7, .ov false [.sl (some 42) (x.1.map (eO 3 eI))]), (31, .p (iV a1)), (32, .p (iV x.2))]) hl_x4 (wk_of (by kernel_rfl) (by kernel_rfl)) (fun x4 o_x4 h hy_x4 => ?_)
   unfold impl_powerUpTo_b1 at h
   refine k_sreg (r_gq [(0, .d false [.sl none (a0.map (eF eI))]), (2, .p (iV a2)), (7, .ov false [.sl (some 42) (x4.1.map (eO 3 eI))]), (31, .p (iV a1)), (32, .p (iV x4.2)), (33, .p (.bool (decide (x4.2 < a1))))] [] trivial) ?_
   refine k_seq ?_
   refine kc (decide (x4.2 < a1)) (fun hc5_5 => ?_) (fun hc5_5 => ?_)
   ·replace h := ite_t hc5_5 h
    refine k_skip ?_
    refine q_n ?_
    refine k_join (J := fun (x : (List (List Int))) => [(0, .d false [.sl none (a0.map (eF eI))]), (2, .p (iV a2)), (7, .ov false [.sl (some 42) (x.map (eO 3 eI))]), (31, .p (iV a1)), (32, .p (iV x4.2))]) (K := fun x => impl_powerUpTo_k3 x4 x = some o_x4) (fun x7 h => ?_) ?_
    ·unfold impl_powerUpTo_k3 at h
     refine k_reg (r_gq [(0, .d false [.sl none (a0.map (eF eI))]), (2, .p (iV a2)), (7, .ov false [.sl (some 42) (x7.map (eO 3 eI))]), (31, .p (iV a1)), (32, .p (iV (w64 (x4.2 + 1))))] [] trivial) ?_
     exact lqn (x7, (w64 (x4.2 + 1))) h
    ·refine k_block ?_
     replace h := bs h
     obtain ⟨v8, hv8, h⟩ := h
     refine k_sreg (r_gq [(0, .d false [.sl none (a0.map (eF eI))]), (2, .p (iV a2)), (7, .ov false [.sl (some 42) (x4.1.map (eO 3 eI))]), (9, .ov false [.sl (some 42) (v8.map (eO 3 eI))]), (31, .p (iV a1)), (32, .p (iV x4.2))] [(1, {n := some a0.length}), (2, {call := some (none, [.ov false [.sl (some 42) (v8.map (eO 3 eI))]], true)})] (A3 (show (a0.map (eF eI)).length = a0.length from (List.length_map ..)) (wk_impl_emptyGraph hv8) (show List.all [.ov false [.sl (some 42) (v8.map (eO 3 eI))]] simpleR = true from (sa_o (wnR1 (wnL_enc (wn_O wn_I)) rfl) rfl)))) ?_
     refine k_join (J := fun (x : (List (List Int))) => [(0, .d false [.sl none (a0.map (eF eI))]), (2, .p (iV a2)), (9, .ov false [.sl (some 42) (x.map (eO 3 eI))]), (31, .p (iV a1)), (32, .p (iV x4.2))]) (K := fun x => impl_powerUpTo_k4 x4 x = some o_x4) (fun x9 h => ?_) ?_
     ·unfold impl_powerUpTo_k4 at h
      refine k_reg (r_gq [(0, .d false [.sl none (a0.map (eF eI))]), (2, .p (iV a2)), (7, .ov false [.sl (some 42) (x9.map (eO 3 eI))]), (31, .p (iV a1)), (32, .p (iV x4.2))] [] trivial) ?_
      refine b_n ?_
      refine q_n ?_
      exact jx x9 h
     ·refine k_sreg (r_gq [(0, .d false [.sl none (a0.map (eF eI))]), (2, .p (iV a2)), (7, .ov false [.sl (some 42) (x4.1.map (eO 3 eI))]), (9, .ov false [.sl (some 42) (v8.map (eO 3 eI))]), (31, .p (iV a1)), (32, .p (iV x4.2)), (37, .ref 7 [(0, 0)] none), (38, .p (iV (x4.1.length : Int))), (39, .p (iV 0))] [(1, {n := some x4.1.length})] (A1 (show (x4.1.map (eO 3 eI)).length = x4.1.length from (List.length_map ..)))) ?_
      refine k_block ?_
      obtain ⟨y11, hl_x10, hk_x10⟩ := bs h
      clear h
      refine k_loop (J := fun (x : ((List (List Int)) × Int)) => [(0, .d false [.sl none (a0.map (eF eI))]), (2, .p (iV a2)), (7, .ov false [.sl (some 42) (x4.1.map (eO 3 eI))]), (9, .ov false [.sl (some 42) (x.1.map (eO 3 eI))]), (31, .p (iV a1)), (32, .p (iV x4.2)), (37, .ref 7 [(0, 0)] none), (38, .p (iV (x4.1.length : Int))), (39, .p (iV x.2))]) hl_x10 (wk_of (by kernel_rfl) (by kernel_rfl)) (fun x10 o_x10 h hy_x10 => ?_)
      unfold impl_powerUpTo_b2 at h
      refine k_sreg (r_gq [(0, .d false [.sl none (a0.map (eF eI))]), (2, .p (iV a2)), (7, .ov false [.sl (some 42) (x4.1.map (eO 3 eI))]), (9, .ov false [.sl (some 42) (x10.1.map (eO 3 eI))]), (31, .p (iV a1)), (32, .p (iV x4.2)), (37, .ref 7 [(0, 0)] none), (38, .p (iV (x4.1.length : Int))), (39, .p (iV x10.2)), (40, .p (.bool (decide (x10.2 < (x4.1.length : Int)))))] [] trivial) ?_
      refine k_seq ?_
      refine kc (decide (x10.2 < (x4.1.length : Int))) (fun hc10_11 => ?_) (fun hc10_11 => ?_)
      ·replace h := ite_t hc10_11 h
       refine k_skip ?_
       refine q_n ?_
       refine k_join (J := fun (x : (List (List Int))) => [(0, .d false [.sl none (a0.map (eF eI))]), (2, .p (iV a2)), (7, .ov false [.sl (some 42) (x4.1.map (eO 3 eI))]), (9, .ov false [.sl (some 42) (x.map (eO 3 eI))]), (31, .p (iV a1)), (32, .p (iV x4.2)), (37, .ref 7 [(0, 0)] none), (38, .p (iV (x4.1.length : Int))), (39, .p (iV x10.2))]) (K := fun x => impl_powerUpTo_k5 x10 x = some o_x10) (fun x13 h => ?_) ?_
       ·unfold impl_powerUpTo_k5 at h
        refine k_reg (r_gq [(0, .d false [.sl none (a0.map (eF eI))]), (2, .p (iV a2)), (7, .ov false [.sl (some 42) (x4.1.map (eO 3 eI))]), (9, .ov false [.sl (some 42) (x13.map (eO 3 eI))]), (31, .p (iV a1)), (32, .p (iV x4.2)), (37, .ref 7 [(0, 0)] none), (38, .p (iV (x4.1.length : Int))), (39, .p (iV (w64 (x10.2 + 1))))] [] trivial) ?_
        exact lqn (x13, (w64 (x10.2 + 1))) h
       ·refine k_block ?_
        replace h := bs h
        obtain ⟨v14, hv14, h⟩ := h
        refine k_sreg (r_gq [(0, .d false [.sl none (a0.map (eF eI))]), (2, .p (iV a2)), (7, .ov false [.sl (some 42) (x4.1.map (eO 3 eI))]), (9, .ov false [.sl (some 42) (x10.1.map (eO 3 eI))]), (10, .p (iV x10.2)), (11, .ref 7 [(0, 0), ((Int.toNat x10.2), 0)] none), (31, .p (iV a1)), (32, .p (iV x4.2)), (37, .ref 7 [(0, 0)] none), (38, .p (iV (x4.1.length : Int))), (39, .p (iV x10.2))] [(1, {row := some [.sl (some 3) (v14.map eI)]}), (2, {row := some [.sl (some 3) (v14.map eI)]})] (A4 (idxO_some hv14).1 (map_get (eO 3 eI) (idxO_some hv14).2) (show frR [.sl (some 3) (v14.map eI)] = false from rfl) (show getRow [[.sl (some 42) (x4.1.map (eO 3 eI))]] [(0, 0), ((Int.toNat x10.2), 0)] = some [.sl (some 3) (v14.map eI)] from ((gr0 rfl).trans (gre (map_get (eO 3 eI) (idxO_some hv14).2)))))) ?_
        refine k_sreg (r_gq [(0, .d false [.sl none (a0.map (eF eI))]), (2, .p (iV a2)), (7, .ov false [.sl (some 42) (x4.1.map (eO 3 eI))]), (9, .ov false [.sl (some 42) (x10.1.map (eO 3 eI))]), (10, .p (iV x10.2)), (31, .p (iV a1)), (32, .p (iV x4.2)), (37, .ref 7 [(0, 0)] none), (38, .p (iV (x4.1.length : Int))), (39, .p (iV x10.2)), (44, .ref 7 [(0, 0), ((Int.toNat x10.2), 0)] none), (45, .p (iV (v14.length : Int))), (46, .p (iV 0))] [(1, {deep := some [.sl (some 3) (v14.map eI)], n := some v14.length})] (A2 (show (v14.map eI).length = v14.length from (List.length_map ..)) (show getRow [[.sl (some 42) (x4.1.map (eO 3 eI))]] [(0, 0), ((Int.toNat x10.2), 0)] = some [.sl (some 3) (v14.map eI)] from ((gr0 rfl).trans (gre (map_get (eO 3 eI) (idxO_some hv14).2)))))) ?_
        refine k_block ?_
        obtain ⟨y16, hl_x15, hk_x15⟩ := bs h
        clear h
        refine k_loop (J := fun (x : ((List (List Int)) × Int)) => [(0, .d false [.sl none (a0.map (eF eI))]), (2, .p (iV a2)), (7, .ov false [.sl (some 42) (x4.1.map (eO 3 eI))]), (9, .ov false [.sl (some 42) (x.1.map (eO 3 eI))]), (10, .p (iV x10.2)), (31, .p (iV a1)), (32, .p (iV x4.2)), (37, .ref 7 [(0, 0)] none), (38, .p (iV (x4.1.length : Int))), (39, .p (iV x10.2)), (44, .ref 7 [(0, 0), ((Int.toNat x10.2), 0)] none), (45, .p (iV (v14.length : Int))), (46, .p (iV x.2))]) hl_x15 (wk_of (by kernel_rfl) (by kernel_rfl)) (fun x15 o_x15 h hy_x15 => ?_)
        unfold impl_powerUpTo_b3 at h
        refine k_sreg (r_gq [(0, .d false [.sl none (a0.map (eF eI))]), (2, .p (iV a2)), (7, .ov false [.sl (some 42) (x4.1.map (eO 3 eI))]), (9, .ov false [.sl (some 42) (x15.1.map (eO 3 eI))]), (10, .p (iV x10.2)), (31, .p (iV a1)), (32, .p (iV x4.2)), (37, .ref 7 [(0, 0)] none), (38, .p (iV (x4.1.length : Int))), (39, .p (iV x10.2)), (44, .ref 7 [(0, 0), ((Int.toNat x10.2), 0)] none), (45, .p (iV (v14.length : Int))), (46, .p (iV x15.2)), (47, .p (.bool (decide (x15.2 < (v14.length : Int)))))] [] trivial) ?_
        refine k_seq ?_
        refine kc (decide (x15.2 < (v14.length : Int))) (fun hc14_16 => ?_) (fun hc14_16 => ?_)
        ·replace h := ite_t hc14_16 h
         refine k_skip ?_
         refine q_n ?_
         refine k_join (J := fun (x : (List (List Int))) => [(0, .d false [.sl none (a0.map (eF eI))]), (2, .p (iV a2)), (7, .ov false [.sl (some 42) (x4.1.map (eO 3 eI))]), (9, .ov false [.sl (some 42) (x.map (eO 3 eI))]), (10, .p (iV x10.2)), (31, .p (iV a1)), (32, .p (iV x4.2)), (37, .ref 7 [(0, 0)] none), (38, .p (iV (x4.1.length : Int))), (39, .p (iV x10.2)), (44, .ref 7 [(0, 0), ((Int.toNat x10.2), 0)] none), (45, .p (iV (v14.length : Int))), (46, .p (iV x15.2))]) (K := fun x => impl_powerUpTo_k6 x15 x = some o_x15) (fun x18 h => ?_) ?_
         ·unfold impl_powerUpTo_k6 at h
          refine k_reg (r_gq [(0, .d false [.sl none (a0.map (eF eI))]), (2, .p (iV a2)), (7, .ov false [.sl (some 42) (x4.1.map (eO 3 eI))]), (9, .ov false [.sl (some 42) (x18.map (eO 3 eI))]), (10, .p (iV x10.2)), (31, .p (iV a1)), (32, .p (iV x4.2)), (37, .ref 7 [(0, 0)] none), (38, .p (iV (x4.1.length : Int))), (39, .p (iV x10.2)), (44, .ref 7 [(0, 0), ((Int.toNat x10.2), 0)] none), (45, .p (iV (v14.length : Int))), (46, .p (iV (w64 (x15.2 + 1))))] [] trivial) ?_
          exact lqn (x18, (w64 (x15.2 + 1))) h
         ·refine k_block ?_
          replace h := bs h
          obtain ⟨v19, hv19, h⟩ := h
          refine k_sreg (r_gq [(0, .d false [.sl none (a0.map (eF eI))]), (2, .p (iV a2)), (7, .ov false [.sl (some 42) (x4.1.map (eO 3 eI))]), (9, .ov false [.sl (some 42) (x15.1.map (eO 3 eI))]), (10, .p (iV x10.2)), (12, .p (iV x15.2)), (13, .p (iV v19)), (31, .p (iV a1)), (32, .p (iV x4.2)), (37, .ref 7 [(0, 0)] none), (38, .p (iV (x4.1.length : Int))), (39, .p (iV x10.2)), (44, .ref 7 [(0, 0), ((Int.toNat x10.2), 0)] none), (45, .p (iV (v14.length : Int))), (46, .p (iV x15.2))] [(1, {deep := some [.sl (some 3) (v14.map eI)], row := some (eI v19)}), (2, {row := some (eI v19)})] (A4 (idxO_some hv19).1 (map_get eI (idxO_some hv19).2) (show getRow [[.sl (some 42) (x4.1.map (eO 3 eI))]] [(0, 0), ((Int.toNat x10.2), 0)] = some [.sl (some 3) (v14.map eI)] from ((gr0 rfl).trans (gre (map_get (eO 3 eI) (idxO_some hv14).2)))) (show getRow [[.sl (some 42) (x4.1.map (eO 3 eI))]] [(0, 0), ((Int.toNat x10.2), 0), ((Int.toNat x15.2), 0)] = some (eI v19) from ((gr0 rfl).trans ((grs (map_get (eO 3 eI) (idxO_some hv14).2) rfl).trans (gre (map_get eI (idxO_some hv19).2))))))) ?_
          replace h := bs h
          obtain ⟨v20, hv20, h⟩ := h
          refine k_sreg (r_gq [(0, .d false [.sl none (a0.map (eF eI))]), (2, .p (iV a2)), (7, .ov false [.sl (some 42) (x4.1.map (eO 3 eI))]), (9, .ov false [.sl (some 42) (x15.1.map (eO 3 eI))]), (10, .p (iV x10.2)), (13, .p (iV v19)), (31, .p (iV a1)), (32, .p (iV x4.2)), (37, .ref 7 [(0, 0)] none), (38, .p (iV (x4.1.length : Int))), (39, .p (iV x10.2)), (44, .ref 7 [(0, 0), ((Int.toNat x10.2), 0)] none), (45, .p (iV (v14.length : Int))), (46, .p (iV x15.2)), (54, .d false [.sl none (v20.map eI)]), (55, .p (iV (v20.length : Int))), (56, .p (iV 0))] [(2, {row := some [.sl none (v20.map eI)]}), (4, {n := some v20.length})] (A3 (idxO_some hv20).1 (map_get (eF eI) (idxO_some hv20).2) (show (v20.map eI).length = v20.length from (List.length_map ..)))) ?_
          refine k_block ?_
          obtain ⟨y22, hl_x21, hk_x21⟩ := bs h
          clear h
          refine k_loop (J := fun (x : ((List (List Int)) × Int)) => [(0, .d false [.sl none (a0.map (eF eI))]), (2, .p (iV a2)), (7, .ov false [.sl (some 42) (x4.1.map (eO 3 eI))]), (9, .ov false [.sl (some 42) (x.1.map (eO 3 eI))]), (10, .p (iV x10.2)), (13, .p (iV v19)), (31, .p (iV a1)), (32, .p (iV x4.2)), (37, .ref 7 [(0, 0)] none), (38, .p (iV (x4.1.length : Int))), (39, .p (iV x10.2)), (44, .ref 7 [(0, 0), ((Int.toNat x10.2), 0)] none), (45, .p (iV (v14.length : Int))), (46, .p (iV x15.2)), (54, .d false [.sl none (v20.map eI)]), (55, .p (iV (v20.length : Int))), (56, .p (iV x.2))]) hl_x21 (wk_of (by kernel_rfl) (by kernel_rfl)) (fun x21 o_x21 h hy_x21 => ?_)
          unfold impl_powerUpTo_b4 at h
          refine k_sreg (r_gq [(0, .d false [.sl none (a0.map (eF eI))]), (2, .p (iV a2)), (7, .ov false [.sl (some 42) (x4.1.map (eO 3 eI))]), (9, .ov false [.sl (some 42) (x21.1.map (eO 3 eI))]), (10, .p (iV x10.2)), (13, .p (iV v19)), (31, .p (iV a1)), (32, .p (iV x4.2)), (37, .ref 7 [(0, 0)] none), (38, .p (iV (x4.1.length : Int))), (39, .p (iV x10.2)), (44, .ref 7 [(0, 0), ((Int.toNat x10.2), 0)] none), (45, .p (iV (v14.length : Int))), (46, .p (iV x15.2)), (54, .d false [.sl none (v20.map eI)]), (55, .p (iV (v20.length : Int))), (56, .p (iV x21.2)), (57, .p (.bool (decide (x21.2 < (v20.length : Int)))))] [] trivial) ?_
          refine k_seq ?_
          refine kc (decide (x21.2 < (v20.length : Int))) (fun hc18_22 => ?_) (fun hc18_22 => ?_)
          ·replace h := ite_t hc18_22 h
           refine k_skip ?_
           refine q_n ?_
           refine k_seq ?_
           refine k_block ?_
           replace h := bs h
           obtain ⟨v24, hv24, h⟩ := h
           refine k_sreg (r_gq [(0, .d false [.sl none (a0.map (eF eI))]), (2, .p (iV a2)), (7, .ov false [.sl (some 42) (x4.1.map (eO 3 eI))]), (9, .ov false [.sl (some 42) (x21.1.map (eO 3 eI))]), (10, .p (iV x10.2)), (13, .p (iV v19)), (14, .p (iV x21.2)), (15, .p (iV v24)), (31, .p (iV a1)), (32, .p (iV x4.2)), (37, .ref 7 [(0, 0)] none), (38, .p (iV (x4.1.length : Int))), (39, .p (iV x10.2)), (44, .ref 7 [(0, 0), ((Int.toNat x10.2), 0)] none), (45, .p (iV (v14.length : Int))), (46, .p (iV x15.2)), (54, .d false [.sl none (v20.map eI)]), (55, .p (iV (v20.length : Int))), (56, .p (iV x21.2))] [(1, {row := some (eI v24)})] (A2 (idxO_some hv24).1 (map_get eI (idxO_some hv24).2))) ?_
           replace h := bs h
           obtain ⟨v25, hv25, h⟩ := h
           replace h := bs h
           obtain ⟨v26, hv26, h⟩ := h
           refine k_reg (r_dq Tryz_mixed 18 [] [(0, .d false [.sl none (a0.map (eF eI))]), (2, .p (iV a2)), (7, .ov false [.sl (some 42) (x4.1.map (eO 3 eI))]), (9, .ov false [.sl (some 42) ((x21.1.set (Int.toNat x10.2) (v25.set (Int.toNat x21.2) (if a2 < (w64 (v26 + (w64 (v19 * v24)))) then a2 else (w64 (v26 + (w64 (v19 * v24))))))).map (eO 3 eI))]), (10, .p (iV x10.2)), (13, .p (iV v19)), (31, .p (iV a1)), (32, .p (iV x4.2)), (37, .ref 7 [(0, 0)] none), (38, .p (iV (x4.1.length : Int))), (39, .p (iV x10.2)), (44, .ref 7 [(0, 0), ((Int.toNat x10.2), 0)] none), (45, .p (iV (v14.length : Int))), (46, .p (iV x15.2)), (54, .d false [.sl none (v20.map eI)]), (55, .p (iV (v20.length : Int))), (56, .p (iV x21.2))] [(2, {row := some [.sl (some 3) (v25.map eI)]}), (3, {row := some [.sl (some 3) (v25.map eI)]}), (7, {row := some [.sl (some 3) (v25.map eI)]}), (8, {row := some [.sl (some 3) (v25.map eI)]}), (10, {deep := some [.sl (some 3) (v25.map eI)], row := some (eI v26)}), (11, {row := some (eI v26)}), (18, {deep := some [.sl (some 3) (v25.map eI)], row := some (eI v26)}), (19, {row := some (eI v26), fix := some (9, .ov false [.sl (some 42) ((x21.1.set (Int.toNat x10.2) (v25.set (Int.toNat x21.2) (if a2 < (w64 (v26 + (w64 (v19 * v24)))) then a2 else (w64 (v26 + (w64 (v19 * v24))))))).map (eO 3 eI))])})] (B6 (idxO_some hv25).1 (map_get (eO 3 eI) (idxO_some hv25).2) (show frR [.sl (some 3) (v25.map eI)] = false from rfl) (show getRow [[.sl (some 42) (x21.1.map (eO 3 eI))]] [(0, 0), ((Int.toNat x10.2), 0)] = some [.sl (some 3) (v25.map eI)] from ((gr0 rfl).trans (gre (map_get (eO 3 eI) (idxO_some hv25).2)))) (idxO_some hv25).1 (map_get (eO 3 eI) (idxO_some hv25).2) (B6 (show frR [.sl (some 3) (v25.map eI)] = false from rfl) (show getRow [[.sl (some 42) (x21.1.map (eO 3 eI))]] [(0, 0), ((Int.toNat x10.2), 0)] = some [.sl (some 3) (v25.map eI)] from ((gr0 rfl).trans (gre (map_get (eO 3 eI) (idxO_some hv25).2)))) (idxO_some hv26).1 (map_get eI (idxO_some hv26).2) (show getRow [[.sl (some 42) (x21.1.map (eO 3 eI))]] [(0, 0), ((Int.toNat x10.2), 0)] = some [.sl (some 3) (v25.map eI)] from ((gr0 rfl).trans (gre (map_get (eO 3 eI) (idxO_some hv25).2)))) (show getRow [[.sl (some 42) (x21.1.map (eO 3 eI))]] [(0, 0), ((Int.toNat x10.2), 0), ((Int.toNat x21.2), 0)] = some (eI v26) from ((gr0 rfl).trans ((grs (map_get (eO 3 eI) (idxO_some hv25).2) rfl).trans (gre (map_get eI (idxO_some hv26).2))))) (A5 (idxO_some hv26).1 (map_get eI (idxO_some hv26).2) (show getRow [[.sl (some 42) (x21.1.map (eO 3 eI))]] [(0, 0), ((Int.toNat x10.2), 0)] = some [.sl (some 3) (v25.map eI)] from ((gr0 rfl).trans (gre (map_get (eO 3 eI) (idxO_some hv25).2)))) (show getRow [[.sl (some 42) (x21.1.map (eO 3 eI))]] [(0, 0), ((Int.toNat x10.2), 0), ((Int.toNat x21.2), 0)] = some (eI v26) from ((gr0 rfl).trans ((grs (map_get (eO 3 eI) (idxO_some hv25).2) rfl).trans (gre (map_get eI (idxO_some hv26).2))))) (show (SV.ov false [.sl (some 42) (setL (x21.1.map (eO 3 eI)) [((Int.toNat x10.2), 0), ((Int.toNat x21.2), 0)] [rI (if a2 < (w64 (v26 + (w64 (v19 * v24)))) then a2 else (w64 (v26 + (w64 (v19 * v24)))))])] : SV) = .ov false [.sl (some 42) ((x21.1.set (Int.toNat x10.2) (v25.set (Int.toNat x21.2) (if a2 < (w64 (v26 + (w64 (v19 * v24)))) then a2 else (w64 (v26 + (w64 (v19 * v24))))))).map (eO 3 eI))] from (congrArg (fun z => SV.ov false [.sl (some 42) z]) (set2 (f := (eO 3 eI)) (y := (v25.set (Int.toNat x21.2) (if a2 < (w64 (v26 + (w64 (v19 * v24)))) then a2 else (w64 (v26 + (w64 (v19 * v24))))))) (idxO_some hv25).2 rfl (set1 (f := eI) (y := (if a2 < (w64 (v26 + (w64 (v19 * v24)))) then a2 else (w64 (v26 + (w64 (v19 * v24)))))) (idxO_some hv26).2 rfl) rfl))))))) ?_
           refine b_n ?_
           refine q_n ?_
           refine k_reg (r_gq [(0, .d false [.sl none (a0.map (eF eI))]), (2, .p (iV a2)), (7, .ov false [.sl (some 42) (x4.1.map (eO 3 eI))]), (9, .ov false [.sl (some 42) ((x21.1.set (Int.toNat x10.2) (v25.set (Int.toNat x21.2) (if a2 < (w64 (v26 + (w64 (v19 * v24)))) then a2 else (w64 (v26 + (w64 (v19 * v24))))))).map (eO 3 eI))]), (10, .p (iV x10.2)), (13, .p (iV v19)), (31, .p (iV a1)), (32, .p (iV x4.2)), (37, .ref 7 [(0, 0)] none), (38, .p (iV (x4.1.length : Int))), (39, .p (iV x10.2)), (44, .ref 7 [(0, 0), ((Int.toNat x10.2), 0)] none), (45, .p (iV (v14.length : Int))), (46, .p (iV x15.2)), (54, .d false [.sl none (v20.map eI)]), (55, .p (iV (v20.length : Int))), (56, .p (iV (w64 (x21.2 + 1))))] [] trivial) ?_
           exact lqn ((x21.1.set (Int.toNat x10.2) (v25.set (Int.toNat x21.2) (if a2 < (w64 (v26 + (w64 (v19 * v24)))) then a2 else (w64 (v26 + (w64 (v19 * v24))))))), (w64 (x21.2 + 1))) h
          ·replace h := ite_f hc18_22 h
           refine k_exit ?_
           refine q_x ?_
           refine lq_x ?_
           refine b_x ?_
           refine b_n ?_
           have hyy := hy_x21 _ (oi h).symm
           subst hyy
           have h := hk_x21
           refine q_n ?_
           exact jx x21.1 h
        ·replace h := ite_f hc14_16 h
         refine k_exit ?_
         refine q_x ?_
         refine lq_x ?_
         refine b_x ?_
         refine b_n ?_
         have hyy := hy_x15 _ (oi h).symm
         subst hyy
         have h := hk_x15
         refine q_n ?_
         exact jx x15.1 h
      ·replace h := ite_f hc10_11 h
       refine k_exit ?_
       refine q_x ?_
       refine lq_x ?_
       refine b_x ?_
       have hyy := hy_x10 _ (oi h).symm
       subst hyy
       have h := hk_x10
       refine q_n ?_
       exact jx x10.1 h
   ·replace h := ite_f hc5_5 h
    refine k_exit ?_
    refine q_x ?_
    refine lq_x ?_
    refine b_x ?_
    have hyy := hy_x4 _ (oi h).symm
    subst hyy
    have h := hk_x4
    refine q_n ?_
    exact jx x4.1 h
 ·refine k_sreg (r_gq [(0, .d false [.sl none (a0.map (eF eI))]), (1, .p (iV a1)), (2, .p (iV a2)), (7, .ov false [.sl (some 42) (v1.map (eO 3 eI))]), (20, .p (iV (v1.length : Int))), (21, .p (iV 0))] [(1, {n := some v1.length})] (A1 (show (v1.map (eO 3 eI)).length = v1.length from (List.length_map ..)))) ?_
  refine k_block ?_
  obtain ⟨y28, hl_x27, hk_x27⟩ := bs h
  clear h
  refine k_loop (J := fun (x : ((List (List Int)) × Int)) => [(0, .d false [.sl none (a0.map (eF eI))]), (1, .p (iV a1)), (2, .p (iV a2)), (7, .ov false [.sl (some 42) (x.1.map (eO 3 eI))]), (20, .p (iV (v1.length : Int))), (21, .p (iV x.2))]) hl_x27 (wk_of (by kernel_rfl) (by kernel_rfl)) (fun x27 o_x27 h hy_x27 => ?_)
  unfold impl_powerUpTo_b5 at h
  refine k_sreg (r_gq [(0, .d false [.sl none (a0.map (eF eI))]), (1, .p (iV a1)), (2, .p (iV a2)), (7, .ov false [.sl (some 42) (x27.1.map (eO 3 eI))]), (20, .p (iV (v1.length : Int))), (21, .p (iV x27.2)), (22, .p (.bool (decide (x27.2 < (v1.length : Int)))))] [] trivial) ?_
  refine k_seq ?_
  refine kc (decide (x27.2 < (v1.length : Int))) (fun hc5_28 => ?_) (fun hc5_28 => ?_)
  ·replace h := ite_t hc5_28 h
   refine k_skip ?_
   refine q_n ?_
   refine k_seq ?_
   refine k_block ?_
   refine k_sreg (r_gq [(0, .d false [.sl none (a0.map (eF eI))]), (1, .p (iV a1)), (2, .p (iV a2)), (7, .ov false [.sl (some 42) (x27.1.map (eO 3 eI))]), (8, .p (iV x27.2)), (20, .p (iV (v1.length : Int))), (21, .p (iV x27.2))] [] trivial) ?_
   replace h := bs h
   obtain ⟨v30, hv30, h⟩ := h
   replace h := bs h
   obtain ⟨v31, hv31, h⟩ := h
   refine k_reg (r_gq [(0, .d false [.sl none (a0.map (eF eI))]), (1, .p (iV a1)), (2, .p (iV a2)), (7, .ov false [.sl (some 42) ((x27.1.set (Int.toNat x27.2) (v30.set (Int.toNat x27.2) 1)).map (eO 3 eI))]), (20, .p (iV (v1.length : Int))), (21, .p (iV x27.2))] [(2, {row := some [.sl (some 3) (v30.map eI)]}), (3, {row := some [.sl (some 3) (v30.map eI)]}), (5, {deep := some [.sl (some 3) (v30.map eI)], row := some (eI v31)}), (6, {row := some (eI v31), fix := some (7, .ov false [.sl (some 42) ((x27.1.set (Int.toNat x27.2) (v30.set (Int.toNat x27.2) 1)).map (eO 3 eI))])})] (B6 (idxO_some hv30).1 (map_get (eO 3 eI) (idxO_some hv30).2) (show frR [.sl (some 3) (v30.map eI)] = false from rfl) (show getRow [[.sl (some 42) (x27.1.map (eO 3 eI))]] [(0, 0), ((Int.toNat x27.2), 0)] = some [.sl (some 3) (v30.map eI)] from ((gr0 rfl).trans (gre (map_get (eO 3 eI) (idxO_some hv30).2)))) (idxO_some hv31).1 (map_get eI (idxO_some hv31).2) (A3 (show getRow [[.sl (some 42) (x27.1.map (eO 3 eI))]] [(0, 0), ((Int.toNat x27.2), 0)] = some [.sl (some 3) (v30.map eI)] from ((gr0 rfl).trans (gre (map_get (eO 3 eI) (idxO_some hv30).2)))) (show getRow [[.sl (some 42) (x27.1.map (eO 3 eI))]] [(0, 0), ((Int.toNat x27.2), 0), ((Int.toNat x27.2), 0)] = some (eI v31) from ((gr0 rfl).trans ((grs (map_get (eO 3 eI) (idxO_some hv30).2) rfl).trans (gre (map_get eI (idxO_some hv31).2))))) (show (SV.ov false [.sl (some 42) (setL (x27.1.map (eO 3 eI)) [((Int.toNat x27.2), 0), ((Int.toNat x27.2), 0)] [rI 1])] : SV) = .ov false [.sl (some 42) ((x27.1.set (Int.toNat x27.2) (v30.set (Int.toNat x27.2) 1)).map (eO 3 eI))] from (congrArg (fun z => SV.ov false [.sl (some 42) z]) (set2 (f := (eO 3 eI)) (y := (v30.set (Int.toNat x27.2) 1)) (idxO_some hv30).2 rfl (set1 (f := eI) (y := 1) (idxO_some hv31).2 rfl) rfl)))))) ?_
   refine b_n ?_
   refine q_n ?_
   refine k_reg (r_gq [(0, .d false [.sl none (a0.map (eF eI))]), (1, .p (iV a1)), (2, .p (iV a2)), (7, .ov false [.sl (some 42) ((x27.1.set (Int.toNat x27.2) (v30.set (Int.toNat x27.2) 1)).map (eO 3 eI))]), (20, .p (iV (v1.length : Int))), (21, .p (iV (w64 (x27.2 + 1))))] [] trivial) ?_
   exact lqn ((x27.1.set (Int.toNat x27.2) (v30.set (Int.toNat x27.2) 1)), (w64 (x27.2 + 1))) h
  ·replace h := ite_f hc5_28 h
   refine k_exit ?_
   refine q_x ?_
   refine lq_x ?_
   refine b_x ?_
   have hyy := hy_x27 _ (oi h).symm
   subst hyy
   have h := hk_x27
   refine q_n ?_
   exact jx x27.1 h
theorem wk_impl_power {a0 : (List (List Int))} {a1 : Int}  {r : (List (List Int))} (h : impl_power a0 a1 = some r) : Meets Tryz.prog 20 [.d false [.sl none (a0.map (eF eI))], wI a1] { vals := [.ov false [.sl (some 42) (r.map (eO 3 eI))]] } := by
 refine mo Tryz.func20 [(0, .d false [.sl none (a0.map (eF eI))]), (1, .p (iV a1))] ?_
 unfold impl_power at h
 refine k_sreg (r_gq [(0, .d false [.sl none (a0.map (eF eI))]), (1, .p (iV a1))] [] trivial) ?_
 replace h := bs h
 obtain ⟨v1, hv1, h⟩ := h
 refine k_sreg (r_gq [(4, .ov false [.sl (some 42) (v1.map (eO 3 eI))])] [(2, {call := some (none, [.ov false [.sl (some 42) (v1.map (eO 3 eI))]], true)})] (A2 (wk_impl_powerUpTo hv1) (show List.all [.ov false [.sl (some 42) (v1.map (eO 3 eI))]] simpleR = true from (sa_o (wnR1 (wnL_enc (wn_O wn_I)) rfl) rfl)))) ?_
 refine k_ret ?_
 obtain rfl := oi h
 exact er [(.ov false [.sl (some 42) (v1.map (eO 3 eI))], 4)]
theorem wk_impl_TotalWalks {a0 : (List (List Int))} {a1 : Int}  {r : (Int × Bool)} (h : impl_TotalWalks a0 a1 = some r) : Meets Tryz.prog 5 [.d false [.sl none (a0.map (eF eI))], wI a1] { vals := [.p (iV r.1), .p (.bool r.2)] } := by
 refine mo Tryz.func5 [(0, .d false [.sl none (a0.map (eF eI))]), (1, .p (iV a1))] ?_
 unfold impl_TotalWalks at h
 refine k_sreg (r_gq [(0, .d false [.sl none (a0.map (eF eI))]), (1, .p (iV a1))] [] trivial) ?_
 refine k_seq ?_
 replace h := bs h
 obtain ⟨v1, hv1, h⟩ := h
 refine k_sreg (r_gq [(0, .d false [.sl none (a0.map (eF eI))]), (1, .p (iV a1)), (14, .p (.bool (!v1)))] [(2, {call := some (none, [.p (.bool v1)], true)})] (A1 (wk_impl_isWalk hv1))) ?_
 refine kc (!v1) (fun hc2_1 => ?_) (fun hc2_1 => ?_)
 ·replace h := ite_t hc2_1 h
  refine k_sreg (r_gq [(4, .p (iV 0)), (5, .p (.bool false))] [] trivial) ?_
  refine k_ret ?_
  refine q_r ?_
  obtain rfl := oi h
  exact er [(.p (iV 0), 4), (.p (.bool false), 5)]
 ·replace h := ite_f hc2_1 h
  refine k_skip ?_
  refine q_n ?_
  refine k_sreg (r_gq [(0, .d false [.sl none (a0.map (eF eI))]), (1, .p (iV a1)), (6, .p (iV 0))] [] trivial) ?_
  refine k_join (J := fun (x : Int) => [(6, .p (iV x))]) (K := fun x => impl_TotalWalks_k1 x = some r) (fun x3 h => ?_) ?_
  ·unfold impl_TotalWalks_k1 at h
   refine k_seq ?_
   refine k_sreg (r_gq [(6, .p (iV x3)), (35, .p (.bool (decide (x3 > 1000000000))))] [] trivial) ?_
   refine kc (decide (x3 > 1000000000)) (fun hc2_3 => ?_) (fun hc2_3 => ?_)
   ·replace h := ite_t hc2_3 h
    refine k_sreg (r_gq [(4, .p (iV 0)), (5, .p (.bool false))] [] trivial) ?_
    refine k_ret ?_
    refine q_r ?_
    obtain rfl := oi h
    exact er [(.p (iV 0), 4), (.p (.bool false), 5)]
   ·replace h := ite_f hc2_3 h
    refine k_skip ?_
    refine q_n ?_
    refine k_sreg (r_gq [(4, .p (iV x3)), (5, .p (.bool true))] [] trivial) ?_
    refine k_ret ?_
    obtain rfl := oi h
    exact er [(.p (iV x3), 4), (.p (.bool true), 5)]
  ·replace h := bs h
   obtain ⟨v5, hv5, h⟩ := h
   refine k_sreg (r_gq [(6, .p (iV 0)), (17, .ov false [.sl (some 42) (v5.map (eO 3 eI))]), (18, .p (iV (v5.length : Int))), (19, .p (iV 0))] [(2, {call := some (none, [.ov false [.sl (some 42) (v5.map (eO 3 eI))]], true)}), (3, {n := some v5.length})] (A3 (wk_impl_power hv5) (show List.all [.ov false [.sl (some 42) (v5.map (eO 3 eI))]] simpleR = true from (sa_o (wnR1 (wnL_enc (wn_O wn_I)) rfl) rfl)) (show (v5.map (eO 3 eI)).length = v5.length from (List.length_map ..)))) ?_
   refine k_block ?_
   obtain ⟨y7, hl_x6, hk_x6⟩ := bs h
   clear h
   refine k_loop (J := fun (x : Qr) => [(6, .p (iV x.1)), (17, .ov false [.sl (some 42) (v5.map (eO 3 eI))]), (18, .p (iV (v5.length : Int))), (19, .p (iV x.2))]) hl_x6 (wk_of (by kernel_rfl) (by kernel_rfl)) (fun x6 o_x6 h hy_x6 => ?_)
   unfold impl_TotalWalks_b1 at h
   refine k_sreg (r_gq [(6, .p (iV x6.1)), (17, .ov false [.sl (some 42) (v5.map (eO 3 eI))]), (18, .p (iV (v5.length : Int))), (19, .p (iV x6.2)), (20, .p (.bool (decide (x6.2 < (v5.length : Int)))))] [] trivial) ?_
   refine k_seq ?_
   refine kc (decide (x6.2 < (v5.length : Int))) (fun hc5_7 => ?_) (fun hc5_7 => ?_)
   ·replace h := ite_t hc5_7 h
    refine k_skip ?_
    refine q_n ?_
    refine k_join (J := fun (x : Int) => [(6, .p (iV x)), (17, .ov false [.sl (some 42) (v5.map (eO 3 eI))]), (18, .p (iV (v5.length : Int))), (19, .p (iV x6.2))]) (K := fun x => impl_TotalWalks_k2 x6 x = some o_x6) (fun x9 h => ?_) ?_
    ·unfold impl_TotalWalks_k2 at h
     refine k_reg (r_gq [(6, .p (iV x9)), (17, .ov false [.sl (some 42) (v5.map (eO 3 eI))]), (18, .p (iV (v5.length : Int))), (19, .p (iV (w64 (x6.2 + 1))))] [] trivial) ?_
     exact lqn (x9, (w64 (x6.2 + 1))) h
    ·refine k_block ?_
     replace h := bs h
     obtain ⟨v10, hv10, h⟩ := h
     refine k_sreg (r_gq [(6, .p (iV x6.1)), (8, .ref 17 [(0, 0), ((Int.toNat x6.2), 0)] none), (17, .ov false [.sl (some 42) (v5.map (eO 3 eI))]), (18, .p (iV (v5.length : Int))), (19, .p (iV x6.2))] [(0, {row := some [.sl (some 3) (v10.map eI)]}), (1, {row := some [.sl (some 3) (v10.map eI)]})] (A4 (idxO_some hv10).1 (map_get (eO 3 eI) (idxO_some hv10).2) (show frR [.sl (some 3) (v10.map eI)] = false from rfl) (show getRow [[.sl (some 42) (v5.map (eO 3 eI))]] [(0, 0), ((Int.toNat x6.2), 0)] = some [.sl (some 3) (v10.map eI)] from ((gr0 rfl).trans (gre (map_get (eO 3 eI) (idxO_some hv10).2)))))) ?_
     refine k_sreg (r_gq [(6, .p (iV x6.1)), (17, .ov false [.sl (some 42) (v5.map (eO 3 eI))]), (18, .p (iV (v5.length : Int))), (19, .p (iV x6.2)), (23, .ref 17 [(0, 0), ((Int.toNat x6.2), 0)] none), (24, .p (iV (v10.length : Int))), (25, .p (iV 0))] [(1, {deep := some [.sl (some 3) (v10.map eI)], n := some v10.length})] (A2 (show (v10.map eI).length = v10.length from (List.length_map ..)) (show getRow [[.sl (some 42) (v5.map (eO 3 eI))]] [(0, 0), ((Int.toNat x6.2), 0)] = some [.sl (some 3) (v10.map eI)] from ((gr0 rfl).trans (gre (map_get (eO 3 eI) (idxO_some hv10).2)))))) ?_
     refine k_block ?_
     obtain ⟨y12, hl_x11, hk_x11⟩ := bs h
     clear h
     refine k_loop (J := fun (x : Qr) => [(6, .p (iV x.1)), (17, .ov false [.sl (some 42) (v5.map (eO 3 eI))]), (18, .p (iV (v5.length : Int))), (19, .p (iV x6.2)), (23, .ref 17 [(0, 0), ((Int.toNat x6.2), 0)] none), (24, .p (iV (v10.length : Int))), (25, .p (iV x.2))]) hl_x11 (wk_of (by kernel_rfl) (by kernel_rfl)) (fun x11 o_x11 h hy_x11 => ?_)
     unfold impl_TotalWalks_b2 at h
     refine k_sreg (r_gq [(6, .p (iV x11.1)), (17, .ov false [.sl (some 42) (v5.map (eO 3 eI))]), (18, .p (iV (v5.length : Int))), (19, .p (iV x6.2)), (23, .ref 17 [(0, 0), ((Int.toNat x6.2), 0)] none), (24, .p (iV (v10.length : Int))), (25, .p (iV x11.2)), (26, .p (.bool (decide (x11.2 < (v10.length : Int)))))] [] trivial) ?_
     refine k_seq ?_
     refine kc (decide (x11.2 < (v10.length : Int))) (fun hc9_12 => ?_) (fun hc9_12 => ?_)
     ·replace h := ite_t hc9_12 h
      refine k_skip ?_
      refine q_n ?_
      refine k_seq ?_
      refine k_block ?_
      replace h := bs h
      obtain ⟨v14, hv14, h⟩ := h
      refine k_sreg (r_gq [(6, .p (iV x11.1)), (10, .p (iV v14)), (17, .ov false [.sl (some 42) (v5.map (eO 3 eI))]), (18, .p (iV (v5.length : Int))), (19, .p (iV x6.2)), (23, .ref 17 [(0, 0), ((Int.toNat x6.2), 0)] none), (24, .p (iV (v10.length : Int))), (25, .p (iV x11.2))] [(0, {deep := some [.sl (some 3) (v10.map eI)], row := some (eI v14)}), (1, {row := some (eI v14)})] (A4 (idxO_some hv14).1 (map_get eI (idxO_some hv14).2) (show getRow [[.sl (some 42) (v5.map (eO 3 eI))]] [(0, 0), ((Int.toNat x6.2), 0)] = some [.sl (some 3) (v10.map eI)] from ((gr0 rfl).trans (gre (map_get (eO 3 eI) (idxO_some hv10).2)))) (show getRow [[.sl (some 42) (v5.map (eO 3 eI))]] [(0, 0), ((Int.toNat x6.2), 0), ((Int.toNat x11.2), 0)] = some (eI v14) from ((gr0 rfl).trans ((grs (map_get (eO 3 eI) (idxO_some hv10).2) rfl).trans (gre (map_get eI (idxO_some hv14).2))))))) ?_
      refine k_reg (r_gq [(6, .p (iV (w64 (x11.1 + v14)))), (17, .ov false [.sl (some 42) (v5.map (eO 3 eI))]), (18, .p (iV (v5.length : Int))), (19, .p (iV x6.2)), (23, .ref 17 [(0, 0), ((Int.toNat x6.2), 0)] none), (24, .p (iV (v10.length : Int))), (25, .p (iV x11.2))] [] trivial) ?_
      refine b_n ?_
      refine q_n ?_
      refine k_reg (r_gq [(6, .p (iV (w64 (x11.1 + v14)))), (17, .ov false [.sl (some 42) (v5.map (eO 3 eI))]), (18, .p (iV (v5.length : Int))), (19, .p (iV x6.2)), (23, .ref 17 [(0, 0), ((Int.toNat x6.2), 0)] none), (24, .p (iV (v10.length : Int))), (25, .p (iV (w64 (x11.2 + 1))))] [] trivial) ?_
      exact lqn ((w64 (x11.1 + v14)), (w64 (x11.2 + 1))) h
     ·replace h := ite_f hc9_12 h
      refine k_exit ?_
      refine q_x ?_
      refine lq_x ?_
      refine b_x ?_
      refine b_n ?_
      have hyy := hy_x11 _ (oi h).symm
      subst hyy
      have h := hk_x11
      refine q_n ?_
      exact jx x11.1 h
   ·replace h := ite_f hc5_7 h
    refine k_exit ?_
    refine q_x ?_
    refine lq_x ?_
    refine b_x ?_
    have hyy := hy_x6 _ (oi h).symm
    subst hyy
    have h := hk_x6
    refine q_n ?_
    exact jx x6.1 h
theorem wk_spec_l1In {a0 : Int} {a1 : Int} {a2 : Int}  {r : Bool} (h : spec_l1In a0 a1 a2 = some r) : Meets Tryz.prog 46 [wI a0, wI a1, wI a2] { vals := [.p (.bool r)] } := by
 refine mo Tryz.func46 [(0, .p (iV a0)), (1, .p (iV a1)), (2, .p (iV a2))] ?_
 unfold spec_l1In at h
 refine k_sreg (r_gq [(0, .p (iV a0)), (1, .p (iV a1)), (2, .p (iV a2))] [] trivial) ?_
 refine k_sreg (l1 := [(6, .p (.bool ((decide (a0 ≥ a1)) && (decide (a0 ≤ a2)))))]) ?_ ?_
 ·rcases ft (decide (a0 ≥ a1)) with ha0 | ha0
  ·exact RegOk.of_eq (l2 := [(6, .p (.bool ((decide (a0 ≥ a1)) && (decide (a0 ≤ a2)))))]) (r_gq [(6, .p (.bool (decide (a0 ≤ a2))))] [(4, gT), (5, gT), (6, gT), (7, bT)] (A4 ha0 ha0 ha0 ha0)) (by simp [ha0])
  ·exact RegOk.of_eq (l2 := [(6, .p (.bool ((decide (a0 ≥ a1)) && (decide (a0 ≤ a2)))))]) (r_gq [(6, .p (.bool false))] [(4, gF), (5, gF), (6, gF), (7, bF)] (A4 ha0 ha0 ha0 ha0)) (by simp [ha0])
 ·refine k_ret ?_
  obtain rfl := oi h
  exact er [(.p (.bool ((decide (a0 ≥ a1)) && (decide (a0 ≤ a2)))), 6)]
theorem wk_spec_l1All {a0 : (List Int)} {a1 : Int} {a2 : Int}  {r : Bool} (h : spec_l1All a0 a1 a2 = some r) : Meets Tryz.prog 40 [.d false [.sl none (a0.map eI)], wI a1, wI a2] { vals := [.p (.bool r)] } := by
 refine mo Tryz.func40 [(0, .d false [.sl none (a0.map eI)]), (1, .p (iV a1)), (2, .p (iV a2))] ?_
 unfold spec_l1All at h
 refine k_sreg (r_gq [(0, .d false [.sl none (a0.map eI)]), (1, .p (iV a1)), (2, .p (iV a2))] [] trivial) ?_
 refine k_join (J := fun (x : Unit) => []) (K := fun x => spec_l1All_k1 x = some r) (fun x1 h => ?_) ?_
 ·unfold spec_l1All_k1 at h
  refine k_sreg (r_gq [(6, .p (.bool true))] [] trivial) ?_
  refine k_ret ?_
  obtain rfl := oi h
  exact er [(.p (.bool true), 6)]
 ·refine k_sreg (r_gq [(1, .p (iV a1)), (2, .p (iV a2)), (9, .d false [.sl none (a0.map eI)]), (10, .p (iV (a0.length : Int))), (11, .p (iV 0))] [(1, {n := some a0.length})] (A1 (show (a0.map eI).length = a0.length from (List.length_map ..)))) ?_
  refine k_block ?_
  obtain ⟨y3, hl_x2, hk_x2⟩ := bs h
  clear h
  refine k_loop (J := fun (x : Int) => [(1, .p (iV a1)), (2, .p (iV a2)), (9, .d false [.sl none (a0.map eI)]), (10, .p (iV (a0.length : Int))), (11, .p (iV x))]) hl_x2 (wk_of (by kernel_rfl) (by kernel_rfl)) (fun x2 o_x2 h hy_x2 => ?_)
  unfold spec_l1All_b1 at h
  refine k_sreg (r_gq [(1, .p (iV a1)), (2, .p (iV a2)), (9, .d false [.sl none (a0.map eI)]), (10, .p (iV (a0.length : Int))), (11, .p (iV x2)), (12, .p (.bool (decide (x2 < (a0.length : Int)))))] [] trivial) ?_
  refine k_seq ?_
  refine kc (decide (x2 < (a0.length : Int))) (fun hc5_3 => ?_) (fun hc5_3 => ?_)
  ·replace h := ite_t hc5_3 h
   refine k_skip ?_
   refine q_n ?_
   refine k_seq ?_
   refine k_block ?_
   replace h := bs h
   obtain ⟨v5, hv5, h⟩ := h
   refine k_sreg (r_gq [(1, .p (iV a1)), (2, .p (iV a2)), (8, .p (iV v5)), (9, .d false [.sl none (a0.map eI)]), (10, .p (iV (a0.length : Int))), (11, .p (iV x2))] [(0, {row := some (eI v5)})] (A2 (idxO_some hv5).1 (map_get eI (idxO_some hv5).2))) ?_
   replace h := bs h
   obtain ⟨v6, hv6, h⟩ := h
   refine k_sreg (r_gq [(1, .p (iV a1)), (2, .p (iV a2)), (9, .d false [.sl none (a0.map eI)]), (10, .p (iV (a0.length : Int))), (11, .p (iV x2)), (19, .p (.bool (!v6)))] [(3, {call := some (none, [.p (.bool v6)], true)})] (A1 (wk_spec_l1In hv6))) ?_
   refine kc (!v6) (fun hc6_6 => ?_) (fun hc6_6 => ?_)
   ·replace h := ite_t hc6_6 h
    refine k_sreg (r_gq [(6, .p (.bool false))] [] trivial) ?_
    refine k_ret ?_
    refine b_r ?_
    refine q_r ?_
    refine lq_r ?_
    refine b_r ?_
    refine q_r ?_
    have hyy := hy_x2 _ (oi h).symm
    subst hyy
    have h := hk_x2
    dsimp only [Sum.elim] at h
    obtain rfl := oi h
    exact er [(.p (.bool false), 6)]
   ·replace h := ite_f hc6_6 h
    refine k_skip ?_
    refine b_n ?_
    refine q_n ?_
    refine k_reg (r_gq [(1, .p (iV a1)), (2, .p (iV a2)), (9, .d false [.sl none (a0.map eI)]), (10, .p (iV (a0.length : Int))), (11, .p (iV (w64 (x2 + 1))))] [] trivial) ?_
    exact lqn (w64 (x2 + 1)) h
  ·replace h := ite_f hc5_3 h
   refine k_exit ?_
   refine q_x ?_
   refine lq_x ?_
   refine b_x ?_
   have hyy := hy_x2 _ (oi h).symm
   subst hyy
   have h := hk_x2
   dsimp only [Sum.elim] at h
   refine q_n ?_
   exact jx () h
theorem wk_spec_grGood {a0 : (List (List Int))}  {r : Bool} (h : spec_grGood a0 = some r) : Meets Tryz.prog 21 [.d false [.sl none (a0.map (eF eI))]] { vals := [.p (.bool r)] } := by
 refine mo Tryz.func21 [(0, .d false [.sl none (a0.map (eF eI))])] ?_
 unfold spec_grGood at h
 refine k_sreg (r_gq [(0, .d false [.sl none (a0.map (eF eI))])] [] trivial) ?_
 refine k_seq ?_
 replace h := bs h
 obtain ⟨v1, hv1, h⟩ := h
 refine k_sreg (r_gq [(0, .d false [.sl none (a0.map (eF eI))]), (8, .p (.bool (!v1)))] [(1, {n := some a0.length}), (2, {call := some (none, [.p (.bool v1)], true)})] (A2 (show (a0.map (eF eI)).length = a0.length from (List.length_map ..)) (wk_spec_l1In hv1))) ?_
 refine kc (!v1) (fun hc2_1 => ?_) (fun hc2_1 => ?_)
 ·replace h := ite_t hc2_1 h
  refine k_sreg (r_gq [(2, .p (.bool false))] [] trivial) ?_
  refine k_ret ?_
  refine q_r ?_
  obtain rfl := oi h
  exact er [(.p (.bool false), 2)]
 ·replace h := ite_f hc2_1 h
  refine k_skip ?_
  refine q_n ?_
  refine k_join (J := fun (x : Unit) => []) (K := fun x => spec_grGood_k1 x = some r) (fun x3 h => ?_) ?_
  ·unfold spec_grGood_k1 at h
   refine k_sreg (r_gq [(2, .p (.bool true))] [] trivial) ?_
   refine k_ret ?_
   obtain rfl := oi h
   exact er [(.p (.bool true), 2)]
  ·refine k_sreg (r_gq [(0, .d false [.sl none (a0.map (eF eI))]), (9, .d false [.sl none (a0.map (eF eI))]), (10, .p (iV (a0.length : Int))), (11, .p (iV 0))] [(1, {n := some a0.length})] (A1 (show (a0.map (eF eI)).length = a0.length from (List.length_map ..)))) ?_
   refine k_block ?_
   obtain ⟨y5, hl_x4, hk_x4⟩ := bs h
   clear h
   refine k_loop (J := fun (x : Int) => [(0, .d false [.sl none (a0.map (eF eI))]), (9, .d false [.sl none (a0.map (eF eI))]), (10, .p (iV (a0.length : Int))), (11, .p (iV x))]) hl_x4 (wk_of (by kernel_rfl) (by kernel_rfl)) (fun x4 o_x4 h hy_x4 => ?_)
   unfold spec_grGood_b1 at h
   refine k_sreg (r_gq [(0, .d false [.sl none (a0.map (eF eI))]), (9, .d false [.sl none (a0.map (eF eI))]), (10, .p (iV (a0.length : Int))), (11, .p (iV x4)), (12, .p (.bool (decide (x4 < (a0.length : Int)))))] [] trivial) ?_
   refine k_seq ?_
   refine kc (decide (x4 < (a0.length : Int))) (fun hc5_5 => ?_) (fun hc5_5 => ?_)
   ·replace h := ite_t hc5_5 h
    refine k_skip ?_
    refine q_n ?_
    refine k_seq ?_
    refine k_block ?_
    replace h := bs h
    obtain ⟨v7, hv7, h⟩ := h
    refine k_sreg (r_gq [(0, .d false [.sl none (a0.map (eF eI))]), (4, .d false [.sl none (v7.map eI)]), (9, .d false [.sl none (a0.map (eF eI))]), (10, .p (iV (a0.length : Int))), (11, .p (iV x4))] [(0, {row := some [.sl none (v7.map eI)]})] (A2 (idxO_some hv7).1 (map_get (eF eI) (idxO_some hv7).2))) ?_
    replace h := bs h
    obtain ⟨w9, hw9, h⟩ := h
    refine k_sreg (l1 := [(0, .d false [.sl none (a0.map (eF eI))]), (9, .d false [.sl none (a0.map (eF eI))]), (10, .p (iV (a0.length : Int))), (11, .p (iV x4)), (24, .p (.bool w9))]) ?_ ?_
    ·clear h
     rcases ft ((v7.length : Int) != (a0.length : Int)) with ha2 | ha2
     ·replace hw9 := ite_t ha2 hw9
      have hw9 := oi hw9
      subst hw9
      exact (r_gq [(0, .d false [.sl none (a0.map (eF eI))]), (9, .d false [.sl none (a0.map (eF eI))]), (10, .p (iV (a0.length : Int))), (11, .p (iV x4)), (24, .p (.bool true))] [(1, {n := some v7.length}), (3, {n := some a0.length}), (6, gT), (7, gT), (8, gT), (9, bT)] (A6 (show (v7.map eI).length = v7.length from (List.length_map ..)) (show (a0.map (eF eI)).length = a0.length from (List.length_map ..)) ha2 ha2 ha2 ha2))
     ·replace hw9 := ite_f ha2 hw9
      replace hw9 := bs hw9
      obtain ⟨v8, hv8, hw9⟩ := hw9
      have hw9 := oi hw9
      subst hw9
      exact (r_gq [(0, .d false [.sl none (a0.map (eF eI))]), (9, .d false [.sl none (a0.map (eF eI))]), (10, .p (iV (a0.length : Int))), (11, .p (iV x4)), (24, .p (.bool (!v8)))] [(1, {n := some v7.length}), (3, {n := some a0.length}), (6, gF), (7, {g := some false, call := some (none, [.p (.bool v8)], true)}), (8, gF), (9, bF)] (B6 (show (v7.map eI).length = v7.length from (List.length_map ..)) (show (a0.map (eF eI)).length = a0.length from (List.length_map ..)) ha2 ha2 (wk_spec_l1All hv8) ha2 (A1 ha2)))
    ·refine kc w9 (fun hc6_9 => ?_) (fun hc6_9 => ?_)
     ·replace h := ite_t hc6_9 h
      refine k_sreg (r_gq [(2, .p (.bool false))] [] trivial) ?_
      refine k_ret ?_
      refine b_r ?_
      refine q_r ?_
      refine lq_r ?_
      refine b_r ?_
      refine q_r ?_
      have hyy := hy_x4 _ (oi h).symm
      subst hyy
      have h := hk_x4
      dsimp only [Sum.elim] at h
      obtain rfl := oi h
      exact er [(.p (.bool false), 2)]
     ·replace h := ite_f hc6_9 h
      refine k_skip ?_
      refine b_n ?_
      refine q_n ?_
      refine k_reg (r_gq [(0, .d false [.sl none (a0.map (eF eI))]), (9, .d false [.sl none (a0.map (eF eI))]), (10, .p (iV (a0.length : Int))), (11, .p (iV (w64 (x4 + 1))))] [] trivial) ?_
      exact lqn (w64 (x4 + 1)) h
   ·replace h := ite_f hc5_5 h
    refine k_exit ?_
    refine q_x ?_
    refine lq_x ?_
    refine b_x ?_
    have hyy := hy_x4 _ (oi h).symm
    subst hyy
    have h := hk_x4
    dsimp only [Sum.elim] at h
    refine q_n ?_
    exact jx () h
theorem wk_spec_grSteps {a0 : Int}  {r : Bool} (h : spec_grSteps a0 = some r) : Meets Tryz.prog 22 [wI a0] { vals := [.p (.bool r)] } := by
 refine mo Tryz.func22 [(0, .p (iV a0))] ?_
 unfold spec_grSteps at h
 refine k_sreg (r_gq [(0, .p (iV a0))] [] trivial) ?_
 replace h := bs h
 obtain ⟨v1, hv1, h⟩ := h
 refine k_sreg (r_gq [(2, .p (.bool v1))] [(1, {call := some (none, [.p (.bool v1)], true)})] (A1 (wk_spec_l1In hv1))) ?_
 refine k_ret ?_
 obtain rfl := oi h
 exact er [(.p (.bool v1), 2)]
theorem wk_spec_l1Least {a0 : Int} {a1 : Int}  {r : Int} (h : spec_l1Least a0 a1 = some r) : Meets Tryz.prog 70 [wI a0, wI a1] { vals := [.p (iV r)] } := by
 refine mo Tryz.func70 [(0, .p (iV a0)), (1, .p (iV a1))] ?_
 unfold spec_l1Least at h
 refine k_sreg (r_gq [(0, .p (iV a0)), (1, .p (iV a1))] [] trivial) ?_
 refine k_seq ?_
 refine k_sreg (r_gq [(0, .p (iV a0)), (1, .p (iV a1)), (7, .p (.bool (decide (a0 < a1))))] [] trivial) ?_
 refine kc (decide (a0 < a1)) (fun hc2_0 => ?_) (fun hc2_0 => ?_)
 ·replace h := ite_t hc2_0 h
  refine k_sreg (r_gq [(4, .p (iV a0))] [] trivial) ?_
  refine k_ret ?_
  refine q_r ?_
  obtain rfl := oi h
  exact er [(.p (iV a0), 4)]
 ·replace h := ite_f hc2_0 h
  refine k_skip ?_
  refine q_n ?_
  refine k_sreg (r_gq [(4, .p (iV a1))] [] trivial) ?_
  refine k_ret ?_
  obtain rfl := oi h
  exact er [(.p (iV a1), 4)]
theorem wk_spec_grCap {a0 : Int}  {r : Int} (h : spec_grCap a0 = some r) : Meets Tryz.prog 47 [wI a0] { vals := [.p (iV r)] } := by
 refine mo Tryz.func47 [(0, .p (iV a0))] ?_
 unfold spec_grCap at h
 refine k_sreg (r_gq [(0, .p (iV a0))] [] trivial) ?_
 replace h := bs h
 obtain ⟨v1, hv1, h⟩ := h
 refine k_sreg (r_gq [(2, .p (iV v1))] [(1, {call := some (none, [.p (iV v1)], true)})] (A1 (wk_spec_l1Least hv1))) ?_
 refine k_ret ?_
 obtain rfl := oi h
 exact er [(.p (iV v1), 2)]
theorem wk_spec_grPower {a0 : (List (List Int))} {a1 : Int}  {r : (List (List Int))} (h : spec_grPower a0 a1 = some r) : Meets Tryz.prog 39 [.d false [.sl none (a0.map (eF eI))], wI a1] { vals := [.ov false [.sl (some 42) (r.map (eO 3 eI))]] } := by
 refine mo Tryz.func39 [(0, .d false [.sl none (a0.map (eF eI))]), (1, .p (iV a1))] ?_
 unfold spec_grPower at h
 refine k_sreg (r_gq [(0, .d false [.sl none (a0.map (eF eI))]), (1, .p (iV a1))] [] trivial) ?_
 refine k_sreg (r_gq [(0, .d false [.sl none (a0.map (eF eI))]), (1, .p (iV a1)), (5, .ov false [.sl (some 42) []])] [] trivial) ?_
 refine k_join (J := fun (x : (List (List Int))) => [(0, .d false [.sl none (a0.map (eF eI))]), (1, .p (iV a1)), (5, .ov false [.sl (some 42) (x.map (eO 3 eI))])]) (K := fun x => spec_grPower_k1 a0 a1 x = some r) (fun x1 h => ?_) ?_
 ·unfold spec_grPower_k1 at h
  refine k_join (J := fun (x : (List (List Int))) => [(5, .ov false [.sl (some 42) (x.map (eO 3 eI))])]) (K := fun x => spec_grPower_k2 x = some r) (fun x2 h => ?_) ?_
  ·unfold spec_grPower_k2 at h
   refine k_sreg (r_gq [(4, .ov false [.sl (some 42) (x2.map (eO 3 eI))])] [] trivial) ?_
   refine k_ret ?_
   obtain rfl := oi h
   exact er [(.ov false [.sl (some 42) (x2.map (eO 3 eI))], 4)]
  ·refine k_block ?_
   obtain ⟨y4, hl_x3, hk_x3⟩ := bs h
   clear h
   refine k_loop (J := fun (x : (Int × (List (List Int)))) => [(0, .d false [.sl none (a0.map (eF eI))]), (1, .p (iV x.1)), (5, .ov false [.sl (some 42) (x.2.map (eO 3 eI))])]) hl_x3 (wk_of (by kernel_rfl) (by kernel_rfl)) (fun x3 o_x3 h hy_x3 => ?_)
   unfold spec_grPower_b1 at h
   refine k_seq ?_
   refine k_sreg (r_gq [(0, .d false [.sl none (a0.map (eF eI))]), (1, .p (iV x3.1)), (5, .ov false [.sl (some 42) (x3.2.map (eO 3 eI))]), (31, .p (.bool (decide (x3.1 > 0))))] [] trivial) ?_
   refine kc (decide (x3.1 > 0)) (fun hc5_4 => ?_) (fun hc5_4 => ?_)
   ·replace h := ite_t hc5_4 h
    refine k_skip ?_
    refine q_n ?_
    refine k_join (J := fun (x : (List (List Int))) => [(0, .d false [.sl none (a0.map (eF eI))]), (1, .p (iV x3.1)), (5, .ov false [.sl (some 42) (x.map (eO 3 eI))])]) (K := fun x => spec_grPower_k3 x3 x = some o_x3) (fun x6 h => ?_) ?_
    ·unfold spec_grPower_k3 at h
     refine k_reg (r_gq [(0, .d false [.sl none (a0.map (eF eI))]), (1, .p (iV (w64 (x3.1 - 1)))), (5, .ov false [.sl (some 42) (x6.map (eO 3 eI))])] [] trivial) ?_
     exact lqn ((w64 (x3.1 - 1)), x6) h
    ·refine k_block ?_
     refine k_sreg (r_gq [(0, .d false [.sl none (a0.map (eF eI))]), (1, .p (iV x3.1)), (5, .ov false [.sl (some 42) (x3.2.map (eO 3 eI))]), (7, .ov false [.sl (some 42) []])] [] trivial) ?_
     refine k_join (J := fun (x : (List (List Int))) => [(0, .d false [.sl none (a0.map (eF eI))]), (1, .p (iV x3.1)), (7, .ov false [.sl (some 42) (x.map (eO 3 eI))])]) (K := fun x => spec_grPower_k4 x3 x = some o_x3) (fun x7 h => ?_) ?_
     ·unfold spec_grPower_k4 at h
      refine k_reg (r_gq [(0, .d false [.sl none (a0.map (eF eI))]), (1, .p (iV x3.1)), (5, .ov false [.sl (some 42) (x7.map (eO 3 eI))])] [] trivial) ?_
      refine b_n ?_
      refine q_n ?_
      exact jx x7 h
     ·refine k_sreg (r_gq [(0, .d false [.sl none (a0.map (eF eI))]), (1, .p (iV x3.1)), (5, .ov false [.sl (some 42) (x3.2.map (eO 3 eI))]), (7, .ov false [.sl (some 42) []]), (35, .p (iV (a0.length : Int))), (36, .p (iV 0))] [(1, {n := some a0.length})] (A1 (show (a0.map (eF eI)).length = a0.length from (List.length_map ..)))) ?_
      refine k_block ?_
      obtain ⟨y9, hl_x8, hk_x8⟩ := bs h
      clear h
      refine k_loop (J := fun (x : ((List (List Int)) × Int)) => [(0, .d false [.sl none (a0.map (eF eI))]), (1, .p (iV x3.1)), (5, .ov false [.sl (some 42) (x3.2.map (eO 3 eI))]), (7, .ov false [.sl (some 42) (x.1.map (eO 3 eI))]), (35, .p (iV (a0.length : Int))), (36, .p (iV x.2))]) hl_x8 (wk_of (by kernel_rfl) (by kernel_rfl)) (fun x8 o_x8 h hy_x8 => ?_)
      unfold spec_grPower_b2 at h
      refine k_sreg (r_gq [(0, .d false [.sl none (a0.map (eF eI))]), (1, .p (iV x3.1)), (5, .ov false [.sl (some 42) (x3.2.map (eO 3 eI))]), (7, .ov false [.sl (some 42) (x8.1.map (eO 3 eI))]), (35, .p (iV (a0.length : Int))), (36, .p (iV x8.2)), (37, .p (.bool (decide (x8.2 < (a0.length : Int)))))] [] trivial) ?_
      refine k_seq ?_
      refine kc (decide (x8.2 < (a0.length : Int))) (fun hc10_9 => ?_) (fun hc10_9 => ?_)
      ·replace h := ite_t hc10_9 h
       refine k_skip ?_
       refine q_n ?_
       refine k_join (J := fun (x : (List (List Int))) => [(0, .d false [.sl none (a0.map (eF eI))]), (1, .p (iV x3.1)), (5, .ov false [.sl (some 42) (x3.2.map (eO 3 eI))]), (7, .ov false [.sl (some 42) (x.map (eO 3 eI))]), (35, .p (iV (a0.length : Int))), (36, .p (iV x8.2))]) (K := fun x => spec_grPower_k5 x8 x = some o_x8) (fun x11 h => ?_) ?_
       ·unfold spec_grPower_k5 at h
        refine k_reg (r_gq [(0, .d false [.sl none (a0.map (eF eI))]), (1, .p (iV x3.1)), (5, .ov false [.sl (some 42) (x3.2.map (eO 3 eI))]), (7, .ov false [.sl (some 42) (x11.map (eO 3 eI))]), (35, .p (iV (a0.length : Int))), (36, .p (iV (w64 (x8.2 + 1))))] [] trivial) ?_
        exact lqn (x11, (w64 (x8.2 + 1))) h
       ·refine k_block ?_
        refine k_sreg (r_gq [(0, .d false [.sl none (a0.map (eF eI))]), (1, .p (iV x3.1)), (5, .ov false [.sl (some 42) (x3.2.map (eO 3 eI))]), (7, .ov false [.sl (some 42) (x8.1.map (eO 3 eI))]), (8, .p (iV x8.2)), (35, .p (iV (a0.length : Int))), (36, .p (iV x8.2))] [] trivial) ?_
        replace h := bs h
        obtain ⟨u12, hu12, h⟩ := h
        refine k_sreg (r_gq [(0, .d false [.sl none (a0.map (eF eI))]), (1, .p (iV x3.1)), (5, .ov false [.sl (some 42) (x3.2.map (eO 3 eI))]), (7, .ov false [.sl (some 42) (x8.1.map (eO 3 eI))]), (8, .p (iV x8.2)), (9, .ov false [.sl (some 3) ((List.replicate (Int.toNat (a0.length : Int)) (0 : Int)).map eI)]), (35, .p (iV (a0.length : Int))), (36, .p (iV x8.2))] [(1, {n := some a0.length}), (2, {fix := some (41, .ov false [.sl (some 3) ((List.replicate (Int.toNat (a0.length : Int)) (0 : Int)).map eI)])})] (A5 (show (a0.map (eF eI)).length = a0.length from (List.length_map ..)) (show (a0.length : Int) = (a0.length : Int) from rfl) (guardO_some hu12).1 (guardO_some hu12).2 (show (SV.ov false [.sl (some 3) (List.replicate (Int.toNat (a0.length : Int)) [rI 0])] : SV) = .ov false [.sl (some 3) ((List.replicate (Int.toNat (a0.length : Int)) (0 : Int)).map eI)] from (congrArg (fun z => SV.ov false [.sl (some 3) z]) (rep_fix eI (0 : Int)))))) ?_
        refine k_join (J := fun (x : (List Int)) => [(0, .d false [.sl none (a0.map (eF eI))]), (1, .p (iV x3.1)), (5, .ov false [.sl (some 42) (x3.2.map (eO 3 eI))]), (7, .ov false [.sl (some 42) (x8.1.map (eO 3 eI))]), (9, .ov false [.sl (some 3) (x.map eI)]), (35, .p (iV (a0.length : Int))), (36, .p (iV x8.2))]) (K := fun x => spec_grPower_k6 x8 x = some o_x8) (fun x13 h => ?_) ?_
        ·unfold spec_grPower_k6 at h
         replace h := bs h
         obtain ⟨u14, hu14, h⟩ := h
         refine k_reg (r_gq [(0, .d false [.sl none (a0.map (eF eI))]), (1, .p (iV x3.1)), (5, .ov false [.sl (some 42) (x3.2.map (eO 3 eI))]), (7, .ov false [.sl (some 42) ((x8.1 ++ [x13]).map (eO 3 eI))]), (35, .p (iV (a0.length : Int))), (36, .p (iV x8.2))] [(3, {fix := some (81, .ov false [.sl (some 42) ((x8.1 ++ [x13]).map (eO 3 eI))])})] (A3 (show List.length ((x8.1.map (eO 3 eI)) : List (List C)) + List.length ((([x13]).map (eO 3 eI)) : List (List C)) ≤ 1099511627776 from (by have hg := (guardO_some hu14); simpa using hg)) (show ∀ row ∈ ((([x13]).map (eO 3 eI)) : List (List C)), row.length = 1 from (rows_len fun _ => rfl)) (show (SV.ov false [.sl (some 42) ((x8.1.map (eO 3 eI)) ++ (([x13]).map (eO 3 eI)))] : SV) = .ov false [.sl (some 42) ((x8.1 ++ [x13]).map (eO 3 eI))] from (congrArg (fun z => SV.ov false [.sl (some 42) z]) (List.map_append ..).symm)))) ?_
         refine b_n ?_
         refine q_n ?_
         exact jx (x8.1 ++ [x13]) h
        ·refine k_sreg (r_gq [(0, .d false [.sl none (a0.map (eF eI))]), (1, .p (iV x3.1)), (5, .ov false [.sl (some 42) (x3.2.map (eO 3 eI))]), (7, .ov false [.sl (some 42) (x8.1.map (eO 3 eI))]), (8, .p (iV x8.2)), (9, .ov false [.sl (some 3) ((List.replicate (Int.toNat (a0.length : Int)) (0 : Int)).map eI)]), (35, .p (iV (a0.length : Int))), (36, .p (iV x8.2)), (43, .p (iV (a0.length : Int))), (44, .p (iV 0))] [(1, {n := some a0.length})] (A1 (show (a0.map (eF eI)).length = a0.length from (List.length_map ..)))) ?_
         refine k_block ?_
         obtain ⟨y16, hl_x15, hk_x15⟩ := bs h
         clear h
         refine k_loop (J := fun (x : ((List Int) × Int)) => [(0, .d false [.sl none (a0.map (eF eI))]), (1, .p (iV x3.1)), (5, .ov false [.sl (some 42) (x3.2.map (eO 3 eI))]), (7, .ov false [.sl (some 42) (x8.1.map (eO 3 eI))]), (8, .p (iV x8.2)), (9, .ov false [.sl (some 3) (x.1.map eI)]), (35, .p (iV (a0.length : Int))), (36, .p (iV x8.2)), (43, .p (iV (a0.length : Int))), (44, .p (iV x.2))]) hl_x15 (wk_of (by kernel_rfl) (by kernel_rfl)) (fun x15 o_x15 h hy_x15 => ?_)
         unfold spec_grPower_b3 at h
         refine k_sreg (r_gq [(0, .d false [.sl none (a0.map (eF eI))]), (1, .p (iV x3.1)), (5, .ov false [.sl (some 42) (x3.2.map (eO 3 eI))]), (7, .ov false [.sl (some 42) (x8.1.map (eO 3 eI))]), (8, .p (iV x8.2)), (9, .ov false [.sl (some 3) (x15.1.map eI)]), (35, .p (iV (a0.length : Int))), (36, .p (iV x8.2)), (43, .p (iV (a0.length : Int))), (44, .p (iV x15.2)), (45, .p (.bool (decide (x15.2 < (a0.length : Int)))))] [] trivial) ?_
         refine k_seq ?_
         refine kc (decide (x15.2 < (a0.length : Int))) (fun hc15_16 => ?_) (fun hc15_16 => ?_)
         ·replace h := ite_t hc15_16 h
          refine k_skip ?_
          refine q_n ?_
          refine k_join (J := fun (x : (List Int)) => [(0, .d false [.sl none (a0.map (eF eI))]), (1, .p (iV x3.1)), (5, .ov false [.sl (some 42) (x3.2.map (eO 3 eI))]), (7, .ov false [.sl (some 42) (x8.1.map (eO 3 eI))]), (8, .p (iV x8.2)), (9, .ov false [.sl (some 3) (x.map eI)]), (35, .p (iV (a0.length : Int))), (36, .p (iV x8.2)), (43, .p (iV (a0.length : Int))), (44, .p (iV x15.2))]) (K := fun x => spec_grPower_k7 x15 x = some o_x15) (fun x18 h => ?_) ?_
          ·unfold spec_grPower_k7 at h
           refine k_reg (r_gq [(0, .d false [.sl none (a0.map (eF eI))]), (1, .p (iV x3.1)), (5, .ov false [.sl (some 42) (x3.2.map (eO 3 eI))]), (7, .ov false [.sl (some 42) (x8.1.map (eO 3 eI))]), (8, .p (iV x8.2)), (9, .ov false [.sl (some 3) (x18.map eI)]), (35, .p (iV (a0.length : Int))), (36, .p (iV x8.2)), (43, .p (iV (a0.length : Int))), (44, .p (iV (w64 (x15.2 + 1))))] [] trivial) ?_
           exact lqn (x18, (w64 (x15.2 + 1))) h
          ·refine k_block ?_
           refine k_sreg (r_gq [(0, .d false [.sl none (a0.map (eF eI))]), (1, .p (iV x3.1)), (5, .ov false [.sl (some 42) (x3.2.map (eO 3 eI))]), (7, .ov false [.sl (some 42) (x8.1.map (eO 3 eI))]), (8, .p (iV x8.2)), (9, .ov false [.sl (some 3) (x15.1.map eI)]), (10, .p (iV x15.2)), (35, .p (iV (a0.length : Int))), (36, .p (iV x8.2)), (43, .p (iV (a0.length : Int))), (44, .p (iV x15.2))] [] trivial) ?_
           refine k_sreg (r_gq [(0, .d false [.sl none (a0.map (eF eI))]), (1, .p (iV x3.1)), (5, .ov false [.sl (some 42) (x3.2.map (eO 3 eI))]), (7, .ov false [.sl (some 42) (x8.1.map (eO 3 eI))]), (8, .p (iV x8.2)), (9, .ov false [.sl (some 3) (x15.1.map eI)]), (10, .p (iV x15.2)), (35, .p (iV (a0.length : Int))), (36, .p (iV x8.2)), (43, .p (iV (a0.length : Int))), (44, .p (iV x15.2)), (48, .p (iV (a0.length : Int))), (49, .p (iV 0))] [(1, {n := some a0.length})] (A1 (show (a0.map (eF eI)).length = a0.length from (List.length_map ..)))) ?_
           refine k_block ?_
           obtain ⟨y20, hl_x19, hk_x19⟩ := bs h
           clear h
           refine k_loop (J := fun (x : ((List Int) × Int)) => [(0, .d false [.sl none (a0.map (eF eI))]), (1, .p (iV x3.1)), (5, .ov false [.sl (some 42) (x3.2.map (eO 3 eI))]), (7, .ov false [.sl (some 42) (x8.1.map (eO 3 eI))]), (8, .p (iV x8.2)), (9, .ov false [.sl (some 3) (x.1.map eI)]), (10, .p (iV x15.2)), (35, .p (iV (a0.length : Int))), (36, .p (iV x8.2)), (43, .p (iV (a0.length : Int))), (44, .p (iV x15.2)), (48, .p (iV (a0.length : Int))), (49, .p (iV x.2))]) hl_x19 (wk_of (by kernel_rfl) (by kernel_rfl)) (fun x19 o_x19 h hy_x19 => ?_)
           unfold spec_grPower_b4 at h
           refine k_sreg (r_gq [(0, .d false [.sl none (a0.map (eF eI))]), (1, .p (iV x3.1)), (5, .ov false [.sl (some 42) (x3.2.map (eO 3 eI))]), (7, .ov false [.sl (some 42) (x8.1.map (eO 3 eI))]), (8, .p (iV x8.2)), (9, .ov false [.sl (some 3) (x19.1.map eI)]), (10, .p (iV x15.2)), (35, .p (iV (a0.length : Int))), (36, .p (iV x8.2)), (43, .p (iV (a0.length : Int))), (44, .p (iV x15.2)), (48, .p (iV (a0.length : Int))), (49, .p (iV x19.2)), (50, .p (.bool (decide (x19.2 < (a0.length : Int)))))] [] trivial) ?_
           refine k_seq ?_
           refine kc (decide (x19.2 < (a0.length : Int))) (fun hc19_20 => ?_) (fun hc19_20 => ?_)
           ·replace h := ite_t hc19_20 h
            refine k_skip ?_
            refine q_n ?_
            refine k_seq ?_
            refine k_block ?_
            refine k_sreg (r_gq [(0, .d false [.sl none (a0.map (eF eI))]), (1, .p (iV x3.1)), (5, .ov false [.sl (some 42) (x3.2.map (eO 3 eI))]), (7, .ov false [.sl (some 42) (x8.1.map (eO 3 eI))]), (8, .p (iV x8.2)), (9, .ov false [.sl (some 3) (x19.1.map eI)]), (10, .p (iV x15.2)), (11, .p (iV x19.2)), (35, .p (iV (a0.length : Int))), (36, .p (iV x8.2)), (43, .p (iV (a0.length : Int))), (44, .p (iV x15.2)), (48, .p (iV (a0.length : Int))), (49, .p (iV x19.2))] [] trivial) ?_
            replace h := bs h
            obtain ⟨v22, hv22, h⟩ := h
            replace h := bs h
            obtain ⟨v23, hv23, h⟩ := h
            replace h := bs h
            obtain ⟨v24, hv24, h⟩ := h
            replace h := bs h
            obtain ⟨v25, hv25, h⟩ := h
            replace h := bs h
            obtain ⟨v26, hv26, h⟩ := h
            replace h := bs h
            obtain ⟨v27, hv27, h⟩ := h
            refine k_reg (r_dq Tryz_mixed 23 [] [(0, .d false [.sl none (a0.map (eF eI))]), (1, .p (iV x3.1)), (5, .ov false [.sl (some 42) (x3.2.map (eO 3 eI))]), (7, .ov false [.sl (some 42) (x8.1.map (eO 3 eI))]), (8, .p (iV x8.2)), (9, .ov false [.sl (some 3) ((x19.1.set (Int.toNat x15.2) v27).map eI)]), (10, .p (iV x15.2)), (35, .p (iV (a0.length : Int))), (36, .p (iV x8.2)), (43, .p (iV (a0.length : Int))), (44, .p (iV x15.2)), (48, .p (iV (a0.length : Int))), (49, .p (iV x19.2))] [(4, {row := some (eI v22)}), (5, {row := some (eI v22)}), (8, {row := some [.sl (some 3) (v23.map eI)]}), (9, {row := some [.sl (some 3) (v23.map eI)]}), (11, {deep := some [.sl (some 3) (v23.map eI)], row := some (eI v24)}), (12, {row := some (eI v24)}), (15, {row := some [.sl none (v25.map eI)]}), (18, {row := some (eI v26)}), (22, {call := some (none, [.p (iV v27)], true)}), (23, {row := some (eI v22)}), (24, {row := some (eI v22), fix := some (9, .ov false [.sl (some 3) ((x19.1.set (Int.toNat x15.2) v27).map eI)])})] (B6 (idxO_some hv22).1 (map_get eI (idxO_some hv22).2) (show getRow [[.sl (some 3) (x19.1.map eI)]] [(0, 0), ((Int.toNat x15.2), 0)] = some (eI v22) from ((gr0 rfl).trans (gre (map_get eI (idxO_some hv22).2)))) (idxO_some hv23).1 (map_get (eO 3 eI) (idxO_some hv23).2) (show frR [.sl (some 3) (v23.map eI)] = false from rfl) (B6 (show getRow [[.sl (some 42) (x3.2.map (eO 3 eI))]] [(0, 0), ((Int.toNat x8.2), 0)] = some [.sl (some 3) (v23.map eI)] from ((gr0 rfl).trans (gre (map_get (eO 3 eI) (idxO_some hv23).2)))) (idxO_some hv24).1 (map_get eI (idxO_some hv24).2) (show getRow [[.sl (some 42) (x3.2.map (eO 3 eI))]] [(0, 0), ((Int.toNat x8.2), 0)] = some [.sl (some 3) (v23.map eI)] from ((gr0 rfl).trans (gre (map_get (eO 3 eI) (idxO_some hv23).2)))) (show getRow [[.sl (some 42) (x3.2.map (eO 3 eI))]] [(0, 0), ((Int.toNat x8.2), 0), ((Int.toNat x19.2), 0)] = some (eI v24) from ((gr0 rfl).trans ((grs (map_get (eO 3 eI) (idxO_some hv23).2) rfl).trans (gre (map_get eI (idxO_some hv24).2))))) (idxO_some hv25).1 (B6 (map_get (eF eI) (idxO_some hv25).2) (idxO_some hv26).1 (map_get eI (idxO_some hv26).2) (wk_spec_grCap hv27) (idxO_some hv22).1 (map_get eI (idxO_some hv22).2) (A2 (show getRow [[.sl (some 3) (x19.1.map eI)]] [(0, 0), ((Int.toNat x15.2), 0)] = some (eI v22) from ((gr0 rfl).trans (gre (map_get eI (idxO_some hv22).2)))) (show (SV.ov false [.sl (some 3) (setL (x19.1.map eI) [((Int.toNat x15.2), 0)] (eI v27))] : SV) = .ov false [.sl (some 3) ((x19.1.set (Int.toNat x15.2) v27).map eI)] from (congrArg (fun z => SV.ov false [.sl (some 3) z]) (set1 (f := eI) (y := v27) (idxO_some hv22).2 rfl)))))))) ?_
            refine b_n ?_
            refine q_n ?_
            refine k_reg (r_gq [(0, .d false [.sl none (a0.map (eF eI))]), (1, .p (iV x3.1)), (5, .ov false [.sl (some 42) (x3.2.map (eO 3 eI))]), (7, .ov false [.sl (some 42) (x8.1.map (eO 3 eI))]), (8, .p (iV x8.2)), (9, .ov false [.sl (some 3) ((x19.1.set (Int.toNat x15.2) v27).map eI)]), (10, .p (iV x15.2)), (35, .p (iV (a0.length : Int))), (36, .p (iV x8.2)), (43, .p (iV (a0.length : Int))), (44, .p (iV x15.2)), (48, .p (iV (a0.length : Int))), (49, .p (iV (w64 (x19.2 + 1))))] [] trivial) ?_
            exact lqn ((x19.1.set (Int.toNat x15.2) v27), (w64 (x19.2 + 1))) h
           ·replace h := ite_f hc19_20 h
            refine k_exit ?_
            refine q_x ?_
            refine lq_x ?_
            refine b_x ?_
            refine b_n ?_
            have hyy := hy_x19 _ (oi h).symm
            subst hyy
            have h := hk_x19
            refine q_n ?_
            exact jx x19.1 h
         ·replace h := ite_f hc15_16 h
          refine k_exit ?_
          refine q_x ?_
          refine lq_x ?_
          refine b_x ?_
          have hyy := hy_x15 _ (oi h).symm
          subst hyy
          have h := hk_x15
          refine q_n ?_
          exact jx x15.1 h
      ·replace h := ite_f hc10_9 h
       refine k_exit ?_
       refine q_x ?_
       refine lq_x ?_
       refine b_x ?_
       have hyy := hy_x8 _ (oi h).symm
       subst hyy
       have h := hk_x8
       refine q_n ?_
       exact jx x8.1 h
   ·replace h := ite_f hc5_4 h
    refine k_exit ?_
    refine q_x ?_
    refine lq_x ?_
    refine b_x ?_
    have hyy := hy_x3 _ (oi h).symm
    subst hyy
    have h := hk_x3
    refine q_n ?_
    exact jx x3.2 h
 ·refine k_sreg (r_gq [(0, .d false [.sl none (a0.map (eF eI))]), (1, .p (iV a1)), (5, .ov false [.sl (some 42) []]), (13, .p (iV (a0.length : Int))), (14, .p (iV 0))] [(1, {n := some a0.length})] (A1 (show (a0.map (eF eI)).length = a0.length from (List.length_map ..)))) ?_
  refine k_block ?_
  obtain ⟨y29, hl_x28, hk_x28⟩ := bs h
  clear h
  refine k_loop (J := fun (x : ((List (List Int)) × Int)) => [(0, .d false [.sl none (a0.map (eF eI))]), (1, .p (iV a1)), (5, .ov false [.sl (some 42) (x.1.map (eO 3 eI))]), (13, .p (iV (a0.length : Int))), (14, .p (iV x.2))]) hl_x28 (wk_of (by kernel_rfl) (by kernel_rfl)) (fun x28 o_x28 h hy_x28 => ?_)
  unfold spec_grPower_b5 at h
  refine k_sreg (r_gq [(0, .d false [.sl none (a0.map (eF eI))]), (1, .p (iV a1)), (5, .ov false [.sl (some 42) (x28.1.map (eO 3 eI))]), (13, .p (iV (a0.length : Int))), (14, .p (iV x28.2)), (15, .p (.bool (decide (x28.2 < (a0.length : Int)))))] [] trivial) ?_
  refine k_seq ?_
  refine kc (decide (x28.2 < (a0.length : Int))) (fun hc5_29 => ?_) (fun hc5_29 => ?_)
  ·replace h := ite_t hc5_29 h
   refine k_skip ?_
   refine q_n ?_
   refine k_seq ?_
   refine k_block ?_
   refine k_sreg (r_gq [(0, .d false [.sl none (a0.map (eF eI))]), (1, .p (iV a1)), (5, .ov false [.sl (some 42) (x28.1.map (eO 3 eI))]), (6, .p (iV x28.2)), (13, .p (iV (a0.length : Int))), (14, .p (iV x28.2))] [] trivial) ?_
   replace h := bs h
   obtain ⟨u31, hu31, h⟩ := h
   replace h := bs h
   obtain ⟨u32, hu32, h⟩ := h
   refine k_sreg (r_gq [(0, .d false [.sl none (a0.map (eF eI))]), (1, .p (iV a1)), (5, .ov false [.sl (some 42) ((x28.1 ++ [(List.replicate (Int.toNat (a0.length : Int)) (0 : Int))]).map (eO 3 eI))]), (6, .p (iV x28.2)), (13, .p (iV (a0.length : Int))), (14, .p (iV x28.2))] [(2, {n := some a0.length}), (3, {fix := some (20, .ov false [.sl (some 3) ((List.replicate (Int.toNat (a0.length : Int)) (0 : Int)).map eI)])}), (5, {fix := some (22, .ov false [.sl (some 42) ((x28.1 ++ [(List.replicate (Int.toNat (a0.length : Int)) (0 : Int))]).map (eO 3 eI))])})] (B6 (show (a0.map (eF eI)).length = a0.length from (List.length_map ..)) (show (a0.length : Int) = (a0.length : Int) from rfl) (guardO_some hu31).1 (guardO_some hu31).2 (show (SV.ov false [.sl (some 3) (List.replicate (Int.toNat (a0.length : Int)) [rI 0])] : SV) = .ov false [.sl (some 3) ((List.replicate (Int.toNat (a0.length : Int)) (0 : Int)).map eI)] from (congrArg (fun z => SV.ov false [.sl (some 3) z]) (rep_fix eI (0 : Int)))) (show List.length ((x28.1.map (eO 3 eI)) : List (List C)) + List.length ((([(List.replicate (Int.toNat (a0.length : Int)) (0 : Int))]).map (eO 3 eI)) : List (List C)) ≤ 1099511627776 from (by have hg := (guardO_some hu32); simpa using hg)) (A2 (show ∀ row ∈ ((([(List.replicate (Int.toNat (a0.length : Int)) (0 : Int))]).map (eO 3 eI)) : List (List C)), row.length = 1 from (rows_len fun _ => rfl)) (show (SV.ov false [.sl (some 42) ((x28.1.map (eO 3 eI)) ++ (([(List.replicate (Int.toNat (a0.length : Int)) (0 : Int))]).map (eO 3 eI)))] : SV) = .ov false [.sl (some 42) ((x28.1 ++ [(List.replicate (Int.toNat (a0.length : Int)) (0 : Int))]).map (eO 3 eI))] from (congrArg (fun z => SV.ov false [.sl (some 42) z]) (List.map_append ..).symm))))) ?_
   replace h := bs h
   obtain ⟨v33, hv33, h⟩ := h
   replace h := bs h
   obtain ⟨v34, hv34, h⟩ := h
   refine k_reg (r_gq [(0, .d false [.sl none (a0.map (eF eI))]), (1, .p (iV a1)), (5, .ov false [.sl (some 42) (((x28.1 ++ [(List.replicate (Int.toNat (a0.length : Int)) (0 : Int))]).set (Int.toNat x28.2) (v33.set (Int.toNat x28.2) 1)).map (eO 3 eI))]), (13, .p (iV (a0.length : Int))), (14, .p (iV x28.2))] [(2, {row := some [.sl (some 3) (v33.map eI)]}), (3, {row := some [.sl (some 3) (v33.map eI)]}), (5, {deep := some [.sl (some 3) (v33.map eI)], row := some (eI v34)}), (6, {row := some (eI v34), fix := some (5, .ov false [.sl (some 42) (((x28.1 ++ [(List.replicate (Int.toNat (a0.length : Int)) (0 : Int))]).set (Int.toNat x28.2) (v33.set (Int.toNat x28.2) 1)).map (eO 3 eI))])})] (B6 (idxO_some hv33).1 (map_get (eO 3 eI) (idxO_some hv33).2) (show frR [.sl (some 3) (v33.map eI)] = false from rfl) (show getRow [[.sl (some 42) ((x28.1 ++ [(List.replicate (Int.toNat (a0.length : Int)) (0 : Int))]).map (eO 3 eI))]] [(0, 0), ((Int.toNat x28.2), 0)] = some [.sl (some 3) (v33.map eI)] from ((gr0 rfl).trans (gre (map_get (eO 3 eI) (idxO_some hv33).2)))) (idxO_some hv34).1 (map_get eI (idxO_some hv34).2) (A3 (show getRow [[.sl (some 42) ((x28.1 ++ [(List.replicate (Int.toNat (a0.length : Int)) (0 : Int))]).map (eO 3 eI))]] [(0, 0), ((Int.toNat x28.2), 0)] = some [.sl (some 3) (v33.map eI)] from ((gr0 rfl).trans (gre (map_get (eO 3 eI) (idxO_some hv33).2)))) (show getRow [[.sl (some 42) ((x28.1 ++ [(List.replicate (Int.toNat (a0.length : Int)) (0 : Int))]).map (eO 3 eI))]] [(0, 0), ((Int.toNat x28.2), 0), ((Int.toNat x28.2), 0)] = some (eI v34) from ((gr0 rfl).trans ((grs (map_get (eO 3 eI) (idxO_some hv33).2) rfl).trans (gre (map_get eI (idxO_some hv34).2))))) (show (SV.ov false [.sl (some 42) (setL ((x28.1 ++ [(List.replicate (Int.toNat (a0.length : Int)) (0 : Int))]).map (eO 3 eI)) [((Int.toNat x28.2), 0), ((Int.toNat x28.2), 0)] [rI 1])] : SV) = .ov false [.sl (some 42) (((x28.1 ++ [(List.replicate (Int.toNat (a0.length : Int)) (0 : Int))]).set (Int.toNat x28.2) (v33.set (Int.toNat x28.2) 1)).map (eO 3 eI))] from (congrArg (fun z => SV.ov false [.sl (some 42) z]) (set2 (f := (eO 3 eI)) (y := (v33.set (Int.toNat x28.2) 1)) (idxO_some hv33).2 rfl (set1 (f := eI) (y := 1) (idxO_some hv34).2 rfl) rfl)))))) ?_
   refine b_n ?_
   refine q_n ?_
   refine k_reg (r_gq [(0, .d false [.sl none (a0.map (eF eI))]), (1, .p (iV a1)), (5, .ov false [.sl (some 42) (((x28.1 ++ [(List.replicate (Int.toNat (a0.length : Int)) (0 : Int))]).set (Int.toNat x28.2) (v33.set (Int.toNat x28.2) 1)).map (eO 3 eI))]), (13, .p (iV (a0.length : Int))), (14, .p (iV (w64 (x28.2 + 1))))] [] trivial) ?_
   exact lqn (((x28.1 ++ [(List.replicate (Int.toNat (a0.length : Int)) (0 : Int))]).set (Int.toNat x28.2) (v33.set (Int.toNat x28.2) 1)), (w64 (x28.2 + 1))) h
  ·replace h := ite_f hc5_29 h
   refine k_exit ?_
   refine q_x ?_
   refine lq_x ?_
   refine b_x ?_
   have hyy := hy_x28 _ (oi h).symm
   subst hyy
   have h := hk_x28
   refine q_n ?_
   exact jx x28.1 h
theorem wk_spec_gwTotal {a0 : (List (List Int))} {a1 : Int}  {r : Int} (h : spec_gwTotal a0 a1 = some r) : Meets Tryz.prog 23 [.d false [.sl none (a0.map (eF eI))], wI a1] { vals := [.p (iV r)] } := by
 refine mo Tryz.func23 [(0, .d false [.sl none (a0.map (eF eI))]), (1, .p (iV a1))] ?_
 unfold spec_gwTotal at h
 refine k_sreg (r_gq [(0, .d false [.sl none (a0.map (eF eI))]), (1, .p (iV a1))] [] trivial) ?_
 refine k_sreg (r_gq [(0, .d false [.sl none (a0.map (eF eI))]), (1, .p (iV a1)), (5, .p (iV 0))] [] trivial) ?_
 refine k_join (J := fun (x : Int) => [(5, .p (iV x))]) (K := fun x => spec_gwTotal_k1 x = some r) (fun x1 h => ?_) ?_
 ·unfold spec_gwTotal_k1 at h
  refine k_sreg (r_gq [(4, .p (iV x1))] [] trivial) ?_
  refine k_ret ?_
  obtain rfl := oi h
  exact er [(.p (iV x1), 4)]
 ·replace h := bs h
  obtain ⟨v2, hv2, h⟩ := h
  refine k_sreg (r_gq [(5, .p (iV 0)), (12, .ov false [.sl (some 42) (v2.map (eO 3 eI))]), (13, .p (iV (v2.length : Int))), (14, .p (iV 0))] [(2, {call := some (none, [.ov false [.sl (some 42) (v2.map (eO 3 eI))]], true)}), (3, {n := some v2.length})] (A3 (wk_spec_grPower hv2) (show List.all [.ov false [.sl (some 42) (v2.map (eO 3 eI))]] simpleR = true from (sa_o (wnR1 (wnL_enc (wn_O wn_I)) rfl) rfl)) (show (v2.map (eO 3 eI)).length = v2.length from (List.length_map ..)))) ?_
  refine k_block ?_
  obtain ⟨y4, hl_x3, hk_x3⟩ := bs h
  clear h
  refine k_loop (J := fun (x : Qr) => [(5, .p (iV x.1)), (12, .ov false [.sl (some 42) (v2.map (eO 3 eI))]), (13, .p (iV (v2.length : Int))), (14, .p (iV x.2))]) hl_x3 (wk_of (by kernel_rfl) (by kernel_rfl)) (fun x3 o_x3 h hy_x3 => ?_)
  unfold spec_gwTotal_b1 at h
  refine k_sreg (r_gq [(5, .p (iV x3.1)), (12, .ov false [.sl (some 42) (v2.map (eO 3 eI))]), (13, .p (iV (v2.length : Int))), (14, .p (iV x3.2)), (15, .p (.bool (decide (x3.2 < (v2.length : Int)))))] [] trivial) ?_
  refine k_seq ?_
  refine kc (decide (x3.2 < (v2.length : Int))) (fun hc5_4 => ?_) (fun hc5_4 => ?_)
  ·replace h := ite_t hc5_4 h
   refine k_skip ?_
   refine q_n ?_
   refine k_join (J := fun (x : Int) => [(5, .p (iV x)), (12, .ov false [.sl (some 42) (v2.map (eO 3 eI))]), (13, .p (iV (v2.length : Int))), (14, .p (iV x3.2))]) (K := fun x => spec_gwTotal_k2 x3 x = some o_x3) (fun x6 h => ?_) ?_
   ·unfold spec_gwTotal_k2 at h
    refine k_reg (r_gq [(5, .p (iV x6)), (12, .ov false [.sl (some 42) (v2.map (eO 3 eI))]), (13, .p (iV (v2.length : Int))), (14, .p (iV (w64 (x3.2 + 1))))] [] trivial) ?_
    exact lqn (x6, (w64 (x3.2 + 1))) h
   ·refine k_block ?_
    replace h := bs h
    obtain ⟨v7, hv7, h⟩ := h
    refine k_sreg (r_gq [(5, .p (iV x3.1)), (7, .ref 12 [(0, 0), ((Int.toNat x3.2), 0)] none), (12, .ov false [.sl (some 42) (v2.map (eO 3 eI))]), (13, .p (iV (v2.length : Int))), (14, .p (iV x3.2))] [(0, {row := some [.sl (some 3) (v7.map eI)]}), (1, {row := some [.sl (some 3) (v7.map eI)]})] (A4 (idxO_some hv7).1 (map_get (eO 3 eI) (idxO_some hv7).2) (show frR [.sl (some 3) (v7.map eI)] = false from rfl) (show getRow [[.sl (some 42) (v2.map (eO 3 eI))]] [(0, 0), ((Int.toNat x3.2), 0)] = some [.sl (some 3) (v7.map eI)] from ((gr0 rfl).trans (gre (map_get (eO 3 eI) (idxO_some hv7).2)))))) ?_
    refine k_sreg (r_gq [(5, .p (iV x3.1)), (12, .ov false [.sl (some 42) (v2.map (eO 3 eI))]), (13, .p (iV (v2.length : Int))), (14, .p (iV x3.2)), (18, .ref 12 [(0, 0), ((Int.toNat x3.2), 0)] none), (19, .p (iV (v7.length : Int))), (20, .p (iV 0))] [(1, {deep := some [.sl (some 3) (v7.map eI)], n := some v7.length})] (A2 (show (v7.map eI).length = v7.length from (List.length_map ..)) (show getRow [[.sl (some 42) (v2.map (eO 3 eI))]] [(0, 0), ((Int.toNat x3.2), 0)] = some [.sl (some 3) (v7.map eI)] from ((gr0 rfl).trans (gre (map_get (eO 3 eI) (idxO_some hv7).2)))))) ?_
    refine k_block ?_
    obtain ⟨y9, hl_x8, hk_x8⟩ := bs h
    clear h
    refine k_loop (J := fun (x : Qr) => [(5, .p (iV x.1)), (12, .ov false [.sl (some 42) (v2.map (eO 3 eI))]), (13, .p (iV (v2.length : Int))), (14, .p (iV x3.2)), (18, .ref 12 [(0, 0), ((Int.toNat x3.2), 0)] none), (19, .p (iV (v7.length : Int))), (20, .p (iV x.2))]) hl_x8 (wk_of (by kernel_rfl) (by kernel_rfl)) (fun x8 o_x8 h hy_x8 => ?_)
    unfold spec_gwTotal_b2 at h
    refine k_sreg (r_gq [(5, .p (iV x8.1)), (12, .ov false [.sl (some 42) (v2.map (eO 3 eI))]), (13, .p (iV (v2.length : Int))), (14, .p (iV x3.2)), (18, .ref 12 [(0, 0), ((Int.toNat x3.2), 0)] none), (19, .p (iV (v7.length : Int))), (20, .p (iV x8.2)), (21, .p (.bool (decide (x8.2 < (v7.length : Int)))))] [] trivial) ?_
    refine k_seq ?_
    refine kc (decide (x8.2 < (v7.length : Int))) (fun hc9_9 => ?_) (fun hc9_9 => ?_)
    ·replace h := ite_t hc9_9 h
     refine k_skip ?_
     refine q_n ?_
     refine k_seq ?_
     refine k_block ?_
     replace h := bs h
     obtain ⟨v11, hv11, h⟩ := h
     refine k_sreg (r_gq [(5, .p (iV x8.1)), (9, .p (iV v11)), (12, .ov false [.sl (some 42) (v2.map (eO 3 eI))]), (13, .p (iV (v2.length : Int))), (14, .p (iV x3.2)), (18, .ref 12 [(0, 0), ((Int.toNat x3.2), 0)] none), (19, .p (iV (v7.length : Int))), (20, .p (iV x8.2))] [(0, {deep := some [.sl (some 3) (v7.map eI)], row := some (eI v11)}), (1, {row := some (eI v11)})] (A4 (idxO_some hv11).1 (map_get eI (idxO_some hv11).2) (show getRow [[.sl (some 42) (v2.map (eO 3 eI))]] [(0, 0), ((Int.toNat x3.2), 0)] = some [.sl (some 3) (v7.map eI)] from ((gr0 rfl).trans (gre (map_get (eO 3 eI) (idxO_some hv7).2)))) (show getRow [[.sl (some 42) (v2.map (eO 3 eI))]] [(0, 0), ((Int.toNat x3.2), 0), ((Int.toNat x8.2), 0)] = some (eI v11) from ((gr0 rfl).trans ((grs (map_get (eO 3 eI) (idxO_some hv7).2) rfl).trans (gre (map_get eI (idxO_some hv11).2))))))) ?_
     replace h := bs h
     obtain ⟨v12, hv12, h⟩ := h
     refine k_reg (r_gq [(5, .p (iV v12)), (12, .ov false [.sl (some 42) (v2.map (eO 3 eI))]), (13, .p (iV (v2.length : Int))), (14, .p (iV x3.2)), (18, .ref 12 [(0, 0), ((Int.toNat x3.2), 0)] none), (19, .p (iV (v7.length : Int))), (20, .p (iV x8.2))] [(3, {call := some (none, [.p (iV v12)], true)})] (A1 (wk_spec_grCap hv12))) ?_
     refine b_n ?_
     refine q_n ?_
     refine k_reg (r_gq [(5, .p (iV v12)), (12, .ov false [.sl (some 42) (v2.map (eO 3 eI))]), (13, .p (iV (v2.length : Int))), (14, .p (iV x3.2)), (18, .ref 12 [(0, 0), ((Int.toNat x3.2), 0)] none), (19, .p (iV (v7.length : Int))), (20, .p (iV (w64 (x8.2 + 1))))] [] trivial) ?_
     exact lqn (v12, (w64 (x8.2 + 1))) h
    ·replace h := ite_f hc9_9 h
     refine k_exit ?_
     refine q_x ?_
     refine lq_x ?_
     refine b_x ?_
     refine b_n ?_
     have hyy := hy_x8 _ (oi h).symm
     subst hyy
     have h := hk_x8
     refine q_n ?_
     exact jx x8.1 h
  ·replace h := ite_f hc5_4 h
   refine k_exit ?_
   refine q_x ?_
   refine lq_x ?_
   refine b_x ?_
   have hyy := hy_x3 _ (oi h).symm
   subst hyy
   have h := hk_x3
   refine q_n ?_
   exact jx x3.1 h
theorem wk_spec_TotalWalks {a0 : (List (List Int))} {a1 : Int}  {r : (Int × Bool)} (h : spec_TotalWalks a0 a1 = some r) : Meets Tryz.prog 6 [.d false [.sl none (a0.map (eF eI))], wI a1] { vals := [.p (iV r.1), .p (.bool r.2)] } := by
 refine mo Tryz.func6 [(0, .d false [.sl none (a0.map (eF eI))]), (1, .p (iV a1))] ?_
 unfold spec_TotalWalks at h
 refine k_sreg (r_gq [(0, .d false [.sl none (a0.map (eF eI))]), (1, .p (iV a1))] [] trivial) ?_
 refine k_seq ?_
 replace h := bs h
 obtain ⟨v1, hv1, h⟩ := h
 replace h := bs h
 obtain ⟨w4, hw4, h⟩ := h
 refine k_sreg (l1 := [(0, .d false [.sl none (a0.map (eF eI))]), (1, .p (iV a1)), (19, .p (.bool w4))]) ?_ ?_
 ·clear h
  rcases ft (!v1) with ha0 | ha0
  ·replace hw4 := ite_t ha0 hw4
   have hw4 := oi hw4
   subst hw4
   exact (r_gq [(0, .d false [.sl none (a0.map (eF eI))]), (1, .p (iV a1)), (19, .p (.bool true))] [(1, {call := some (none, [.p (.bool v1)], true)}), (4, gT), (5, gT), (6, gT), (7, bT), (9, gT), (10, gT), (11, gT), (12, gT), (13, bT)] (B6 (wk_spec_grGood hv1) ha0 ha0 ha0 ha0 (show true = true from rfl) (A4 (show true = true from rfl) (show true = true from rfl) (show true = true from rfl) (show true = true from rfl))))
  ·replace hw4 := ite_f ha0 hw4
   replace hw4 := bs hw4
   obtain ⟨v2, hv2, hw4⟩ := hw4
   rcases ft (!v2) with ha1 | ha1
   ·replace hw4 := ite_t ha1 hw4
    have hw4 := oi hw4
    subst hw4
    exact (r_gq [(0, .d false [.sl none (a0.map (eF eI))]), (1, .p (iV a1)), (19, .p (.bool true))] [(1, {call := some (none, [.p (.bool v1)], true)}), (4, gF), (5, {g := some false, call := some (none, [.p (.bool v2)], true)}), (6, gF), (7, bF), (9, gT), (10, gT), (11, gT), (12, gT), (13, bT)] (B6 (wk_spec_grGood hv1) ha0 ha0 (wk_spec_grSteps hv2) ha0 ha0 (A5 ha1 ha1 ha1 ha1 ha1)))
   ·replace hw4 := ite_f ha1 hw4
    replace hw4 := bs hw4
    obtain ⟨v3, hv3, hw4⟩ := hw4
    have hw4 := oi hw4
    subst hw4
    exact (r_gq [(0, .d false [.sl none (a0.map (eF eI))]), (1, .p (iV a1)), (19, .p (.bool (decide (v3 > 1000000000))))] [(1, {call := some (none, [.p (.bool v1)], true)}), (4, gF), (5, {g := some false, call := some (none, [.p (.bool v2)], true)}), (6, gF), (7, bF), (9, gF), (10, gF), (11, {g := some false, call := some (none, [.p (iV v3)], true)}), (12, gF), (13, bF)] (B6 (wk_spec_grGood hv1) ha0 ha0 (wk_spec_grSteps hv2) ha0 ha0 (A6 ha1 ha1 ha1 (wk_spec_gwTotal hv3) ha1 ha1)))
 ·refine kc w4 (fun hc2_4 => ?_) (fun hc2_4 => ?_)
  ·replace h := ite_t hc2_4 h
   refine k_sreg (r_gq [(4, .p (iV 0)), (5, .p (.bool false))] [] trivial) ?_
   refine k_ret ?_
   refine q_r ?_
   obtain rfl := oi h
   exact er [(.p (iV 0), 4), (.p (.bool false), 5)]
  ·replace h := ite_f hc2_4 h
   refine k_skip ?_
   refine q_n ?_
   replace h := bs h
   obtain ⟨v6, hv6, h⟩ := h
   refine k_sreg (r_gq [(4, .p (iV v6)), (5, .p (.bool true))] [(2, {call := some (none, [.p (iV v6)], true)})] (A1 (wk_spec_gwTotal hv6))) ?_
   refine k_ret ?_
   obtain rfl := oi h
   exact er [(.p (iV v6), 4), (.p (.bool true), 5)]
theorem wk_impl_WalkDigits {a0 : (List (List Int))} {a1 : Int}  {r : (Int × Bool)} (h : impl_WalkDigits a0 a1 = some r) : Meets Tryz.prog 7 [.d false [.sl none (a0.map (eF eI))], wI a1] { vals := [.p (iV r.1), .p (.bool r.2)] } := by
 refine mo Tryz.func7 [(0, .d false [.sl none (a0.map (eF eI))]), (1, .p (iV a1))] ?_
 unfold impl_WalkDigits at h
 refine k_sreg (r_gq [(0, .d false [.sl none (a0.map (eF eI))]), (1, .p (iV a1))] [] trivial) ?_
 replace h := bs h
 obtain ⟨v1, hv1, h⟩ := h
 refine k_sreg (r_gq [(6, .p (iV v1.1)), (7, .p (.bool v1.2))] [(2, {call := some (none, [.p (iV v1.1), .p (.bool v1.2)], true)})] (A1 (wk_impl_TotalWalks hv1))) ?_
 refine k_seq ?_
 refine k_sreg (l1 := [(6, .p (iV v1.1)), (20, .p (.bool ((!v1.2) || (v1.1 == 0))))]) ?_ ?_
 ·rcases ft (!v1.2) with ha0 | ha0
  ·exact RegOk.of_eq (l2 := [(6, .p (iV v1.1)), (20, .p (.bool ((!v1.2) || (v1.1 == 0))))]) (r_gq [(6, .p (iV v1.1)), (20, .p (.bool true))] [(3, gT), (4, gT), (5, bT)] (A3 ha0 ha0 ha0)) (by simp [ha0])
  ·exact RegOk.of_eq (l2 := [(6, .p (iV v1.1)), (20, .p (.bool ((!v1.2) || (v1.1 == 0))))]) (r_gq [(6, .p (iV v1.1)), (20, .p (.bool (v1.1 == 0)))] [(3, gF), (4, gF), (5, bF)] (A3 ha0 ha0 ha0)) (by simp [ha0])
 ·refine kc ((!v1.2) || (v1.1 == 0)) (fun hc2_1 => ?_) (fun hc2_1 => ?_)
  ·replace h := ite_t hc2_1 h
   refine k_sreg (r_gq [(4, .p (iV 0)), (5, .p (.bool false))] [] trivial) ?_
   refine k_ret ?_
   refine q_r ?_
   obtain rfl := oi h
   exact er [(.p (iV 0), 4), (.p (.bool false), 5)]
  ·replace h := ite_f hc2_1 h
   refine k_skip ?_
   refine q_n ?_
   refine k_sreg (r_gq [(6, .p (iV v1.1)), (8, .p (iV 0))] [] trivial) ?_
   refine k_join (J := fun (x : Int) => [(8, .p (iV x))]) (K := fun x => impl_WalkDigits_k1 x = some r) (fun x3 h => ?_) ?_
   ·unfold impl_WalkDigits_k1 at h
    refine k_sreg (r_gq [(4, .p (iV x3)), (5, .p (.bool true))] [] trivial) ?_
    refine k_ret ?_
    obtain rfl := oi h
    exact er [(.p (iV x3), 4), (.p (.bool true), 5)]
   ·refine k_block ?_
    obtain ⟨y5, hl_x4, hk_x4⟩ := bs h
    clear h
    refine k_loop (J := fun (x : Qr) => [(6, .p (iV x.1)), (8, .p (iV x.2))]) hl_x4 (wk_of (by kernel_rfl) (by kernel_rfl)) (fun x4 o_x4 h hy_x4 => ?_)
    unfold impl_WalkDigits_b1 at h
    refine k_seq ?_
    refine k_sreg (r_gq [(6, .p (iV x4.1)), (8, .p (iV x4.2)), (22, .p (.bool (decide (x4.1 > 1))))] [] trivial) ?_
    refine kc (decide (x4.1 > 1)) (fun hc5_5 => ?_) (fun hc5_5 => ?_)
    ·replace h := ite_t hc5_5 h
     refine k_skip ?_
     refine q_n ?_
     refine k_block ?_
     refine k_sreg (r_gq [(6, .p (iV (w64 (Int.tdiv x4.1 2)))), (8, .p (iV x4.2))] [] (A1 (show 2 ≠ (0 : Int) from (by decide)))) ?_
     refine k_reg (r_gq [(6, .p (iV (w64 (Int.tdiv x4.1 2)))), (8, .p (iV (w64 (x4.2 + 1))))] [] trivial) ?_
     refine b_n ?_
     exact lqn ((w64 (Int.tdiv x4.1 2)), (w64 (x4.2 + 1))) h
    ·replace h := ite_f hc5_5 h
     refine k_exit ?_
     refine q_x ?_
     refine lq_x ?_
     refine b_x ?_
     have hyy := hy_x4 _ (oi h).symm
     subst hyy
     have h := hk_x4
     refine q_n ?_
     exact jx x4.2 h
theorem wk_spec_WalkDigits {a0 : (List (List Int))} {a1 : Int}  {r : (Int × Bool)} (h : spec_WalkDigits a0 a1 = some r) : Meets Tryz.prog 8 [.d false [.sl none (a0.map (eF eI))], wI a1] { vals := [.p (iV r.1), .p (.bool r.2)] } := by
 refine mo Tryz.func8 [(0, .d false [.sl none (a0.map (eF eI))]), (1, .p (iV a1))] ?_
 unfold spec_WalkDigits at h
 refine k_sreg (r_gq [(0, .d false [.sl none (a0.map (eF eI))]), (1, .p (iV a1))] [] trivial) ?_
 refine k_seq ?_
 replace h := bs h
 obtain ⟨v1, hv1, h⟩ := h
 replace h := bs h
 obtain ⟨w3, hw3, h⟩ := h
 refine k_sreg (l1 := [(0, .d false [.sl none (a0.map (eF eI))]), (1, .p (iV a1)), (15, .p (.bool w3))]) ?_ ?_
 ·clear h
  rcases ft (!v1) with ha0 | ha0
  ·replace hw3 := ite_t ha0 hw3
   have hw3 := oi hw3
   subst hw3
   exact (r_gq [(0, .d false [.sl none (a0.map (eF eI))]), (1, .p (iV a1)), (15, .p (.bool true))] [(1, {call := some (none, [.p (.bool v1)], true)}), (4, gT), (5, gT), (6, gT), (7, bT)] (A5 (wk_spec_grGood hv1) ha0 ha0 ha0 ha0))
  ·replace hw3 := ite_f ha0 hw3
   replace hw3 := bs hw3
   obtain ⟨v2, hv2, hw3⟩ := hw3
   have hw3 := oi hw3
   subst hw3
   exact (r_gq [(0, .d false [.sl none (a0.map (eF eI))]), (1, .p (iV a1)), (15, .p (.bool (!v2)))] [(1, {call := some (none, [.p (.bool v1)], true)}), (4, gF), (5, {g := some false, call := some (none, [.p (.bool v2)], true)}), (6, gF), (7, bF)] (A6 (wk_spec_grGood hv1) ha0 ha0 (wk_spec_grSteps hv2) ha0 ha0))
 ·refine kc w3 (fun hc2_3 => ?_) (fun hc2_3 => ?_)
  ·replace h := ite_t hc2_3 h
   refine k_sreg (r_gq [(4, .p (iV 0)), (5, .p (.bool false))] [] trivial) ?_
   refine k_ret ?_
   refine q_r ?_
   obtain rfl := oi h
   exact er [(.p (iV 0), 4), (.p (.bool false), 5)]
  ·replace h := ite_f hc2_3 h
   refine k_skip ?_
   refine q_n ?_
   replace h := bs h
   obtain ⟨v5, hv5, h⟩ := h
   refine k_sreg (r_gq [(6, .p (iV v5))] [(2, {call := some (none, [.p (iV v5)], true)})] (A1 (wk_spec_gwTotal hv5))) ?_
   refine k_seq ?_
   refine k_sreg (l1 := [(6, .p (iV v5)), (24, .p (.bool ((v5 == 0) || (decide (v5 > 1000000000)))))]) ?_ ?_
   ·rcases ft (v5 == 0) with ha1 | ha1
    ·exact RegOk.of_eq (l2 := [(6, .p (iV v5)), (24, .p (.bool ((v5 == 0) || (decide (v5 > 1000000000)))))]) (r_gq [(6, .p (iV v5)), (24, .p (.bool true))] [(3, gT), (4, gT), (5, bT)] (A3 ha1 ha1 ha1)) (by simp [ha1])
    ·exact RegOk.of_eq (l2 := [(6, .p (iV v5)), (24, .p (.bool ((v5 == 0) || (decide (v5 > 1000000000)))))]) (r_gq [(6, .p (iV v5)), (24, .p (.bool (decide (v5 > 1000000000))))] [(3, gF), (4, gF), (5, bF)] (A3 ha1 ha1 ha1)) (by simp [ha1])
   ·refine kc ((v5 == 0) || (decide (v5 > 1000000000))) (fun hc2_5 => ?_) (fun hc2_5 => ?_)
    ·replace h := ite_t hc2_5 h
     refine k_sreg (r_gq [(4, .p (iV 0)), (5, .p (.bool false))] [] trivial) ?_
     refine k_ret ?_
     refine q_r ?_
     obtain rfl := oi h
     exact er [(.p (iV 0), 4), (.p (.bool false), 5)]
    ·replace h := ite_f hc2_5 h
     refine k_skip ?_
     refine q_n ?_
     refine k_sreg (r_gq [(6, .p (iV v5)), (7, .p (iV 0))] [] trivial) ?_
     refine k_join (J := fun (x : Int) => [(7, .p (iV x))]) (K := fun x => spec_WalkDigits_k1 x = some r) (fun x7 h => ?_) ?_
     ·unfold spec_WalkDigits_k1 at h
      refine k_sreg (r_gq [(4, .p (iV x7)), (5, .p (.bool true))] [] trivial) ?_
      refine k_ret ?_
      obtain rfl := oi h
      exact er [(.p (iV x7), 4), (.p (.bool true), 5)]
     ·refine k_block ?_
      obtain ⟨y9, hl_x8, hk_x8⟩ := bs h
      clear h
      refine k_loop (J := fun (x : Qr) => [(6, .p (iV x.1)), (7, .p (iV x.2))]) hl_x8 (wk_of (by kernel_rfl) (by kernel_rfl)) (fun x8 o_x8 h hy_x8 => ?_)
      unfold spec_WalkDigits_b1 at h
      refine k_seq ?_
      refine k_sreg (r_gq [(6, .p (iV x8.1)), (7, .p (iV x8.2)), (26, .p (.bool (decide (x8.1 > 1))))] [] trivial) ?_
      refine kc (decide (x8.1 > 1)) (fun hc5_9 => ?_) (fun hc5_9 => ?_)
      ·replace h := ite_t hc5_9 h
       refine k_skip ?_
       refine q_n ?_
       refine k_block ?_
       refine k_sreg (r_gq [(6, .p (iV (w64 (Int.tdiv x8.1 2)))), (7, .p (iV x8.2))] [] (A1 (show 2 ≠ (0 : Int) from (by decide)))) ?_
       refine k_reg (r_gq [(6, .p (iV (w64 (Int.tdiv x8.1 2)))), (7, .p (iV (w64 (x8.2 + 1))))] [] trivial) ?_
       refine b_n ?_
       exact lqn ((w64 (Int.tdiv x8.1 2)), (w64 (x8.2 + 1))) h
      ·replace h := ite_f hc5_9 h
       refine k_exit ?_
       refine q_x ?_
       refine lq_x ?_
       refine b_x ?_
       have hyy := hy_x8 _ (oi h).symm
       subst hyy
       have h := hk_x8
       refine q_n ?_
       exact jx x8.2 h
theorem wk_spec_DrawGrowsFaster {a0 : (List Int)}  {r : ((List (List Int)) × (List (List Int)))} (h : spec_DrawGrowsFaster a0 = some r) : Meets Tryz.prog 9 [.d false [.sl none (a0.map (eU .u8))]] { vals := [.ov false [.sl (some 42) (r.1.map (eO 3 eI))], .ov false [.sl (some 42) (r.2.map (eO 3 eI))]] } := by
 refine mo Tryz.func9 [(0, .d false [.sl none (a0.map (eU .u8))])] ?_
 unfold spec_DrawGrowsFaster at h
 refine k_sreg (r_gq [(0, .d false [.sl none (a0.map (eU .u8))])] [] trivial) ?_
 refine k_sreg (r_gq [(4, .addr 7 [(0, 0)]), (7, .box (eCu (a0, 0, 0)))] [] trivial) ?_
 replace h := bs h
 obtain ⟨v1, hv1, h⟩ := h
 replace h := bs h
 obtain ⟨v2, hv2, h⟩ := h
 refine k_sreg (r_gq [(2, .ov false [.sl (some 42) (v1.1.map (eO 3 eI))]), (3, .ov false [.sl (some 42) (v2.1.map (eO 3 eI))])] [(1, {lend := some (none, [.ov false [.sl (some 42) (v1.1.map (eO 3 eI))]], .box (eCu v1.2), false)}), (3, {lend := some (none, [.ov false [.sl (some 42) (v2.1.map (eO 3 eI))]], .box (eCu v2.2), false)})] (A2 (wk_spec_l1Cur_anyGraph hv1) (wk_spec_l1Cur_anyGraph hv2))) ?_
 refine k_ret ?_
 obtain rfl := oi h
 exact er [(.ov false [.sl (some 42) (v1.1.map (eO 3 eI))], 2), (.ov false [.sl (some 42) (v2.1.map (eO 3 eI))], 3)]
theorem wk_math_bits_Mul64 {a0 : Int} {a1 : Int}  {r : Qr} (h : math_bits_Mul64 a0 a1 = some r) : Meets Tryz.prog 92 [.v (.int .u64 a0), .v (.int .u64 a1)] { vals := [.p (.int .u64 r.1), .p (.int .u64 r.2)] } := by
 refine mo Tryz.func92 [(0, .p (.int .u64 a0)), (1, .p (.int .u64 a1))] ?_
 unfold math_bits_Mul64 at h
 refine k_sreg (r_gq [(0, .p (.int .u64 a0)), (1, .p (.int .u64 a1))] [] trivial) ?_
 refine k_sreg (r_gq [(0, .p (.int .u64 a0)), (1, .p (.int .u64 a1)), (6, .p (.int .u64 (iand .u64 a0 4294967295)))] [(1, {pv := some (.int .u64 (iand .u64 a0 4294967295))})] (A1 (show PureAt Tryz.prog (.binOp .and 50 (.tmp 14) (.const (.int .u64 4294967295)) 50) [.int .u64 a0, .int .u64 4294967295] (.int .u64 (iand .u64 a0 4294967295)) from (pure_and)))) ?_
 refine k_sreg (r_gq [(0, .p (.int .u64 a0)), (1, .p (.int .u64 a1)), (6, .p (.int .u64 (iand .u64 a0 4294967295))), (7, .p (.int .u64 (ishr .u64 a0 32)))] [(1, {pv := some (.int .u64 (ishr .u64 a0 32))})] (A1 (show PureAt Tryz.prog (.binOp .shr 50 (.tmp 16) (.const (.int .u64 32)) 38) [.int .u64 a0, .int .u64 32] (.int .u64 (ishr .u64 a0 32)) from (pure_shr (by decide))))) ?_
 refine k_sreg (r_gq [(0, .p (.int .u64 a0)), (1, .p (.int .u64 a1)), (6, .p (.int .u64 (iand .u64 a0 4294967295))), (7, .p (.int .u64 (ishr .u64 a0 32))), (8, .p (.int .u64 (iand .u64 a1 4294967295)))] [(1, {pv := some (.int .u64 (iand .u64 a1 4294967295))})] (A1 (show PureAt Tryz.prog (.binOp .and 50 (.tmp 18) (.const (.int .u64 4294967295)) 50) [.int .u64 a1, .int .u64 4294967295] (.int .u64 (iand .u64 a1 4294967295)) from (pure_and)))) ?_
 refine k_sreg (r_gq [(0, .p (.int .u64 a0)), (1, .p (.int .u64 a1)), (6, .p (.int .u64 (iand .u64 a0 4294967295))), (7, .p (.int .u64 (ishr .u64 a0 32))), (8, .p (.int .u64 (iand .u64 a1 4294967295))), (9, .p (.int .u64 (ishr .u64 a1 32)))] [(1, {pv := some (.int .u64 (ishr .u64 a1 32))})] (A1 (show PureAt Tryz.prog (.binOp .shr 50 (.tmp 20) (.const (.int .u64 32)) 38) [.int .u64 a1, .int .u64 32] (.int .u64 (ishr .u64 a1 32)) from (pure_shr (by decide))))) ?_
 refine k_sreg (r_gq [(0, .p (.int .u64 a0)), (1, .p (.int .u64 a1)), (6, .p (.int .u64 (iand .u64 a0 4294967295))), (7, .p (.int .u64 (ishr .u64 a0 32))), (8, .p (.int .u64 (iand .u64 a1 4294967295))), (9, .p (.int .u64 (ishr .u64 a1 32))), (10, .p (.int .u64 (IntKind.wrap .u64 ((iand .u64 a0 4294967295) * (iand .u64 a1 4294967295)))))] [] trivial) ?_
 refine k_sreg (r_gq [(0, .p (.int .u64 a0)), (1, .p (.int .u64 a1)), (6, .p (.int .u64 (iand .u64 a0 4294967295))), (7, .p (.int .u64 (ishr .u64 a0 32))), (9, .p (.int .u64 (ishr .u64 a1 32))), (11, .p (.int .u64 (IntKind.wrap .u64 ((IntKind.wrap .u64 ((ishr .u64 a0 32) * (iand .u64 a1 4294967295))) + (ishr .u64 (IntKind.wrap .u64 ((iand .u64 a0 4294967295) * (iand .u64 a1 4294967295))) 32)))))] [(4, {pv := some (.int .u64 (ishr .u64 (IntKind.wrap .u64 ((iand .u64 a0 4294967295) * (iand .u64 a1 4294967295))) 32))})] (A1 (show PureAt Tryz.prog (.binOp .shr 50 (.tmp 28) (.const (.int .u64 32)) 38) [.int .u64 (IntKind.wrap .u64 ((iand .u64 a0 4294967295) * (iand .u64 a1 4294967295))), .int .u64 32] (.int .u64 (ishr .u64 (IntKind.wrap .u64 ((iand .u64 a0 4294967295) * (iand .u64 a1 4294967295))) 32)) from (pure_shr (by decide))))) ?_
 refine k_sreg (r_gq [(0, .p (.int .u64 a0)), (1, .p (.int .u64 a1)), (6, .p (.int .u64 (iand .u64 a0 4294967295))), (7, .p (.int .u64 (ishr .u64 a0 32))), (9, .p (.int .u64 (ishr .u64 a1 32))), (11, .p (.int .u64 (IntKind.wrap .u64 ((IntKind.wrap .u64 ((ishr .u64 a0 32) * (iand .u64 a1 4294967295))) + (ishr .u64 (IntKind.wrap .u64 ((iand .u64 a0 4294967295) * (iand .u64 a1 4294967295))) 32))))), (12, .p (.int .u64 (iand .u64 (IntKind.wrap .u64 ((IntKind.wrap .u64 ((ishr .u64 a0 32) * (iand .u64 a1 4294967295))) + (ishr .u64 (IntKind.wrap .u64 ((iand .u64 a0 4294967295) * (iand .u64 a1 4294967295))) 32))) 4294967295)))] [(1, {pv := some (.int .u64 (iand .u64 (IntKind.wrap .u64 ((IntKind.wrap .u64 ((ishr .u64 a0 32) * (iand .u64 a1 4294967295))) + (ishr .u64 (IntKind.wrap .u64 ((iand .u64 a0 4294967295) * (iand .u64 a1 4294967295))) 32))) 4294967295))})] (A1 (show PureAt Tryz.prog (.binOp .and 50 (.tmp 31) (.const (.int .u64 4294967295)) 50) [.int .u64 (IntKind.wrap .u64 ((IntKind.wrap .u64 ((ishr .u64 a0 32) * (iand .u64 a1 4294967295))) + (ishr .u64 (IntKind.wrap .u64 ((iand .u64 a0 4294967295) * (iand .u64 a1 4294967295))) 32))), .int .u64 4294967295] (.int .u64 (iand .u64 (IntKind.wrap .u64 ((IntKind.wrap .u64 ((ishr .u64 a0 32) * (iand .u64 a1 4294967295))) + (ishr .u64 (IntKind.wrap .u64 ((iand .u64 a0 4294967295) * (iand .u64 a1 4294967295))) 32))) 4294967295)) from (pure_and)))) ?_
 refine k_sreg (r_gq [(0, .p (.int .u64 a0)), (1, .p (.int .u64 a1)), (6, .p (.int .u64 (iand .u64 a0 4294967295))), (7, .p (.int .u64 (ishr .u64 a0 32))), (9, .p (.int .u64 (ishr .u64 a1 32))), (12, .p (.int .u64 (iand .u64 (IntKind.wrap .u64 ((IntKind.wrap .u64 ((ishr .u64 a0 32) * (iand .u64 a1 4294967295))) + (ishr .u64 (IntKind.wrap .u64 ((iand .u64 a0 4294967295) * (iand .u64 a1 4294967295))) 32))) 4294967295))), (13, .p (.int .u64 (ishr .u64 (IntKind.wrap .u64 ((IntKind.wrap .u64 ((ishr .u64 a0 32) * (iand .u64 a1 4294967295))) + (ishr .u64 (IntKind.wrap .u64 ((iand .u64 a0 4294967295) * (iand .u64 a1 4294967295))) 32))) 32)))] [(1, {pv := some (.int .u64 (ishr .u64 (IntKind.wrap .u64 ((IntKind.wrap .u64 ((ishr .u64 a0 32) * (iand .u64 a1 4294967295))) + (ishr .u64 (IntKind.wrap .u64 ((iand .u64 a0 4294967295) * (iand .u64 a1 4294967295))) 32))) 32))})] (A1 (show PureAt Tryz.prog (.binOp .shr 50 (.tmp 33) (.const (.int .u64 32)) 38) [.int .u64 (IntKind.wrap .u64 ((IntKind.wrap .u64 ((ishr .u64 a0 32) * (iand .u64 a1 4294967295))) + (ishr .u64 (IntKind.wrap .u64 ((iand .u64 a0 4294967295) * (iand .u64 a1 4294967295))) 32))), .int .u64 32] (.int .u64 (ishr .u64 (IntKind.wrap .u64 ((IntKind.wrap .u64 ((ishr .u64 a0 32) * (iand .u64 a1 4294967295))) + (ishr .u64 (IntKind.wrap .u64 ((iand .u64 a0 4294967295) * (iand .u64 a1 4294967295))) 32))) 32)) from (pure_shr (by decide))))) ?_
 refine k_sreg (r_gq [(0, .p (.int .u64 a0)), (1, .p (.int .u64 a1)), (7, .p (.int .u64 (ishr .u64 a0 32))), (9, .p (.int .u64 (ishr .u64 a1 32))), (12, .p (.int .u64 (IntKind.wrap .u64 ((iand .u64 (IntKind.wrap .u64 ((IntKind.wrap .u64 ((ishr .u64 a0 32) * (iand .u64 a1 4294967295))) + (ishr .u64 (IntKind.wrap .u64 ((iand .u64 a0 4294967295) * (iand .u64 a1 4294967295))) 32))) 4294967295) + (IntKind.wrap .u64 ((iand .u64 a0 4294967295) * (ishr .u64 a1 32))))))), (13, .p (.int .u64 (ishr .u64 (IntKind.wrap .u64 ((IntKind.wrap .u64 ((ishr .u64 a0 32) * (iand .u64 a1 4294967295))) + (ishr .u64 (IntKind.wrap .u64 ((iand .u64 a0 4294967295) * (iand .u64 a1 4294967295))) 32))) 32)))] [] trivial) ?_
 refine k_sreg (r_gq [(0, .p (.int .u64 a0)), (1, .p (.int .u64 a1)), (4, .p (.int .u64 (IntKind.wrap .u64 ((IntKind.wrap .u64 ((IntKind.wrap .u64 ((ishr .u64 a0 32) * (ishr .u64 a1 32))) + (ishr .u64 (IntKind.wrap .u64 ((IntKind.wrap .u64 ((ishr .u64 a0 32) * (iand .u64 a1 4294967295))) + (ishr .u64 (IntKind.wrap .u64 ((iand .u64 a0 4294967295) * (iand .u64 a1 4294967295))) 32))) 32))) + (ishr .u64 (IntKind.wrap .u64 ((iand .u64 (IntKind.wrap .u64 ((IntKind.wrap .u64 ((ishr .u64 a0 32) * (iand .u64 a1 4294967295))) + (ishr .u64 (IntKind.wrap .u64 ((iand .u64 a0 4294967295) * (iand .u64 a1 4294967295))) 32))) 4294967295) + (IntKind.wrap .u64 ((iand .u64 a0 4294967295) * (ishr .u64 a1 32))))) 32)))))] [(6, {pv := some (.int .u64 (ishr .u64 (IntKind.wrap .u64 ((iand .u64 (IntKind.wrap .u64 ((IntKind.wrap .u64 ((ishr .u64 a0 32) * (iand .u64 a1 4294967295))) + (ishr .u64 (IntKind.wrap .u64 ((iand .u64 a0 4294967295) * (iand .u64 a1 4294967295))) 32))) 4294967295) + (IntKind.wrap .u64 ((iand .u64 a0 4294967295) * (ishr .u64 a1 32))))) 32))})] (A1 (show PureAt Tryz.prog (.binOp .shr 50 (.tmp 45) (.const (.int .u64 32)) 38) [.int .u64 (IntKind.wrap .u64 ((iand .u64 (IntKind.wrap .u64 ((IntKind.wrap .u64 ((ishr .u64 a0 32) * (iand .u64 a1 4294967295))) + (ishr .u64 (IntKind.wrap .u64 ((iand .u64 a0 4294967295) * (iand .u64 a1 4294967295))) 32))) 4294967295) + (IntKind.wrap .u64 ((iand .u64 a0 4294967295) * (ishr .u64 a1 32))))), .int .u64 32] (.int .u64 (ishr .u64 (IntKind.wrap .u64 ((iand .u64 (IntKind.wrap .u64 ((IntKind.wrap .u64 ((ishr .u64 a0 32) * (iand .u64 a1 4294967295))) + (ishr .u64 (IntKind.wrap .u64 ((iand .u64 a0 4294967295) * (iand .u64 a1 4294967295))) 32))) 4294967295) + (IntKind.wrap .u64 ((iand .u64 a0 4294967295) * (ishr .u64 a1 32))))) 32)) from (pure_shr (by decide))))) ?_
 refine k_sreg (r_gq [(4, .p (.int .u64 (IntKind.wrap .u64 ((IntKind.wrap .u64 ((IntKind.wrap .u64 ((ishr .u64 a0 32) * (ishr .u64 a1 32))) + (ishr .u64 (IntKind.wrap .u64 ((IntKind.wrap .u64 ((ishr .u64 a0 32) * (iand .u64 a1 4294967295))) + (ishr .u64 (IntKind.wrap .u64 ((iand .u64 a0 4294967295) * (iand .u64 a1 4294967295))) 32))) 32))) + (ishr .u64 (IntKind.wrap .u64 ((iand .u64 (IntKind.wrap .u64 ((IntKind.wrap .u64 ((ishr .u64 a0 32) * (iand .u64 a1 4294967295))) + (ishr .u64 (IntKind.wrap .u64 ((iand .u64 a0 4294967295) * (iand .u64 a1 4294967295))) 32))) 4294967295) + (IntKind.wrap .u64 ((iand .u64 a0 4294967295) * (ishr .u64 a1 32))))) 32))))), (5, .p (.int .u64 (IntKind.wrap .u64 (a0 * a1))))] [] trivial) ?_
 refine k_ret ?_
 obtain rfl := oi h
 exact er [(.p (.int .u64 (IntKind.wrap .u64 ((IntKind.wrap .u64 ((IntKind.wrap .u64 ((ishr .u64 a0 32) * (ishr .u64 a1 32))) + (ishr .u64 (IntKind.wrap .u64 ((IntKind.wrap .u64 ((ishr .u64 a0 32) * (iand .u64 a1 4294967295))) + (ishr .u64 (IntKind.wrap .u64 ((iand .u64 a0 4294967295) * (iand .u64 a1 4294967295))) 32))) 32))) + (ishr .u64 (IntKind.wrap .u64 ((iand .u64 (IntKind.wrap .u64 ((IntKind.wrap .u64 ((ishr .u64 a0 32) * (iand .u64 a1 4294967295))) + (ishr .u64 (IntKind.wrap .u64 ((iand .u64 a0 4294967295) * (iand .u64 a1 4294967295))) 32))) 4294967295) + (IntKind.wrap .u64 ((iand .u64 a0 4294967295) * (ishr .u64 a1 32))))) 32)))), 4), (.p (.int .u64 (IntKind.wrap .u64 (a0 * a1))), 5)]
theorem wk_math_bits_Mul {a0 : Int} {a1 : Int}  {r : Qr} (h : math_bits_Mul a0 a1 = some r) : Meets Tryz.prog 87 [.v (.int .u64 a0), .v (.int .u64 a1)] { vals := [.p (.int .u64 r.1), .p (.int .u64 r.2)] } := by
 refine mo Tryz.func87 [(0, .p (.int .u64 a0)), (1, .p (.int .u64 a1))] ?_
 unfold math_bits_Mul at h
 refine k_sreg (r_gq [(0, .p (.int .u64 a0)), (1, .p (.int .u64 a1))] [] trivial) ?_
 refine k_seq ?_
 refine kc false (fun hno => by rw [show false = false from rfl] at hno; cases hno) (fun _ => ?_)
 refine k_skip ?_
 refine q_n ?_
 replace h := bs h
 obtain ⟨v2, hv2, h⟩ := h
 refine k_sreg (r_gq [(8, .p (.int .u64 v2.1)), (9, .p (.int .u64 v2.2))] [(2, {call := some (none, [.p (.int .u64 v2.1), .p (.int .u64 v2.2)], true)})] (A1 (wk_math_bits_Mul64 hv2))) ?_
 refine k_sreg (r_gq [(4, .p (.int .u64 v2.1)), (5, .p (.int .u64 v2.2))] [] trivial) ?_
 refine k_ret ?_
 obtain rfl := oi h
 exact er [(.p (.int .u64 v2.1), 4), (.p (.int .u64 v2.2), 5)]
theorem wk_slices_Repeat_Lint_int {a0 : (List Int)} {a1 : Int}  {r : (List Int)} (h : slices_Repeat_Lint_int a0 a1 = some r) : Meets Tryz.prog 72 [.d false [.sl none (a0.map eI)], wI a1] { vals := [.ov false [.sl (some 3) (r.map eI)]] } := by
 refine mo Tryz.func72 [(0, .d false [.sl none (a0.map eI)]), (1, .p (iV a1))] ?_
 unfold slices_Repeat_Lint_int at h
 refine k_sreg (r_gq [(0, .d false [.sl none (a0.map eI)]), (1, .p (iV a1))] [] trivial) ?_
 refine k_join (J := fun (x : Unit) => [(0, .d false [.sl none (a0.map eI)]), (1, .p (iV a1))]) (K := fun x => slices_Repeat_Lint_int_k1 a0 a1 x = some r) (fun x1 h => ?_) ?_
 ·unfold slices_Repeat_Lint_int_k1 at h
  replace h := bs h
  obtain ⟨v2, hv2, h⟩ := h
  refine k_sreg (r_gq [(0, .d false [.sl none (a0.map eI)]), (5, .p (.int .u64 v2.1)), (6, .p (.int .u64 v2.2))] [(1, {n := some a0.length}), (2, {pv := some (.int .u64 (IntKind.wrap .u64 (a0.length : Int)))}), (4, {pv := some (.int .u64 (IntKind.wrap .u64 a1))}), (5, {call := some (none, [.p (.int .u64 v2.1), .p (.int .u64 v2.2)], true)})] (A4 (show (a0.map eI).length = a0.length from (List.length_map ..)) (show PureAt Tryz.prog (.convert 3 38 (.tmp 14)) [.int .i64 (a0.length : Int)] (.int .u64 (IntKind.wrap .u64 (a0.length : Int))) from (pure_conv Tryz_und3 Tryz_und38)) (show PureAt Tryz.prog (.convert 3 38 (.tmp 16)) [.int .i64 a1] (.int .u64 (IntKind.wrap .u64 a1)) from (pure_conv Tryz_und3 Tryz_und38)) (wk_math_bits_Mul hv2))) ?_
  refine k_join (J := fun (x : Unit) => [(0, .d false [.sl none (a0.map eI)]), (6, .p (.int .u64 v2.2))]) (K := fun x => slices_Repeat_Lint_int_k2 a0 v2 x = some r) (fun x3 h => ?_) ?_
  ·unfold slices_Repeat_Lint_int_k2 at h
   replace h := bs h
   obtain ⟨u4, hu4, h⟩ := h
   refine k_sreg (r_gq [(0, .d false [.sl none (a0.map eI)]), (7, .ov false [.sl (some 3) ((List.replicate (Int.toNat (IntKind.wrap .i64 v2.2)) (0 : Int)).map eI)])] [(1, {pv := some (iV (IntKind.wrap .i64 v2.2))}), (2, {fix := some (30, .ov false [.sl (some 3) ((List.replicate (Int.toNat (IntKind.wrap .i64 v2.2)) (0 : Int)).map eI)])})] (A5 (show PureAt Tryz.prog (.convert 38 3 (.tmp 28)) [.int .u64 v2.2] (iV (IntKind.wrap .i64 v2.2)) from (pure_conv Tryz_und38 Tryz_und3)) (show (IntKind.wrap .i64 v2.2) = (IntKind.wrap .i64 v2.2) from rfl) (guardO_some hu4).1 (guardO_some hu4).2 (show (SV.ov false [.sl (some 3) (List.replicate (Int.toNat (IntKind.wrap .i64 v2.2)) [rI 0])] : SV) = .ov false [.sl (some 3) ((List.replicate (Int.toNat (IntKind.wrap .i64 v2.2)) (0 : Int)).map eI)] from (congrArg (fun z => SV.ov false [.sl (some 3) z]) (rep_fix eI (0 : Int)))))) ?_
   refine k_sreg (r_copy0 (t := 42) (e := 3) (rows := ((List.replicate (Int.toNat (IntKind.wrap .i64 v2.2)) (0 : Int)).map eI)) (rows2 := (a0.map eI)) (rows' := ((copyAt (List.replicate (Int.toNat (IntKind.wrap .i64 v2.2)) (0 : Int)) 0 a0).map eI)) (n := ((min a0.length (List.replicate (Int.toNat (IntKind.wrap .i64 v2.2)) (0 : Int)).length : Nat) : Int)) [(7, .ov false [.sl (some 3) ((copyAt (List.replicate (Int.toNat (IntKind.wrap .i64 v2.2)) (0 : Int)) 0 a0).map eI)]), (8, .p (iV ((min a0.length (List.replicate (Int.toNat (IntKind.wrap .i64 v2.2)) (0 : Int)).length : Nat) : Int)))] ⟨rfl, rfl, rfl⟩ ⟨rfl, rfl, rfl⟩ ⟨rfl, rfl, rfl⟩ ⟨rfl, rfl, rfl⟩ (by kernel_rfl) (by kernel_rfl) (by kernel_rfl) (by kernel_rfl) (by kernel_rfl) (by kernel_rfl) (raw_map fun _ => rfl) (raw_map1 fun _ => ⟨rfl, rfl⟩) (by simp) (copyAt_map eI (List.replicate (Int.toNat (IntKind.wrap .i64 v2.2)) (0 : Int)) a0 0)) ?_
   refine k_join (J := fun (x : (List Int)) => [(7, .ov false [.sl (some 3) (x.map eI)])]) (K := fun x => slices_Repeat_Lint_int_k3 x = some r) (fun x5 h => ?_) ?_
   ·unfold slices_Repeat_Lint_int_k3 at h
    refine k_sreg (r_gq [(4, .ov false [.sl (some 3) (x5.map eI)])] [] trivial) ?_
    refine k_ret ?_
    obtain rfl := oi h
    exact er [(.ov false [.sl (some 3) (x5.map eI)], 4)]
   ·refine k_block ?_
    obtain ⟨y7, hl_x6, hk_x6⟩ := bs h
    clear h
    refine k_loop (J := fun (x : ((List Int) × Int)) => [(7, .ov false [.sl (some 3) (x.1.map eI)]), (8, .p (iV x.2))]) hl_x6 (wk_of (by kernel_rfl) (by kernel_rfl)) (fun x6 o_x6 h hy_x6 => ?_)
    unfold slices_Repeat_Lint_int_b1 at h
    refine k_seq ?_
    refine k_sreg (r_gq [(7, .ov false [.sl (some 3) (x6.1.map eI)]), (8, .p (iV x6.2)), (37, .p (.bool (decide (x6.2 < (x6.1.length : Int)))))] [(2, {n := some x6.1.length})] (A1 (show (x6.1.map eI).length = x6.1.length from (List.length_map ..)))) ?_
    refine kc (decide (x6.2 < (x6.1.length : Int))) (fun hc5_7 => ?_) (fun hc5_7 => ?_)
    ·replace h := ite_t hc5_7 h
     refine k_skip ?_
     refine q_n ?_
     refine k_block ?_
     replace h := bs h
     obtain ⟨u9, hu9, h⟩ := h
     refine k_reg (r_copy1 (t := 42) (e := 3) (rows := (x6.1.map eI)) (rows' := ((copyAt x6.1 (Int.toNat x6.2) (x6.1.take (Int.toNat x6.2))).map eI)) (n := x6.2) (n' := (w64 (x6.2 + (min (Int.toNat x6.2) (x6.1.length - (Int.toNat x6.2)) : Nat)))) [(7, .ov false [.sl (some 3) ((copyAt x6.1 (Int.toNat x6.2) (x6.1.take (Int.toNat x6.2))).map eI)]), (8, .p (iV (w64 (x6.2 + (min (Int.toNat x6.2) (x6.1.length - (Int.toNat x6.2)) : Nat)))))] Tryz_mixed ⟨rfl, rfl⟩ ⟨rfl, rfl⟩ ⟨rfl, rfl⟩ ⟨rfl, rfl⟩ ⟨rfl, rfl⟩ ⟨rfl, rfl⟩ ⟨rfl, rfl⟩ ⟨rfl, rfl⟩ ⟨rfl, rfl⟩ ⟨rfl, rfl⟩ (by kernel_rfl) (by kernel_rfl) (by kernel_rfl) (by kernel_rfl) (by kernel_rfl) (by kernel_rfl) (raw_map fun _ => rfl) (guardO_some hu9).1 (by have hg := (guardO_some hu9).2; simpa using hg) (by simp) (by rw [← List.map_take]; exact copyAt_map eI x6.1 _ _)) ?_
     refine b_n ?_
     exact lqn ((copyAt x6.1 (Int.toNat x6.2) (x6.1.take (Int.toNat x6.2))), (w64 (x6.2 + (min (Int.toNat x6.2) (x6.1.length - (Int.toNat x6.2)) : Nat)))) h
    ·replace h := ite_f hc5_7 h
     refine k_exit ?_
     refine q_x ?_
     refine lq_x ?_
     refine b_x ?_
     have hyy := hy_x6 _ (oi h).symm
     subst hyy
     have h := hk_x6
     refine q_n ?_
     exact jx x6.1 h
  ·refine k_sreg (l1 := [(0, .d false [.sl none (a0.map eI)]), (6, .p (.int .u64 v2.2)), (26, .p (.bool ((decide (v2.1 > 0)) || (decide (v2.2 > 9223372036854775807)))))]) ?_ ?_
   ·rcases ft (decide (v2.1 > 0)) with ha0 | ha0
    ·exact RegOk.of_eq (l2 := [(0, .d false [.sl none (a0.map eI)]), (6, .p (.int .u64 v2.2)), (26, .p (.bool ((decide (v2.1 > 0)) || (decide (v2.2 > 9223372036854775807)))))]) (r_gq [(0, .d false [.sl none (a0.map eI)]), (6, .p (.int .u64 v2.2)), (26, .p (.bool true))] [(3, gT), (4, gT), (5, bT)] (A3 ha0 ha0 ha0)) (by simp [ha0])
    ·exact RegOk.of_eq (l2 := [(0, .d false [.sl none (a0.map eI)]), (6, .p (.int .u64 v2.2)), (26, .p (.bool ((decide (v2.1 > 0)) || (decide (v2.2 > 9223372036854775807)))))]) (r_gq [(0, .d false [.sl none (a0.map eI)]), (6, .p (.int .u64 v2.2)), (26, .p (.bool (decide (v2.2 > 9223372036854775807))))] [(3, gF), (4, gF), (5, bF)] (A3 ha0 ha0 ha0)) (by simp [ha0])
   ·refine kc ((decide (v2.1 > 0)) || (decide (v2.2 > 9223372036854775807))) (fun hc2_9 => ?_) (fun hc2_9 => ?_)
    ·replace h := ite_t hc2_9 h
     cases h
    ·replace h := ite_f hc2_9 h
     refine k_skip ?_
     refine q_n ?_
     exact jx () h
 ·refine k_sreg (r_gq [(0, .d false [.sl none (a0.map eI)]), (1, .p (iV a1)), (10, .p (.bool (decide (a1 < 0))))] [] trivial) ?_
  refine kc (decide (a1 < 0)) (fun hc2_10 => ?_) (fun hc2_10 => ?_)
  ·replace h := ite_t hc2_10 h
   cases h
  ·replace h := ite_f hc2_10 h
   refine k_skip ?_
   refine q_n ?_
   exact jx () h
theorem wk_impl_times {a0 : (List (List Int))} {a1 : (List Int)}  {r : (List Int)} (h : impl_times a0 a1 = some r) : Meets Tryz.prog 73 [.d false [.sl none (a0.map (eF eI))], .d false [.sl none (a1.map eI)]] { vals := [.ov false [.sl (some 3) (r.map eI)]] } := by
 refine mo Tryz.func73 [(0, .d false [.sl none (a0.map (eF eI))]), (1, .d false [.sl none (a1.map eI)])] ?_
 unfold impl_times at h
 refine k_sreg (r_gq [(0, .d false [.sl none (a0.map (eF eI))]), (1, .d false [.sl none (a1.map eI)])] [] trivial) ?_
 replace h := bs h
 obtain ⟨u1, hu1, h⟩ := h
 refine k_sreg (r_gq [(0, .d false [.sl none (a0.map (eF eI))]), (1, .d false [.sl none (a1.map eI)]), (5, .ov false [.sl (some 3) ((List.replicate (Int.toNat (a0.length : Int)) (0 : Int)).map eI)])] [(1, {n := some a0.length}), (2, {fix := some (12, .ov false [.sl (some 3) ((List.replicate (Int.toNat (a0.length : Int)) (0 : Int)).map eI)])})] (A5 (show (a0.map (eF eI)).length = a0.length from (List.length_map ..)) (show (a0.length : Int) = (a0.length : Int) from rfl) (guardO_some hu1).1 (guardO_some hu1).2 (show (SV.ov false [.sl (some 3) (List.replicate (Int.toNat (a0.length : Int)) [rI 0])] : SV) = .ov false [.sl (some 3) ((List.replicate (Int.toNat (a0.length : Int)) (0 : Int)).map eI)] from (congrArg (fun z => SV.ov false [.sl (some 3) z]) (rep_fix eI (0 : Int)))))) ?_
 refine k_join (J := fun (x : (List Int)) => [(5, .ov false [.sl (some 3) (x.map eI)])]) (K := fun x => impl_times_k1 x = some r) (fun x2 h => ?_) ?_
 ·unfold impl_times_k1 at h
  refine k_sreg (r_gq [(4, .ov false [.sl (some 3) (x2.map eI)])] [] trivial) ?_
  refine k_ret ?_
  obtain rfl := oi h
  exact er [(.ov false [.sl (some 3) (x2.map eI)], 4)]
 ·refine k_sreg (r_gq [(1, .d false [.sl none (a1.map eI)]), (5, .ov false [.sl (some 3) ((List.replicate (Int.toNat (a0.length : Int)) (0 : Int)).map eI)]), (13, .d false [.sl none (a0.map (eF eI))]), (14, .p (iV (a0.length : Int))), (15, .p (iV 0))] [(1, {n := some a0.length})] (A1 (show (a0.map (eF eI)).length = a0.length from (List.length_map ..)))) ?_
  refine k_block ?_
  obtain ⟨y4, hl_x3, hk_x3⟩ := bs h
  clear h
  refine k_loop (J := fun (x : ((List Int) × Int)) => [(1, .d false [.sl none (a1.map eI)]), (5, .ov false [.sl (some 3) (x.1.map eI)]), (13, .d false [.sl none (a0.map (eF eI))]), (14, .p (iV (a0.length : Int))), (15, .p (iV x.2))]) hl_x3 (wk_of (by kernel_rfl) (by kernel_rfl)) (fun x3 o_x3 h hy_x3 => ?_)
  unfold impl_times_b1 at h
  refine k_sreg (r_gq [(1, .d false [.sl none (a1.map eI)]), (5, .ov false [.sl (some 3) (x3.1.map eI)]), (13, .d false [.sl none (a0.map (eF eI))]), (14, .p (iV (a0.length : Int))), (15, .p (iV x3.2)), (16, .p (.bool (decide (x3.2 < (a0.length : Int)))))] [] trivial) ?_
  refine k_seq ?_
  refine kc (decide (x3.2 < (a0.length : Int))) (fun hc5_4 => ?_) (fun hc5_4 => ?_)
  ·replace h := ite_t hc5_4 h
   refine k_skip ?_
   refine q_n ?_
   refine k_join (J := fun (x : (List Int)) => [(1, .d false [.sl none (a1.map eI)]), (5, .ov false [.sl (some 3) (x.map eI)]), (13, .d false [.sl none (a0.map (eF eI))]), (14, .p (iV (a0.length : Int))), (15, .p (iV x3.2))]) (K := fun x => impl_times_k2 x3 x = some o_x3) (fun x6 h => ?_) ?_
   ·unfold impl_times_k2 at h
    refine k_reg (r_gq [(1, .d false [.sl none (a1.map eI)]), (5, .ov false [.sl (some 3) (x6.map eI)]), (13, .d false [.sl none (a0.map (eF eI))]), (14, .p (iV (a0.length : Int))), (15, .p (iV (w64 (x3.2 + 1))))] [] trivial) ?_
    exact lqn (x6, (w64 (x3.2 + 1))) h
   ·refine k_block ?_
    replace h := bs h
    obtain ⟨v7, hv7, h⟩ := h
    refine k_sreg (r_gq [(1, .d false [.sl none (a1.map eI)]), (5, .ov false [.sl (some 3) (x3.1.map eI)]), (6, .p (iV x3.2)), (7, .d false [.sl none (v7.map eI)]), (13, .d false [.sl none (a0.map (eF eI))]), (14, .p (iV (a0.length : Int))), (15, .p (iV x3.2))] [(1, {row := some [.sl none (v7.map eI)]})] (A2 (idxO_some hv7).1 (map_get (eF eI) (idxO_some hv7).2))) ?_
    refine k_sreg (r_gq [(1, .d false [.sl none (a1.map eI)]), (5, .ov false [.sl (some 3) (x3.1.map eI)]), (6, .p (iV x3.2)), (13, .d false [.sl none (a0.map (eF eI))]), (14, .p (iV (a0.length : Int))), (15, .p (iV x3.2)), (20, .d false [.sl none (v7.map eI)]), (21, .p (iV (v7.length : Int))), (22, .p (iV 0))] [(1, {n := some v7.length})] (A1 (show (v7.map eI).length = v7.length from (List.length_map ..)))) ?_
    refine k_block ?_
    obtain ⟨y9, hl_x8, hk_x8⟩ := bs h
    clear h
    refine k_loop (J := fun (x : ((List Int) × Int)) => [(1, .d false [.sl none (a1.map eI)]), (5, .ov false [.sl (some 3) (x.1.map eI)]), (6, .p (iV x3.2)), (13, .d false [.sl none (a0.map (eF eI))]), (14, .p (iV (a0.length : Int))), (15, .p (iV x3.2)), (20, .d false [.sl none (v7.map eI)]), (21, .p (iV (v7.length : Int))), (22, .p (iV x.2))]) hl_x8 (wk_of (by kernel_rfl) (by kernel_rfl)) (fun x8 o_x8 h hy_x8 => ?_)
    unfold impl_times_b2 at h
    refine k_sreg (r_gq [(1, .d false [.sl none (a1.map eI)]), (5, .ov false [.sl (some 3) (x8.1.map eI)]), (6, .p (iV x3.2)), (13, .d false [.sl none (a0.map (eF eI))]), (14, .p (iV (a0.length : Int))), (15, .p (iV x3.2)), (20, .d false [.sl none (v7.map eI)]), (21, .p (iV (v7.length : Int))), (22, .p (iV x8.2)), (23, .p (.bool (decide (x8.2 < (v7.length : Int)))))] [] trivial) ?_
    refine k_seq ?_
    refine kc (decide (x8.2 < (v7.length : Int))) (fun hc9_9 => ?_) (fun hc9_9 => ?_)
    ·replace h := ite_t hc9_9 h
     refine k_skip ?_
     refine q_n ?_
     refine k_seq ?_
     refine k_block ?_
     replace h := bs h
     obtain ⟨v11, hv11, h⟩ := h
     refine k_sreg (r_gq [(1, .d false [.sl none (a1.map eI)]), (5, .ov false [.sl (some 3) (x8.1.map eI)]), (6, .p (iV x3.2)), (8, .p (iV x8.2)), (9, .p (iV v11)), (13, .d false [.sl none (a0.map (eF eI))]), (14, .p (iV (a0.length : Int))), (15, .p (iV x3.2)), (20, .d false [.sl none (v7.map eI)]), (21, .p (iV (v7.length : Int))), (22, .p (iV x8.2))] [(1, {row := some (eI v11)})] (A2 (idxO_some hv11).1 (map_get eI (idxO_some hv11).2))) ?_
     replace h := bs h
     obtain ⟨v12, hv12, h⟩ := h
     replace h := bs h
     obtain ⟨v13, hv13, h⟩ := h
     refine k_reg (r_dq Tryz_mixed 10 [] [(1, .d false [.sl none (a1.map eI)]), (5, .ov false [.sl (some 3) ((x8.1.set (Int.toNat x3.2) (w64 (v12 + (w64 (v11 * v13))))).map eI)]), (6, .p (iV x3.2)), (13, .d false [.sl none (a0.map (eF eI))]), (14, .p (iV (a0.length : Int))), (15, .p (iV x3.2)), (20, .d false [.sl none (v7.map eI)]), (21, .p (iV (v7.length : Int))), (22, .p (iV x8.2))] [(2, {row := some (eI v12)}), (3, {row := some (eI v12)}), (7, {row := some (eI v13)}), (11, {row := some (eI v12)}), (12, {row := some (eI v12), fix := some (5, .ov false [.sl (some 3) ((x8.1.set (Int.toNat x3.2) (w64 (v12 + (w64 (v11 * v13))))).map eI)])})] (B6 (idxO_some hv12).1 (map_get eI (idxO_some hv12).2) (show getRow [[.sl (some 3) (x8.1.map eI)]] [(0, 0), ((Int.toNat x3.2), 0)] = some (eI v12) from ((gr0 rfl).trans (gre (map_get eI (idxO_some hv12).2)))) (idxO_some hv13).1 (map_get eI (idxO_some hv13).2) (idxO_some hv12).1 (A3 (map_get eI (idxO_some hv12).2) (show getRow [[.sl (some 3) (x8.1.map eI)]] [(0, 0), ((Int.toNat x3.2), 0)] = some (eI v12) from ((gr0 rfl).trans (gre (map_get eI (idxO_some hv12).2)))) (show (SV.ov false [.sl (some 3) (setL (x8.1.map eI) [((Int.toNat x3.2), 0)] [rI (w64 (v12 + (w64 (v11 * v13))))])] : SV) = .ov false [.sl (some 3) ((x8.1.set (Int.toNat x3.2) (w64 (v12 + (w64 (v11 * v13))))).map eI)] from (congrArg (fun z => SV.ov false [.sl (some 3) z]) (set1 (f := eI) (y := (w64 (v12 + (w64 (v11 * v13))))) (idxO_some hv12).2 rfl)))))) ?_
     refine b_n ?_
     refine q_n ?_
     refine k_reg (r_gq [(1, .d false [.sl none (a1.map eI)]), (5, .ov false [.sl (some 3) ((x8.1.set (Int.toNat x3.2) (w64 (v12 + (w64 (v11 * v13))))).map eI)]), (6, .p (iV x3.2)), (13, .d false [.sl none (a0.map (eF eI))]), (14, .p (iV (a0.length : Int))), (15, .p (iV x3.2)), (20, .d false [.sl none (v7.map eI)]), (21, .p (iV (v7.length : Int))), (22, .p (iV (w64 (x8.2 + 1))))] [] trivial) ?_
     exact lqn ((x8.1.set (Int.toNat x3.2) (w64 (v12 + (w64 (v11 * v13))))), (w64 (x8.2 + 1))) h
    ·replace h := ite_f hc9_9 h
     refine k_exit ?_
     refine q_x ?_
     refine lq_x ?_
     refine b_x ?_
     refine b_n ?_
     have hyy := hy_x8 _ (oi h).symm
     subst hyy
     have h := hk_x8
     refine q_n ?_
     exact jx x8.1 h
  ·replace h := ite_f hc5_4 h
   refine k_exit ?_
   refine q_x ?_
   refine lq_x ?_
   refine b_x ?_
   have hyy := hy_x3 _ (oi h).symm
   subst hyy
   have h := hk_x3
   refine q_n ?_
   exact jx x3.1 h
theorem wk_impl_isVector_1 {a0 : Int}  {r : Bool} (h : impl_isVector_1 a0 = some r) : Meets Tryz.prog 88 [wI a0] { vals := [.p (.bool r)] } := by
 refine mo Tryz.func88 [(0, .p (iV a0))] ?_
 unfold impl_isVector_1 at h
 refine k_sreg (r_gq [(0, .p (iV a0))] [] trivial) ?_
 replace h := bs h
 obtain ⟨v1, hv1, h⟩ := h
 refine k_sreg (r_gq [(2, .p (.bool (!v1)))] [(1, {call := some (none, [.p (.bool v1)], true)})] (A1 (wk_impl_within hv1))) ?_
 refine k_ret ?_
 obtain rfl := oi h
 exact er [(.p (.bool (!v1)), 2)]
theorem wk_impl_isVector {a0 : (List Int)}  {r : Bool} (h : impl_isVector a0 = some r) : Meets Tryz.prog 74 [.d false [.sl none (a0.map eI)]] { vals := [.p (.bool r)] } := by
 refine mo Tryz.func74 [(0, .d false [.sl none (a0.map eI)])] ?_
 unfold impl_isVector at h
 refine k_sreg (r_gq [(0, .d false [.sl none (a0.map eI)])] [] trivial) ?_
 replace h := bs h
 obtain ⟨v1, hv1, h⟩ := h
 replace h := bs h
 obtain ⟨w3, hw3, h⟩ := h
 refine k_sreg (l1 := [(2, .p (.bool w3))]) ?_ ?_
 ·clear h
  rcases ft v1 with ha0 | ha0
  ·replace hw3 := ite_t ha0 hw3
   replace hw3 := bs hw3
   obtain ⟨v2, hv2, hw3⟩ := hw3
   have hw3 := oi hw3
   subst hw3
   exact (r_gq [(2, .p (.bool (!v2)))] [(1, {n := some a0.length}), (2, {call := some (none, [.p (.bool v1)], true)}), (4, gT), (5, {g := some true, call := some (none, [.p (.bool v2)], true)}), (6, gT), (7, bT)] (B6 (show (a0.map eI).length = a0.length from (List.length_map ..)) (wk_impl_within hv1) ha0 ha0 (show Meets Tryz.prog 67 ([.d false [.sl none (a0.map eI)], .v (.func (.func 88) #[] #[])] ++ []) { vals := [.p (.bool v2)] } from (wk_slices_ContainsFunc_Lint_int_v (fun x0 y hy => wk_impl_isVector_1 hy) hv2)) ha0 (A1 ha0)))
  ·replace hw3 := ite_f ha0 hw3
   have hw3 := oi hw3
   subst hw3
   exact (r_gq [(2, .p (.bool false))] [(1, {n := some a0.length}), (2, {call := some (none, [.p (.bool v1)], true)}), (4, gF), (5, gF), (6, gF), (7, bF)] (A6 (show (a0.map eI).length = a0.length from (List.length_map ..)) (wk_impl_within hv1) ha0 ha0 ha0 ha0))
 ·refine k_ret ?_
  obtain rfl := oi h
  exact er [(.p (.bool w3), 2)]
theorem wk_impl_walkVectors {a0 : (List (List Int))} {a1 : Int}  {r : (List (List Int))} (h : impl_walkVectors a0 a1 = some r) : Meets Tryz.prog 51 [.d false [.sl none (a0.map (eF eI))], wI a1] { vals := [.ov false [.sl (some 42) (r.map (eF eI))]] } := by
 refine mo Tryz.func51 [(0, .d false [.sl none (a0.map (eF eI))]), (1, .p (iV a1))] ?_
 unfold impl_walkVectors at h
 refine k_sreg (r_gq [(0, .d false [.sl none (a0.map (eF eI))]), (1, .p (iV a1))] [] trivial) ?_
 replace h := bs h
 obtain ⟨v1, hv1, h⟩ := h
 refine k_sreg (r_gq [(0, .d false [.sl none (a0.map (eF eI))]), (1, .p (iV a1)), (5, .ov false [.sl (some 3) (v1.map eI)])] [(2, {n := some a0.length}), (3, {call := some (some [.d false [.sl none (([1]).map eI)], wI (a0.length : Int)], [.ov false [.sl (some 3) (v1.map eI)]], true)})] (A4 (show (a0.map (eF eI)).length = a0.length from (List.length_map ..)) (show ([.d false [.sl none (eraL (([1]).map eI))], wI (a0.length : Int)] : List Arg) = [.d false [.sl none (([1]).map eI)], wI (a0.length : Int)] from (by simp only [eraL_enc (h := eI) er_I])) (wk_slices_Repeat_Lint_int hv1) (show List.all [.ov false [.sl (some 3) (v1.map eI)]] simpleR = true from (sa_o (wnR1 (wnL_enc wn_I) rfl) rfl)))) ?_
 refine k_sreg (r_gq [(0, .d false [.sl none (a0.map (eF eI))]), (1, .p (iV a1)), (5, .d false [.sl none (v1.map eI)]), (6, .ov false [.sl (some 42) (([v1]).map (eF eI))])] [(0, {pre := some (5, .d false [.sl none (v1.map eI)])})] (A1 (show (SV.d false (eraR [.sl (some 3) (v1.map eI)]) : SV) = .d false [.sl none (v1.map eI)] from (congrArg (fun z => SV.d false z) (erc_sl (eraL_enc er_I) rfl))))) ?_
 refine k_join (J := fun (x : (List (List Int))) => [(6, .ov false [.sl (some 42) (x.map (eF eI))])]) (K := fun x => impl_walkVectors_k1 x = some r) (fun x2 h => ?_) ?_
 ·unfold impl_walkVectors_k1 at h
  refine k_sreg (r_gq [(4, .ov false [.sl (some 42) (x2.map (eF eI))])] [] trivial) ?_
  refine k_ret ?_
  obtain rfl := oi h
  exact er [(.ov false [.sl (some 42) (x2.map (eF eI))], 4)]
 ·refine k_sreg (r_gq [(0, .d false [.sl none (a0.map (eF eI))]), (5, .d false [.sl none (v1.map eI)]), (6, .ov false [.sl (some 42) (([v1]).map (eF eI))]), (15, .p (iV a1)), (16, .p (iV 0))] [] trivial) ?_
  refine k_block ?_
  obtain ⟨y4, hl_x3, hk_x3⟩ := bs h
  clear h
  refine k_loop (J := fun (x : ((List Int) × (List (List Int)) × Int)) => [(0, .d false [.sl none (a0.map (eF eI))]), (5, .d false [.sl none (x.1.map eI)]), (6, .ov false [.sl (some 42) (x.2.1.map (eF eI))]), (15, .p (iV a1)), (16, .p (iV x.2.2))]) hl_x3 (wk_of (by kernel_rfl) (by kernel_rfl)) (fun x3 o_x3 h hy_x3 => ?_)
  unfold impl_walkVectors_b1 at h
  refine k_sreg (r_gq [(0, .d false [.sl none (a0.map (eF eI))]), (5, .d false [.sl none (x3.1.map eI)]), (6, .ov false [.sl (some 42) (x3.2.1.map (eF eI))]), (15, .p (iV a1)), (16, .p (iV x3.2.2)), (17, .p (.bool (decide (x3.2.2 < a1))))] [] trivial) ?_
  refine k_seq ?_
  refine kc (decide (x3.2.2 < a1)) (fun hc5_4 => ?_) (fun hc5_4 => ?_)
  ·replace h := ite_t hc5_4 h
   refine k_skip ?_
   refine q_n ?_
   refine k_join (J := fun (x : ((List Int) × (List (List Int)))) => [(0, .d false [.sl none (a0.map (eF eI))]), (5, .d false [.sl none (x.1.map eI)]), (6, .ov false [.sl (some 42) (x.2.map (eF eI))]), (15, .p (iV a1)), (16, .p (iV x3.2.2))]) (K := fun x => impl_walkVectors_k2 x3 x = some o_x3) (fun x6 h => ?_) ?_
   ·unfold impl_walkVectors_k2 at h
    refine k_reg (r_gq [(0, .d false [.sl none (a0.map (eF eI))]), (5, .d false [.sl none (x6.1.map eI)]), (6, .ov false [.sl (some 42) (x6.2.map (eF eI))]), (15, .p (iV a1)), (16, .p (iV (w64 (x3.2.2 + 1))))] [] trivial) ?_
    exact lqn (x6.1, x6.2, (w64 (x3.2.2 + 1))) h
   ·refine k_block ?_
    replace h := bs h
    obtain ⟨v7, hv7, h⟩ := h
    refine k_sreg (r_gq [(0, .d false [.sl none (a0.map (eF eI))]), (5, .d false [.sl none (x3.1.map eI)]), (6, .ov false [.sl (some 42) (x3.2.1.map (eF eI))]), (7, .ov false [.sl (some 3) (v7.map eI)]), (15, .p (iV a1)), (16, .p (iV x3.2.2))] [(2, {call := some (none, [.ov false [.sl (some 3) (v7.map eI)]], true)})] (A2 (wk_impl_times hv7) (show List.all [.ov false [.sl (some 3) (v7.map eI)]] simpleR = true from (sa_o (wnR1 (wnL_enc wn_I) rfl) rfl)))) ?_
    refine k_join (J := fun (x : (List Int)) => [(0, .d false [.sl none (a0.map (eF eI))]), (6, .ov false [.sl (some 42) (x3.2.1.map (eF eI))]), (7, .ov false [.sl (some 3) (x.map eI)]), (15, .p (iV a1)), (16, .p (iV x3.2.2))]) (K := fun x => impl_walkVectors_k3 x3 x = some o_x3) (fun x8 h => ?_) ?_
    ·unfold impl_walkVectors_k3 at h
     refine k_seq ?_
     replace h := bs h
     obtain ⟨v9, hv9, h⟩ := h
     refine k_sreg (r_gq [(0, .d false [.sl none (a0.map (eF eI))]), (6, .ov false [.sl (some 42) (x3.2.1.map (eF eI))]), (7, .ov false [.sl (some 3) (x8.map eI)]), (15, .p (iV a1)), (16, .p (iV x3.2.2)), (39, .p (.bool (!v9)))] [(1, {call := some (some [.d false [.sl none (x8.map eI)]], [.p (.bool v9)], true)})] (A2 (show ([.d false [.sl none (eraL (x8.map eI))]] : List Arg) = [.d false [.sl none (x8.map eI)]] from (by simp only [eraL_enc (h := eI) er_I])) (wk_impl_isVector hv9))) ?_
     refine kc (!v9) (fun hc7_9 => ?_) (fun hc7_9 => ?_)
     ·replace h := ite_t hc7_9 h
      refine k_exit ?_
      refine q_x ?_
      refine b_y rfl ?_
      refine q_x ?_
      refine lq_x ?_
      refine b_x ?_
      have hyy := hy_x3 _ (oi h).symm
      subst hyy
      have h := hk_x3
      refine q_n ?_
      exact jx x3.2.1 h
     ·replace h := ite_f hc7_9 h
      refine k_skip ?_
      refine q_n ?_
      replace h := bs h
      obtain ⟨u11, hu11, h⟩ := h
      refine k_sreg (r_gq [(0, .d false [.sl none (a0.map (eF eI))]), (6, .ov false [.sl (some 42) ((x3.2.1 ++ [x8]).map (eF eI))]), (7, .d false [.sl none (x8.map eI)]), (15, .p (iV a1)), (16, .p (iV x3.2.2))] [(1, {pre := some (7, .d false [.sl none (x8.map eI)])}), (3, {fix := some (43, .ov false [.sl (some 42) ((x3.2.1 ++ [x8]).map (eF eI))])})] (A4 (show (SV.d false (eraR [.sl (some 3) (x8.map eI)]) : SV) = .d false [.sl none (x8.map eI)] from (congrArg (fun z => SV.d false z) (erc_sl (eraL_enc er_I) rfl))) (show List.length ((x3.2.1.map (eF eI)) : List (List C)) + List.length ((([x8]).map (eF eI)) : List (List C)) ≤ 1099511627776 from (by have hg := (guardO_some hu11); simpa using hg)) (show ∀ row ∈ ((([x8]).map (eF eI)) : List (List C)), row.length = 1 from (rows_len fun _ => rfl)) (show (SV.ov false [.sl (some 42) ((x3.2.1.map (eF eI)) ++ (([x8]).map (eF eI)))] : SV) = .ov false [.sl (some 42) ((x3.2.1 ++ [x8]).map (eF eI))] from (congrArg (fun z => SV.ov false [.sl (some 42) z]) (List.map_append ..).symm)))) ?_
      refine k_reg (r_gq [(0, .d false [.sl none (a0.map (eF eI))]), (5, .d false [.sl none (x8.map eI)]), (6, .ov false [.sl (some 42) ((x3.2.1 ++ [x8]).map (eF eI))]), (15, .p (iV a1)), (16, .p (iV x3.2.2))] [] trivial) ?_
      refine b_n ?_
      refine q_n ?_
      exact jx (x8, (x3.2.1 ++ [x8])) h
    ·refine k_sreg (r_gq [(0, .d false [.sl none (a0.map (eF eI))]), (5, .d false [.sl none (x3.1.map eI)]), (6, .ov false [.sl (some 42) (x3.2.1.map (eF eI))]), (7, .ov false [.sl (some 3) (v7.map eI)]), (15, .p (iV a1)), (16, .p (iV x3.2.2)), (22, .p (iV (v7.length : Int))), (23, .p (iV 0))] [(1, {n := some v7.length})] (A1 (show (v7.map eI).length = v7.length from (List.length_map ..)))) ?_
     refine k_block ?_
     obtain ⟨y13, hl_x12, hk_x12⟩ := bs h
     clear h
     refine k_loop (J := fun (x : ((List Int) × Int)) => [(0, .d false [.sl none (a0.map (eF eI))]), (5, .d false [.sl none (x3.1.map eI)]), (6, .ov false [.sl (some 42) (x3.2.1.map (eF eI))]), (7, .ov false [.sl (some 3) (x.1.map eI)]), (15, .p (iV a1)), (16, .p (iV x3.2.2)), (22, .p (iV (v7.length : Int))), (23, .p (iV x.2))]) hl_x12 (wk_of (by kernel_rfl) (by kernel_rfl)) (fun x12 o_x12 h hy_x12 => ?_)
     unfold impl_walkVectors_b2 at h
     refine k_sreg (r_gq [(0, .d false [.sl none (a0.map (eF eI))]), (5, .d false [.sl none (x3.1.map eI)]), (6, .ov false [.sl (some 42) (x3.2.1.map (eF eI))]), (7, .ov false [.sl (some 3) (x12.1.map eI)]), (15, .p (iV a1)), (16, .p (iV x3.2.2)), (22, .p (iV (v7.length : Int))), (23, .p (iV x12.2)), (24, .p (.bool (decide (x12.2 < (v7.length : Int)))))] [] trivial) ?_
     refine k_seq ?_
     refine kc (decide (x12.2 < (v7.length : Int))) (fun hc10_13 => ?_) (fun hc10_13 => ?_)
     ·replace h := ite_t hc10_13 h
      refine k_skip ?_
      refine q_n ?_
      refine k_seq ?_
      refine k_block ?_
      refine k_sreg (r_gq [(0, .d false [.sl none (a0.map (eF eI))]), (5, .d false [.sl none (x3.1.map eI)]), (6, .ov false [.sl (some 42) (x3.2.1.map (eF eI))]), (7, .ov false [.sl (some 3) (x12.1.map eI)]), (8, .p (iV x12.2)), (15, .p (iV a1)), (16, .p (iV x3.2.2)), (22, .p (iV (v7.length : Int))), (23, .p (iV x12.2))] [] trivial) ?_
      replace h := bs h
      obtain ⟨v15, hv15, h⟩ := h
      replace h := bs h
      obtain ⟨v16, hv16, h⟩ := h
      refine k_reg (r_dq Tryz_mixed 8 [] [(0, .d false [.sl none (a0.map (eF eI))]), (5, .d false [.sl none (x3.1.map eI)]), (6, .ov false [.sl (some 42) (x3.2.1.map (eF eI))]), (7, .ov false [.sl (some 3) ((x12.1.set (Int.toNat x12.2) (w64 (v15 + v16))).map eI)]), (15, .p (iV a1)), (16, .p (iV x3.2.2)), (22, .p (iV (v7.length : Int))), (23, .p (iV x12.2))] [(2, {row := some (eI v15)}), (3, {row := some (eI v15)}), (6, {row := some (eI v16)}), (9, {row := some (eI v15)}), (10, {row := some (eI v15), fix := some (7, .ov false [.sl (some 3) ((x12.1.set (Int.toNat x12.2) (w64 (v15 + v16))).map eI)])})] (B6 (idxO_some hv15).1 (map_get eI (idxO_some hv15).2) (show getRow [[.sl (some 3) (x12.1.map eI)]] [(0, 0), ((Int.toNat x12.2), 0)] = some (eI v15) from ((gr0 rfl).trans (gre (map_get eI (idxO_some hv15).2)))) (idxO_some hv16).1 (map_get eI (idxO_some hv16).2) (idxO_some hv15).1 (A3 (map_get eI (idxO_some hv15).2) (show getRow [[.sl (some 3) (x12.1.map eI)]] [(0, 0), ((Int.toNat x12.2), 0)] = some (eI v15) from ((gr0 rfl).trans (gre (map_get eI (idxO_some hv15).2)))) (show (SV.ov false [.sl (some 3) (setL (x12.1.map eI) [((Int.toNat x12.2), 0)] [rI (w64 (v15 + v16))])] : SV) = .ov false [.sl (some 3) ((x12.1.set (Int.toNat x12.2) (w64 (v15 + v16))).map eI)] from (congrArg (fun z => SV.ov false [.sl (some 3) z]) (set1 (f := eI) (y := (w64 (v15 + v16))) (idxO_some hv15).2 rfl)))))) ?_
      refine b_n ?_
      refine q_n ?_
      refine k_reg (r_gq [(0, .d false [.sl none (a0.map (eF eI))]), (5, .d false [.sl none (x3.1.map eI)]), (6, .ov false [.sl (some 42) (x3.2.1.map (eF eI))]), (7, .ov false [.sl (some 3) ((x12.1.set (Int.toNat x12.2) (w64 (v15 + v16))).map eI)]), (15, .p (iV a1)), (16, .p (iV x3.2.2)), (22, .p (iV (v7.length : Int))), (23, .p (iV (w64 (x12.2 + 1))))] [] trivial) ?_
      exact lqn ((x12.1.set (Int.toNat x12.2) (w64 (v15 + v16))), (w64 (x12.2 + 1))) h
     ·replace h := ite_f hc10_13 h
      refine k_exit ?_
      refine q_x ?_
      refine lq_x ?_
      refine b_x ?_
      have hyy := hy_x12 _ (oi h).symm
      subst hyy
      have h := hk_x12
      refine q_n ?_
      exact jx x12.1 h
  ·replace h := ite_f hc5_4 h
   refine k_exit ?_
   refine q_x ?_
   refine lq_x ?_
   refine b_x ?_
   have hyy := hy_x3 _ (oi h).symm
   subst hyy
   have h := hk_x3
   refine q_n ?_
   exact jx x3.2.1 h
theorem wk_impl_abs {a0 : Int}  {r : Int} (h : impl_abs a0 = some r) : Meets Tryz.prog 89 [wI a0] { vals := [.p (iV r)] } := by
 refine mo Tryz.func89 [(0, .p (iV a0))] ?_
 unfold impl_abs at h
 refine k_sreg (r_gq [(0, .p (iV a0))] [] trivial) ?_
 refine k_seq ?_
 refine k_sreg (r_gq [(0, .p (iV a0)), (4, .p (.bool (decide (a0 < 0))))] [] trivial) ?_
 refine kc (decide (a0 < 0)) (fun hc2_0 => ?_) (fun hc2_0 => ?_)
 ·replace h := ite_t hc2_0 h
  refine k_sreg (r_gq [(2, .p (iV (w64 (0 - a0))))] [] trivial) ?_
  refine k_ret ?_
  refine q_r ?_
  obtain rfl := oi h
  exact er [(.p (iV (w64 (0 - a0))), 2)]
 ·replace h := ite_f hc2_0 h
  refine k_skip ?_
  refine q_n ?_
  refine k_sreg (r_gq [(2, .p (iV a0))] [] trivial) ?_
  refine k_ret ?_
  obtain rfl := oi h
  exact er [(.p (iV a0), 2)]
theorem wk_impl_greatestDivisor {a0 : Int} {a1 : Int}  {r : Int} (h : impl_greatestDivisor a0 a1 = some r) : Meets Tryz.prog 83 [wI a0, wI a1] { vals := [.p (iV r)] } := by
 refine mo Tryz.func83 [(0, .p (iV a0)), (1, .p (iV a1))] ?_
 unfold impl_greatestDivisor at h
 refine k_sreg (r_gq [(0, .p (iV a0)), (1, .p (iV a1))] [] trivial) ?_
 replace h := bs h
 obtain ⟨v1, hv1, h⟩ := h
 replace h := bs h
 obtain ⟨v2, hv2, h⟩ := h
 refine k_sreg (r_gq [(0, .p (iV v1)), (1, .p (iV v2))] [(1, {call := some (none, [.p (iV v1)], true)}), (3, {call := some (none, [.p (iV v2)], true)})] (A2 (wk_impl_abs hv1) (wk_impl_abs hv2))) ?_
 refine k_join (J := fun (x : Int) => [(0, .p (iV x))]) (K := fun x => impl_greatestDivisor_k1 x = some r) (fun x3 h => ?_) ?_
 ·unfold impl_greatestDivisor_k1 at h
  refine k_sreg (r_gq [(4, .p (iV x3))] [] trivial) ?_
  refine k_ret ?_
  obtain rfl := oi h
  exact er [(.p (iV x3), 4)]
 ·refine k_block ?_
  obtain ⟨y5, hl_x4, hk_x4⟩ := bs h
  clear h
  refine k_loop (J := fun (x : Qr) => [(0, .p (iV x.1)), (1, .p (iV x.2))]) hl_x4 (wk_of (by kernel_rfl) (by kernel_rfl)) (fun x4 o_x4 h hy_x4 => ?_)
  unfold impl_greatestDivisor_b1 at h
  refine k_seq ?_
  refine k_sreg (r_gq [(0, .p (iV x4.1)), (1, .p (iV x4.2)), (10, .p (.bool (x4.2 != 0)))] [] trivial) ?_
  refine kc (x4.2 != 0) (fun hc5_5 => ?_) (fun hc5_5 => ?_)
  ·replace h := ite_t hc5_5 h
   refine k_skip ?_
   refine q_n ?_
   refine k_block ?_
   replace h := bs h
   obtain ⟨u7, hu7, h⟩ := h
   refine k_reg (r_dq Tryz_mixed 5 [] [(0, .p (iV x4.2)), (1, .p (iV (Int.tmod x4.1 x4.2)))] [] (A1 (guardO_some hu7))) ?_
   refine b_n ?_
   exact lqn (x4.2, (Int.tmod x4.1 x4.2)) h
  ·replace h := ite_f hc5_5 h
   refine k_exit ?_
   refine q_x ?_
   refine lq_x ?_
   refine b_x ?_
   have hyy := hy_x4 _ (oi h).symm
   subst hyy
   have h := hk_x4
   refine q_n ?_
   exact jx x4.1 h
theorem wk_impl_isRat {a0 : Qr}  {r : Bool} (h : impl_isRat a0 = some r) : Meets Tryz.prog 59 [.v (vRt a0)] { vals := [.p (.bool r)] } := by
 refine mo Tryz.func59 [(0, .p (vRt a0))] ?_
 unfold impl_isRat at h
 refine k_sreg (r_gq [(1, .box (eRt a0))] [] trivial) ?_
 replace h := bs h
 obtain ⟨v1, hv1, h⟩ := h
 replace h := bs h
 obtain ⟨w4, hw4, h⟩ := h
 refine k_sreg (l1 := [(2, .p (.bool w4))]) ?_ ?_
 ·clear h
  rcases ft v1 with ha0 | ha0
  ·replace hw4 := ite_t ha0 hw4
   replace hw4 := bs hw4
   obtain ⟨v2, hv2, hw4⟩ := hw4
   rcases ft v2 with ha1 | ha1
   ·replace hw4 := ite_t ha1 hw4
    replace hw4 := bs hw4
    obtain ⟨v3, hv3, hw4⟩ := hw4
    have hw4 := oi hw4
    subst hw4
    exact (r_gq [(2, .p (.bool (v3 == 1)))] [(2, {call := some (none, [.p (.bool v1)], true)}), (4, gT), (5, gT), (6, {g := some true, call := some (none, [.p (.bool v2)], true)}), (7, bT), (9, gT), (10, gT), (11, gT), (12, gT), (13, {g := some true, call := some (none, [.p (iV v3)], true)}), (14, gT), (15, bT)] (B6 (wk_impl_within hv1) ha0 ha0 ha0 (wk_impl_within hv2) ha0 (B6 ha1 ha1 ha1 ha1 ha1 (wk_impl_greatestDivisor hv3) (A2 ha1 ha1))))
   ·replace hw4 := ite_f ha1 hw4
    have hw4 := oi hw4
    subst hw4
    exact (r_gq [(2, .p (.bool false))] [(2, {call := some (none, [.p (.bool v1)], true)}), (4, gT), (5, gT), (6, {g := some true, call := some (none, [.p (.bool v2)], true)}), (7, bT), (9, gF), (10, gF), (11, gF), (12, gF), (13, gF), (14, gF), (15, bF)] (B6 (wk_impl_within hv1) ha0 ha0 ha0 (wk_impl_within hv2) ha0 (B6 ha1 ha1 ha1 ha1 ha1 ha1 (A1 ha1))))
  ·replace hw4 := ite_f ha0 hw4
   have hw4 := oi hw4
   subst hw4
   exact (r_gq [(2, .p (.bool false))] [(2, {call := some (none, [.p (.bool v1)], true)}), (4, gF), (5, gF), (6, gF), (7, bF), (9, gF), (10, gF), (11, gF), (12, gF), (13, gF), (14, gF), (15, bF)] (B6 (wk_impl_within hv1) ha0 ha0 ha0 ha0 (show false = false from rfl) (A6 (show false = false from rfl) (show false = false from rfl) (show false = false from rfl) (show false = false from rfl) (show false = false from rfl) (show false = false from rfl))))
 ·refine k_ret ?_
  obtain rfl := oi h
  exact er [(.p (.bool w4), 2)]
theorem wk_impl_lowest {a0 : Int} {a1 : Int}  {r : (Qr × Bool)} (h : impl_lowest a0 a1 = some r) : Meets Tryz.prog 75 [wI a0, wI a1] { vals := [.p (vRt r.1), .p (.bool r.2)] } := by
 refine mo Tryz.func75 [(0, .p (iV a0)), (1, .p (iV a1))] ?_
 unfold impl_lowest at h
 refine k_sreg (r_gq [(0, .p (iV a0)), (1, .p (iV a1)), (4, .box [rI 0, rI 0])] [] trivial) ?_
 replace h := bs h
 obtain ⟨v1, hv1, h⟩ := h
 refine k_sreg (r_gq [(0, .p (iV a0)), (1, .p (iV a1)), (4, .box [rI 0, rI 0]), (6, .p (iV v1))] [(2, {call := some (none, [.p (iV v1)], true)})] (A1 (wk_impl_greatestDivisor hv1))) ?_
 refine k_join (J := fun (x : Int) => [(0, .p (iV a0)), (1, .p (iV a1)), (4, .box [rI 0, rI 0]), (6, .p (iV x))]) (K := fun x => impl_lowest_k1 a0 a1 x = some r) (fun x2 h => ?_) ?_
 ·unfold impl_lowest_k1 at h
  replace h := bs h
  obtain ⟨u3, hu3, h⟩ := h
  refine k_sreg (r_dq Tryz_mixed 8 [] [(4, .box [rI 0, rI 0]), (7, .box [rI (w64 (Int.tdiv a0 x2)), rI (w64 (Int.tdiv a1 x2))])] [] (A2 (guardO_some hu3) (guardO_some hu3))) ?_
  refine k_seq ?_
  replace h := bs h
  obtain ⟨v4, hv4, h⟩ := h
  refine k_sreg (r_gq [(4, .box [rI 0, rI 0]), (7, .box [rI (w64 (Int.tdiv a0 x2)), rI (w64 (Int.tdiv a1 x2))]), (24, .p (.bool (!v4)))] [(1, {call := some (none, [.p (.bool v4)], true)})] (A1 (wk_impl_isRat hv4))) ?_
  refine kc (!v4) (fun hc2_4 => ?_) (fun hc2_4 => ?_)
  ·replace h := ite_t hc2_4 h
   refine k_sreg (r_gq [(4, .box [rI 0, rI 0]), (5, .p (.bool false))] [] trivial) ?_
   refine k_ret ?_
   refine q_r ?_
   obtain rfl := oi h
   exact er [(.p (.agg #[.int .i64 0, .int .i64 0]), 4), (.p (.bool false), 5)]
  ·replace h := ite_f hc2_4 h
   refine k_skip ?_
   refine q_n ?_
   refine k_sreg (r_gq [(4, .box [rI (w64 (Int.tdiv a0 x2)), rI (w64 (Int.tdiv a1 x2))]), (5, .p (.bool true))] [] trivial) ?_
   refine k_ret ?_
   obtain rfl := oi h
   exact er [(.p (.agg #[.int .i64 (w64 (Int.tdiv a0 x2)), .int .i64 (w64 (Int.tdiv a1 x2))]), 4), (.p (.bool true), 5)]
 ·refine k_sreg (r_gq [(0, .p (iV a0)), (1, .p (iV a1)), (4, .box [rI 0, rI 0]), (6, .p (iV v1)), (12, .p (.bool (decide (a1 < 0))))] [] trivial) ?_
  refine kc (decide (a1 < 0)) (fun hc2_5 => ?_) (fun hc2_5 => ?_)
  ·replace h := ite_t hc2_5 h
   refine k_reg (r_gq [(0, .p (iV a0)), (1, .p (iV a1)), (4, .box [rI 0, rI 0]), (6, .p (iV (w64 (0 - v1))))] [] trivial) ?_
   refine q_n ?_
   exact jx (w64 (0 - v1)) h
  ·replace h := ite_f hc2_5 h
   refine k_skip ?_
   refine q_n ?_
   exact jx v1 h
theorem wk_slices_MinFunc_Limpl_Rat_impl_Rat_v {a0 : (List Qr)} {a1 : (Qr → Qr → Option Int)} {F1 : FuncId} (hp1 : ∀ x0 x1 y, a1 x0 x1 = some y → Meets Tryz.prog F1 ([.v (vRt x0), .v (vRt x1)] ++ []) { vals := [.p (iV y)] }) {r : Qr} (h : slices_MinFunc_Limpl_Rat_impl_Rat a0 a1 = some r) : Meets Tryz.prog 76 [.d false [.sl none (a0.map eRt)], .v (.func (.func F1) #[] #[])] { vals := [.p (vRt r)] } := by
 refine mo Tryz.func76 [(0, .d false [.sl none (a0.map eRt)]), (1, .p (.func (.func F1) #[] #[]))] ?_
 unfold slices_MinFunc_Limpl_Rat_impl_Rat at h
 refine k_sreg (r_gq [(0, .d false [.sl none (a0.map eRt)]), (1, .p (.func (.func F1) #[] #[])), (4, .box [rI 0, rI 0])] [] trivial) ?_
 refine k_join (J := fun (x : Unit) => [(0, .d false [.sl none (a0.map eRt)]), (1, .p (.func (.func F1) #[] #[])), (4, .box [rI 0, rI 0])]) (K := fun x => slices_MinFunc_Limpl_Rat_impl_Rat_k1 a0 a1 x = some r) (fun x1 h => ?_) ?_
 ·unfold slices_MinFunc_Limpl_Rat_impl_Rat_k1 at h
  replace h := bs h
  obtain ⟨v2, hv2, h⟩ := h
  refine k_sreg (r_gq [(0, .d false [.sl none (a0.map eRt)]), (1, .p (.func (.func F1) #[] #[])), (4, .box [rI 0, rI 0]), (5, .box (eRt v2))] [(1, {row := some (eRt v2)})] (A2 (idxO_some hv2).1 (map_get eRt (idxO_some hv2).2))) ?_
  refine k_join (J := fun (x : Qr) => [(4, .box [rI 0, rI 0]), (5, .box (eRt x))]) (K := fun x => slices_MinFunc_Limpl_Rat_impl_Rat_k2 x = some r) (fun x3 h => ?_) ?_
  ·unfold slices_MinFunc_Limpl_Rat_impl_Rat_k2 at h
   refine k_sreg (r_gq [(4, .box (eRt x3))] [] trivial) ?_
   refine k_ret ?_
   obtain rfl := oi h
   exact er [(.p (vRt x3), 4)]
  ·refine k_sreg (r_gq [(0, .d false [.sl none (a0.map eRt)]), (1, .p (.func (.func F1) #[] #[])), (4, .box [rI 0, rI 0]), (5, .box (eRt v2)), (6, .p (iV 1))] [] trivial) ?_
   refine k_block ?_
   obtain ⟨y5, hl_x4, hk_x4⟩ := bs h
   clear h
   refine k_loop (J := fun (x : (Int × Int × Int)) => [(0, .d false [.sl none (a0.map eRt)]), (1, .p (.func (.func F1) #[] #[])), (4, .box [rI 0, rI 0]), (5, .box [rI x.1, rI x.2.1]), (6, .p (iV x.2.2))]) hl_x4 (wk_of (by kernel_rfl) (by kernel_rfl)) (fun x4 o_x4 h hy_x4 => ?_)
   unfold slices_MinFunc_Limpl_Rat_impl_Rat_b1 at h
   refine k_seq ?_
   refine k_sreg (r_gq [(0, .d false [.sl none (a0.map eRt)]), (1, .p (.func (.func F1) #[] #[])), (4, .box [rI 0, rI 0]), (5, .box [rI x4.1, rI x4.2.1]), (6, .p (iV x4.2.2)), (17, .p (.bool (decide (x4.2.2 < (a0.length : Int)))))] [(2, {n := some a0.length})] (A1 (show (a0.map eRt).length = a0.length from (List.length_map ..)))) ?_
   refine kc (decide (x4.2.2 < (a0.length : Int))) (fun hc5_5 => ?_) (fun hc5_5 => ?_)
   ·replace h := ite_t hc5_5 h
    refine k_skip ?_
    refine q_n ?_
    refine k_seq ?_
    refine k_block ?_
    replace h := bs h
    obtain ⟨v7, hv7, h⟩ := h
    replace h := bs h
    obtain ⟨v8, hv8, h⟩ := h
    refine k_sreg (r_dq Tryz_mixed 6 [] [(0, .d false [.sl none (a0.map eRt)]), (1, .p (.func (.func F1) #[] #[])), (4, .box [rI 0, rI 0]), (5, .box [rI x4.1, rI x4.2.1]), (6, .p (iV x4.2.2)), (27, .p (.bool (decide (v8 < 0))))] [(3, {row := some (eRt v7)}), (6, {call := some (none, [.p (iV v8)], true)})] (A3 (idxO_some hv7).1 (map_get eRt (idxO_some hv7).2) (hp1 _ _ _ hv8))) ?_
    refine kc (decide (v8 < 0)) (fun hc6_8 => ?_) (fun hc6_8 => ?_)
    ·replace h := ite_t hc6_8 h
     refine k_reg (r_gq [(0, .d false [.sl none (a0.map eRt)]), (1, .p (.func (.func F1) #[] #[])), (4, .box [rI 0, rI 0]), (5, .box (eRt v7)), (6, .p (iV x4.2.2))] [(2, {row := some (eRt v7)})] (A2 (idxO_some hv7).1 (map_get eRt (idxO_some hv7).2))) ?_
     refine b_n ?_
     refine q_n ?_
     refine k_reg (r_gq [(0, .d false [.sl none (a0.map eRt)]), (1, .p (.func (.func F1) #[] #[])), (4, .box [rI 0, rI 0]), (5, .box (eRt v7)), (6, .p (iV (w64 (x4.2.2 + 1))))] [] trivial) ?_
     exact lqn (v7.1, v7.2, (w64 (x4.2.2 + 1))) h
    ·replace h := ite_f hc6_8 h
     refine k_skip ?_
     refine b_n ?_
     refine q_n ?_
     refine k_reg (r_gq [(0, .d false [.sl none (a0.map eRt)]), (1, .p (.func (.func F1) #[] #[])), (4, .box [rI 0, rI 0]), (5, .box [rI x4.1, rI x4.2.1]), (6, .p (iV (w64 (x4.2.2 + 1))))] [] trivial) ?_
     exact lqn (x4.1, x4.2.1, (w64 (x4.2.2 + 1))) h
   ·replace h := ite_f hc5_5 h
    refine k_exit ?_
    refine q_x ?_
    refine lq_x ?_
    refine b_x ?_
    have hyy := hy_x4 _ (oi h).symm
    subst hyy
    have h := hk_x4
    refine q_n ?_
    exact jx (x4.1, x4.2.1) h
 ·refine k_sreg (r_gq [(0, .d false [.sl none (a0.map eRt)]), (1, .p (.func (.func F1) #[] #[])), (4, .box [rI 0, rI 0]), (9, .p (.bool (decide ((a0.length : Int) < 1))))] [(1, {n := some a0.length})] (A1 (show (a0.map eRt).length = a0.length from (List.length_map ..)))) ?_
  refine kc (decide ((a0.length : Int) < 1)) (fun hc2_9 => ?_) (fun hc2_9 => ?_)
  ·replace h := ite_t hc2_9 h
   cases h
  ·replace h := ite_f hc2_9 h
   refine k_skip ?_
   refine q_n ?_
   exact jx () h
theorem wk_impl_compare {a0 : Qr} {a1 : Qr}  {r : Int} (h : impl_compare a0 a1 = some r) : Meets Tryz.prog 53 [.v (vRt a0), .v (vRt a1)] { vals := [.p (iV r)] } := by
 refine mo Tryz.func53 [(0, .p (vRt a0)), (1, .p (vRt a1))] ?_
 unfold impl_compare at h
 refine k_sreg (r_gq [(2, .box (eRt a0)), (3, .box (eRt a1))] [] trivial) ?_
 refine k_seq ?_
 refine k_sreg (r_dq Tryz_mixed 11 [] [(5, .p (iV (w64 (a0.1 * a1.2)))), (6, .p (iV (w64 (a1.1 * a0.2))))] [] trivial) ?_
 refine k_block ?_
 refine k_sreg (r_gq [(5, .p (iV (w64 (a0.1 * a1.2)))), (6, .p (iV (w64 (a1.1 * a0.2)))), (17, .p (.bool (decide ((w64 (a0.1 * a1.2)) < (w64 (a1.1 * a0.2))))))] [] trivial) ?_
 refine kc (decide ((w64 (a0.1 * a1.2)) < (w64 (a1.1 * a0.2)))) (fun hc3_0 => ?_) (fun hc3_0 => ?_)
 ·replace h := ite_t hc3_0 h
  refine k_sreg (r_gq [(4, .p (iV (-1)))] [] trivial) ?_
  refine k_ret ?_
  refine b_r ?_
  refine q_r ?_
  obtain rfl := oi h
  exact er [(.p (iV (-1)), 4)]
 ·replace h := ite_f hc3_0 h
  refine k_sreg (r_gq [(21, .p (.bool (decide ((w64 (a0.1 * a1.2)) > (w64 (a1.1 * a0.2))))))] [] trivial) ?_
  refine kc (decide ((w64 (a0.1 * a1.2)) > (w64 (a1.1 * a0.2)))) (fun hc3_1 => ?_) (fun hc3_1 => ?_)
  ·replace h := ite_t hc3_1 h
   refine k_sreg (r_gq [(4, .p (iV 1))] [] trivial) ?_
   refine k_ret ?_
   refine b_r ?_
   refine q_r ?_
   obtain rfl := oi h
   exact er [(.p (iV 1), 4)]
  ·replace h := ite_f hc3_1 h
   refine k_skip ?_
   refine b_n ?_
   refine q_n ?_
   refine k_sreg (r_gq [(4, .p (iV 0))] [] trivial) ?_
   refine k_ret ?_
   obtain rfl := oi h
   exact er [(.p (iV 0), 4)]
theorem wk_slices_MaxFunc_Limpl_Rat_impl_Rat_v {a0 : (List Qr)} {a1 : (Qr → Qr → Option Int)} {F1 : FuncId} (hp1 : ∀ x0 x1 y, a1 x0 x1 = some y → Meets Tryz.prog F1 ([.v (vRt x0), .v (vRt x1)] ++ []) { vals := [.p (iV y)] }) {r : Qr} (h : slices_MaxFunc_Limpl_Rat_impl_Rat a0 a1 = some r) : Meets Tryz.prog 77 [.d false [.sl none (a0.map eRt)], .v (.func (.func F1) #[] #[])] { vals := [.p (vRt r)] } := by
 refine mo Tryz.func77 [(0, .d false [.sl none (a0.map eRt)]), (1, .p (.func (.func F1) #[] #[]))] ?_
 unfold slices_MaxFunc_Limpl_Rat_impl_Rat at h
 refine k_sreg (r_gq [(0, .d false [.sl none (a0.map eRt)]), (1, .p (.func (.func F1) #[] #[])), (4, .box [rI 0, rI 0])] [] trivial) ?_
 refine k_join (J := fun (x : Unit) => [(0, .d false [.sl none (a0.map eRt)]), (1, .p (.func (.func F1) #[] #[])), (4, .box [rI 0, rI 0])]) (K := fun x => slices_MaxFunc_Limpl_Rat_impl_Rat_k1 a0 a1 x = some r) (fun x1 h => ?_) ?_
 ·unfold slices_MaxFunc_Limpl_Rat_impl_Rat_k1 at h
  replace h := bs h
  obtain ⟨v2, hv2, h⟩ := h
  refine k_sreg (r_gq [(0, .d false [.sl none (a0.map eRt)]), (1, .p (.func (.func F1) #[] #[])), (4, .box [rI 0, rI 0]), (5, .box (eRt v2))] [(1, {row := some (eRt v2)})] (A2 (idxO_some hv2).1 (map_get eRt (idxO_some hv2).2))) ?_
  refine k_join (J := fun (x : Qr) => [(4, .box [rI 0, rI 0]), (5, .box (eRt x))]) (K := fun x => slices_MaxFunc_Limpl_Rat_impl_Rat_k2 x = some r) (fun x3 h => ?_) ?_
  ·unfold slices_MaxFunc_Limpl_Rat_impl_Rat_k2 at h
   refine k_sreg (r_gq [(4, .box (eRt x3))] [] trivial) ?_
   refine k_ret ?_
   obtain rfl := oi h
   exact er [(.p (vRt x3), 4)]
  ·refine k_sreg (r_gq [(0, .d false [.sl none (a0.map eRt)]), (1, .p (.func (.func F1) #[] #[])), (4, .box [rI 0, rI 0]), (5, .box (eRt v2)), (6, .p (iV 1))] [] trivial) ?_
   refine k_block ?_
   obtain ⟨y5, hl_x4, hk_x4⟩ := bs h
   clear h
   refine k_loop (J := fun (x : (Int × Int × Int)) => [(0, .d false [.sl none (a0.map eRt)]), (1, .p (.func (.func F1) #[] #[])), (4, .box [rI 0, rI 0]), (5, .box [rI x.1, rI x.2.1]), (6, .p (iV x.2.2))]) hl_x4 (wk_of (by kernel_rfl) (by kernel_rfl)) (fun x4 o_x4 h hy_x4 => ?_)
   unfold slices_MaxFunc_Limpl_Rat_impl_Rat_b1 at h
   refine k_seq ?_
   refine k_sreg (r_gq [(0, .d false [.sl none (a0.map eRt)]), (1, .p (.func (.func F1) #[] #[])), (4, .box [rI 0, rI 0]), (5, .box [rI x4.1, rI x4.2.1]), (6, .p (iV x4.2.2)), (17, .p (.bool (decide (x4.2.2 < (a0.length : Int)))))] [(2, {n := some a0.length})] (A1 (show (a0.map eRt).length = a0.length from (List.length_map ..)))) ?_
   refine kc (decide (x4.2.2 < (a0.length : Int))) (fun hc5_5 => ?_) (fun hc5_5 => ?_)
   ·replace h := ite_t hc5_5 h
    refine k_skip ?_
    refine q_n ?_
    refine k_seq ?_
    refine k_block ?_
    replace h := bs h
    obtain ⟨v7, hv7, h⟩ := h
    replace h := bs h
    obtain ⟨v8, hv8, h⟩ := h
    refine k_sreg (r_dq Tryz_mixed 6 [] [(0, .d false [.sl none (a0.map eRt)]), (1, .p (.func (.func F1) #[] #[])), (4, .box [rI 0, rI 0]), (5, .box [rI x4.1, rI x4.2.1]), (6, .p (iV x4.2.2)), (27, .p (.bool (decide (v8 > 0))))] [(3, {row := some (eRt v7)}), (6, {call := some (none, [.p (iV v8)], true)})] (A3 (idxO_some hv7).1 (map_get eRt (idxO_some hv7).2) (hp1 _ _ _ hv8))) ?_
    refine kc (decide (v8 > 0)) (fun hc6_8 => ?_) (fun hc6_8 => ?_)
    ·replace h := ite_t hc6_8 h
     refine k_reg (r_gq [(0, .d false [.sl none (a0.map eRt)]), (1, .p (.func (.func F1) #[] #[])), (4, .box [rI 0, rI 0]), (5, .box (eRt v7)), (6, .p (iV x4.2.2))] [(2, {row := some (eRt v7)})] (A2 (idxO_some hv7).1 (map_get eRt (idxO_some hv7).2))) ?_
     refine b_n ?_
     refine q_n ?_
     refine k_reg (r_gq [(0, .d false [.sl none (a0.map eRt)]), (1, .p (.func (.func F1) #[] #[])), (4, .box [rI 0, rI 0]), (5, .box (eRt v7)), (6, .p (iV (w64 (x4.2.2 + 1))))] [] trivial) ?_
     exact lqn (v7.1, v7.2, (w64 (x4.2.2 + 1))) h
    ·replace h := ite_f hc6_8 h
     refine k_skip ?_
     refine b_n ?_
     refine q_n ?_
     refine k_reg (r_gq [(0, .d false [.sl none (a0.map eRt)]), (1, .p (.func (.func F1) #[] #[])), (4, .box [rI 0, rI 0]), (5, .box [rI x4.1, rI x4.2.1]), (6, .p (iV (w64 (x4.2.2 + 1))))] [] trivial) ?_
     exact lqn (x4.1, x4.2.1, (w64 (x4.2.2 + 1))) h
   ·replace h := ite_f hc5_5 h
    refine k_exit ?_
    refine q_x ?_
    refine lq_x ?_
    refine b_x ?_
    have hyy := hy_x4 _ (oi h).symm
    subst hyy
    have h := hk_x4
    refine q_n ?_
    exact jx (x4.1, x4.2.1) h
 ·refine k_sreg (r_gq [(0, .d false [.sl none (a0.map eRt)]), (1, .p (.func (.func F1) #[] #[])), (4, .box [rI 0, rI 0]), (9, .p (.bool (decide ((a0.length : Int) < 1))))] [(1, {n := some a0.length})] (A1 (show (a0.map eRt).length = a0.length from (List.length_map ..)))) ?_
  refine kc (decide ((a0.length : Int) < 1)) (fun hc2_9 => ?_) (fun hc2_9 => ?_)
  ·replace h := ite_t hc2_9 h
   cases h
  ·replace h := ite_f hc2_9 h
   refine k_skip ?_
   refine q_n ?_
   exact jx () h
theorem wk_impl_ratioBounds {a0 : (List (List Int))} {a1 : (List Int)}  {r : Qp} (h : impl_ratioBounds a0 a1 = some r) : Meets Tryz.prog 52 [.d false [.sl none (a0.map (eF eI))], .d false [.sl none (a1.map eI)]] { vals := [.p (vRt r.1), .p (vRt r.2)] } := by
 refine mo Tryz.func52 [(0, .d false [.sl none (a0.map (eF eI))]), (1, .d false [.sl none (a1.map eI)])] ?_
 unfold impl_ratioBounds at h
 refine k_sreg (r_gq [(0, .d false [.sl none (a0.map (eF eI))]), (1, .d false [.sl none (a1.map eI)]), (4, .box [rI 0, rI 0]), (5, .box [rI 0, rI 0])] [] trivial) ?_
 refine k_sreg (r_gq [(0, .d false [.sl none (a0.map (eF eI))]), (1, .d false [.sl none (a1.map eI)]), (4, .box [rI 0, rI 0]), (5, .box [rI 0, rI 0]), (6, .ov false [.sl (some 33) []])] [] trivial) ?_
 refine k_join (J := fun (x : (List Qr)) => [(4, .box [rI 0, rI 0]), (5, .box [rI 0, rI 0]), (6, .ov false [.sl (some 33) (x.map eRt)])]) (K := fun x => impl_ratioBounds_k1 x = some r) (fun x1 h => ?_) ?_
 ·unfold impl_ratioBounds_k1 at h
  replace h := bs h
  obtain ⟨v2, hv2, h⟩ := h
  replace h := bs h
  obtain ⟨v3, hv3, h⟩ := h
  refine k_sreg (r_gq [(4, .box (eRt v2)), (5, .box (eRt v3))] [(1, {call := some (some [.d false [.sl none (x1.map eRt)], .v (.func (.func 53) #[] #[])], [.p (vRt v2)], true)}), (3, {call := some (some [.d false [.sl none (x1.map eRt)], .v (.func (.func 53) #[] #[])], [.p (vRt v3)], true)})] (A4 (show ([.d false [.sl none (eraL (x1.map eRt))], .v (.func (.func 53) #[] #[])] : List Arg) = [.d false [.sl none (x1.map eRt)], .v (.func (.func 53) #[] #[])] from (by simp only [eraL_enc (h := eRt) (era_P er_I er_I)])) (show Meets Tryz.prog 76 ([.d false [.sl none (x1.map eRt)], .v (.func (.func 53) #[] #[])] ++ []) { vals := [.p (vRt v2)] } from (wk_slices_MinFunc_Limpl_Rat_impl_Rat_v (fun x0 x1 y hy => wk_impl_compare hy) hv2)) (show ([.d false [.sl none (eraL (x1.map eRt))], .v (.func (.func 53) #[] #[])] : List Arg) = [.d false [.sl none (x1.map eRt)], .v (.func (.func 53) #[] #[])] from (by simp only [eraL_enc (h := eRt) (era_P er_I er_I)])) (show Meets Tryz.prog 77 ([.d false [.sl none (x1.map eRt)], .v (.func (.func 53) #[] #[])] ++ []) { vals := [.p (vRt v3)] } from (wk_slices_MaxFunc_Limpl_Rat_impl_Rat_v (fun x0 x1 y hy => wk_impl_compare hy) hv3)))) ?_
  refine k_ret ?_
  obtain rfl := oi h
  exact er [(.p (vRt v2), 4), (.p (vRt v3), 5)]
 ·replace h := bs h
  obtain ⟨v4, hv4, h⟩ := h
  refine k_sreg (r_gq [(1, .d false [.sl none (a1.map eI)]), (4, .box [rI 0, rI 0]), (5, .box [rI 0, rI 0]), (6, .ov false [.sl (some 33) []]), (13, .ov false [.sl (some 3) (v4.map eI)]), (14, .p (iV (v4.length : Int))), (15, .p (iV 0))] [(2, {call := some (none, [.ov false [.sl (some 3) (v4.map eI)]], true)}), (3, {n := some v4.length})] (A3 (wk_impl_times hv4) (show List.all [.ov false [.sl (some 3) (v4.map eI)]] simpleR = true from (sa_o (wnR1 (wnL_enc wn_I) rfl) rfl)) (show (v4.map eI).length = v4.length from (List.length_map ..)))) ?_
  refine k_block ?_
  obtain ⟨y6, hl_x5, hk_x5⟩ := bs h
  clear h
  refine k_loop (J := fun (x : ((List Qr) × Int)) => [(1, .d false [.sl none (a1.map eI)]), (4, .box [rI 0, rI 0]), (5, .box [rI 0, rI 0]), (6, .ov false [.sl (some 33) (x.1.map eRt)]), (13, .ov false [.sl (some 3) (v4.map eI)]), (14, .p (iV (v4.length : Int))), (15, .p (iV x.2))]) hl_x5 (wk_of (by kernel_rfl) (by kernel_rfl)) (fun x5 o_x5 h hy_x5 => ?_)
  unfold impl_ratioBounds_b1 at h
  refine k_sreg (r_gq [(1, .d false [.sl none (a1.map eI)]), (4, .box [rI 0, rI 0]), (5, .box [rI 0, rI 0]), (6, .ov false [.sl (some 33) (x5.1.map eRt)]), (13, .ov false [.sl (some 3) (v4.map eI)]), (14, .p (iV (v4.length : Int))), (15, .p (iV x5.2)), (16, .p (.bool (decide (x5.2 < (v4.length : Int)))))] [] trivial) ?_
  refine k_seq ?_
  refine kc (decide (x5.2 < (v4.length : Int))) (fun hc5_6 => ?_) (fun hc5_6 => ?_)
  ·replace h := ite_t hc5_6 h
   refine k_skip ?_
   refine q_n ?_
   refine k_seq ?_
   refine k_block ?_
   replace h := bs h
   obtain ⟨v8, hv8, h⟩ := h
   refine k_sreg (r_gq [(1, .d false [.sl none (a1.map eI)]), (4, .box [rI 0, rI 0]), (5, .box [rI 0, rI 0]), (6, .ov false [.sl (some 33) (x5.1.map eRt)]), (7, .p (iV x5.2)), (8, .p (iV v8)), (13, .ov false [.sl (some 3) (v4.map eI)]), (14, .p (iV (v4.length : Int))), (15, .p (iV x5.2))] [(1, {row := some (eI v8)}), (2, {row := some (eI v8)})] (A3 (idxO_some hv8).1 (map_get eI (idxO_some hv8).2) (show getRow [[.sl (some 3) (v4.map eI)]] [(0, 0), ((Int.toNat x5.2), 0)] = some (eI v8) from ((gr0 rfl).trans (gre (map_get eI (idxO_some hv8).2)))))) ?_
   replace h := bs h
   obtain ⟨v9, hv9, h⟩ := h
   replace h := bs h
   obtain ⟨v10, hv10, h⟩ := h
   refine k_sreg (r_gq [(1, .d false [.sl none (a1.map eI)]), (4, .box [rI 0, rI 0]), (5, .box [rI 0, rI 0]), (6, .ov false [.sl (some 33) (x5.1.map eRt)]), (9, .box (eRt v10.1)), (13, .ov false [.sl (some 3) (v4.map eI)]), (14, .p (iV (v4.length : Int))), (15, .p (iV x5.2))] [(3, {row := some (eI v9)}), (5, {call := some (none, [.p (vRt v10.1), .p (.bool v10.2)], true)})] (A3 (idxO_some hv9).1 (map_get eI (idxO_some hv9).2) (wk_impl_lowest hv10))) ?_
   replace h := bs h
   obtain ⟨u11, hu11, h⟩ := h
   refine k_reg (r_gq [(1, .d false [.sl none (a1.map eI)]), (4, .box [rI 0, rI 0]), (5, .box [rI 0, rI 0]), (6, .ov false [.sl (some 33) ((x5.1 ++ [v10.1]).map eRt)]), (13, .ov false [.sl (some 3) (v4.map eI)]), (14, .p (iV (v4.length : Int))), (15, .p (iV x5.2))] [(3, {fix := some (32, .ov false [.sl (some 33) ((x5.1 ++ [v10.1]).map eRt)])})] (A3 (show List.length ((x5.1.map eRt) : List (List C)) + List.length ((([v10.1]).map eRt) : List (List C)) ≤ 1099511627776 from (by have hg := (guardO_some hu11); simpa using hg)) (show ∀ row ∈ ((([v10.1]).map eRt) : List (List C)), row.length = 2 from (rows_len fun _ => rfl)) (show (SV.ov false [.sl (some 33) ((x5.1.map eRt) ++ (([v10.1]).map eRt))] : SV) = .ov false [.sl (some 33) ((x5.1 ++ [v10.1]).map eRt)] from (congrArg (fun z => SV.ov false [.sl (some 33) z]) (List.map_append ..).symm)))) ?_
   refine b_n ?_
   refine q_n ?_
   refine k_reg (r_gq [(1, .d false [.sl none (a1.map eI)]), (4, .box [rI 0, rI 0]), (5, .box [rI 0, rI 0]), (6, .ov false [.sl (some 33) ((x5.1 ++ [v10.1]).map eRt)]), (13, .ov false [.sl (some 3) (v4.map eI)]), (14, .p (iV (v4.length : Int))), (15, .p (iV (w64 (x5.2 + 1))))] [] trivial) ?_
   exact lqn ((x5.1 ++ [v10.1]), (w64 (x5.2 + 1))) h
  ·replace h := ite_f hc5_6 h
   refine k_exit ?_
   refine q_x ?_
   refine lq_x ?_
   refine b_x ?_
   have hyy := hy_x5 _ (oi h).symm
   subst hyy
   have h := hk_x5
   refine q_n ?_
   exact jx x5.1 h
theorem wk_impl_BestGrowth {a0 : (List (List Int))}  {r : (Qr × Qr × Int × Bool)} (h : impl_BestGrowth a0 = some r) : Meets Tryz.prog 25 [.d false [.sl none (a0.map (eF eI))]] { vals := [.p (vRt r.1), .p (vRt r.2.1), .p (iV r.2.2.1), .p (.bool r.2.2.2)] } := by
 refine mo Tryz.func25 [(0, .d false [.sl none (a0.map (eF eI))])] ?_
 unfold impl_BestGrowth at h
 refine k_sreg (r_gq [(0, .d false [.sl none (a0.map (eF eI))]), (2, .box [rI 0, rI 0]), (3, .box [rI 0, rI 0])] [] trivial) ?_
 refine k_seq ?_
 replace h := bs h
 obtain ⟨v1, hv1, h⟩ := h
 refine k_sreg (r_gq [(0, .d false [.sl none (a0.map (eF eI))]), (2, .box [rI 0, rI 0]), (3, .box [rI 0, rI 0]), (12, .p (.bool (!v1)))] [(1, {call := some (none, [.p (.bool v1)], true)})] (A1 (wk_impl_isGraph hv1))) ?_
 refine kc (!v1) (fun hc2_1 => ?_) (fun hc2_1 => ?_)
 ·replace h := ite_t hc2_1 h
  refine k_sreg (r_gq [(2, .box [rI 0, rI 0]), (3, .box [rI 0, rI 0]), (4, .p (iV 0)), (5, .p (.bool false))] [] trivial) ?_
  refine k_ret ?_
  refine q_r ?_
  obtain rfl := oi h
  exact er [(.p (.agg #[.int .i64 0, .int .i64 0]), 2), (.p (.agg #[.int .i64 0, .int .i64 0]), 3), (.p (iV 0), 4), (.p (.bool false), 5)]
 ·replace h := ite_f hc2_1 h
  refine k_skip ?_
  refine q_n ?_
  replace h := bs h
  obtain ⟨v3, hv3, h⟩ := h
  refine k_sreg (r_gq [(0, .d false [.sl none (a0.map (eF eI))]), (2, .box [rI 0, rI 0]), (3, .box [rI 0, rI 0]), (6, .ov false [.sl (some 42) (v3.map (eF eI))])] [(1, {call := some (none, [.ov false [.sl (some 42) (v3.map (eF eI))]], false)})] (A1 (wk_impl_walkVectors hv3))) ?_
  refine k_sreg (r_gq [(0, .d false [.sl none (a0.map (eF eI))]), (2, .box [rI 0, rI 0]), (3, .box [rI 0, rI 0]), (6, .ov false [.sl (some 42) (v3.map (eF eI))]), (7, .p (iV (w64 ((v3.length : Int) - 1))))] [(1, {n := some v3.length})] (A1 (show (v3.map (eF eI)).length = v3.length from (List.length_map ..)))) ?_
  replace h := bs h
  obtain ⟨v4, hv4, h⟩ := h
  replace h := bs h
  obtain ⟨v5, hv5, h⟩ := h
  refine k_sreg (r_gq [(2, .box [rI 0, rI 0]), (3, .box [rI 0, rI 0]), (7, .p (iV (w64 ((v3.length : Int) - 1)))), (8, .box (eRt v5.1)), (9, .box (eRt v5.2))] [(3, {row := some [.sl none (v4.map eI)]}), (4, {row := some [.sl none (v4.map eI)], b := some true}), (5, {call := some (none, [.p (vRt v5.1), .p (vRt v5.2)], true)})] (A5 (idxO_some hv4).1 (map_get (eF eI) (idxO_some hv4).2) (show frR [.sl none (v4.map eI)] = true from (frR1 (frL_enc fr_I) rfl)) (show getRow [[.sl (some 42) (v3.map (eF eI))]] [(0, 0), ((Int.toNat (w64 ((v3.length : Int) - 1))), 0)] = some [.sl none (v4.map eI)] from ((gr0 rfl).trans (gre (map_get (eF eI) (idxO_some hv4).2)))) (wk_impl_ratioBounds hv5))) ?_
  refine k_sreg (r_dq Tryz_mixed 5 [(3, 2), (4, 3)] [(2, .box (eRt v5.1)), (3, .box (eRt v5.2)), (4, .p (iV (w64 ((v3.length : Int) - 1)))), (5, .p (.bool true))] [] trivial) ?_
  refine k_ret ?_
  obtain rfl := oi h
  exact er [(.p (vRt v5.1), 2), (.p (vRt v5.2), 3), (.p (iV (w64 ((v3.length : Int) - 1))), 4), (.p (.bool true), 5)]
theorem wk_impl_less {a0 : Qr} {a1 : Qr}  {r : Bool} (h : impl_less a0 a1 = some r) : Meets Tryz.prog 26 [.v (vRt a0), .v (vRt a1)] { vals := [.p (.bool r)] } := by
 refine mo Tryz.func26 [(0, .p (vRt a0)), (1, .p (vRt a1))] ?_
 unfold impl_less at h
 refine k_sreg (r_gq [(2, .box (eRt a0)), (3, .box (eRt a1))] [] trivial) ?_
 replace h := bs h
 obtain ⟨v1, hv1, h⟩ := h
 refine k_sreg (r_gq [(4, .p (.bool (decide (v1 < 0))))] [(2, {call := some (none, [.p (iV v1)], true)})] (A1 (wk_impl_compare hv1))) ?_
 refine k_ret ?_
 obtain rfl := oi h
 exact er [(.p (.bool (decide (v1 < 0))), 4)]
end Go.PV

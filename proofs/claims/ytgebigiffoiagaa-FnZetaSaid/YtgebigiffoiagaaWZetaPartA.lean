/-
  Walks through the functions that the law reaches: each answers as its plain definition does.
  Conditions: none.
-/
import Derived.KernelRfl
import Derived.Test.YtgebigiffoiagaaDf
import Derived.Test.YtgebigiffoiagaaProg
open Go Go.PV Go.Proofs
set_option linter.all false
namespace Go.PV
attribute [local irreducible] pvC pvL pvD sOp seqQ blockQ Meets MeetsB Ok OkL RegOk agree endQ seqL blockL loopQ endL endLB
theorem Try_mixed : Try.prog.follows .mixedOrders = true := by kernel_rfl
theorem Try_und5 : Try.prog.underlying 5 = some (.int .u8) := by kernel_rfl
theorem Try_und3 : Try.prog.underlying 3 = some (.int .i64) := by kernel_rfl
theorem Try_und76 : Try.prog.underlying 76 = some (.int .u64) := by kernel_rfl
theorem wk_laws_big {a0 : (List Int)} {a1 : (List Int)}  {r : Bool} (h : laws_big a0 a1 = some r) : Meets Try.prog 6 [.d false [.sl none (a0.map (eU .u8))], .d false [.sl none (a1.map (eU .u8))]] { vals := [.p (.bool r)] } := by
 refine mo Try.func6 [(0, .d false [.sl none (a0.map (eU .u8))]), (1, .d false [.sl none (a1.map (eU .u8))])] ?_
 unfold laws_big at h
 refine k_sreg (r_gq [(0, .d false [.sl none (a0.map (eU .u8))]), (1, .d false [.sl none (a1.map (eU .u8))])] [] trivial) ?_
 refine k_sreg (l1 := [(4, .p (.bool ((decide ((a0.length : Int) > 1048576)) || (decide ((a1.length : Int) > (w64 (1048576 - (a0.length : Int))))))))]) ?_ ?_
 ·rcases ft (decide ((a0.length : Int) > 1048576)) with ha0 | ha0
  ·exact RegOk.of_eq (l2 := [(4, .p (.bool ((decide ((a0.length : Int) > 1048576)) || (decide ((a1.length : Int) > (w64 (1048576 - (a0.length : Int))))))))]) (r_gq [(4, .p (.bool true))] [(1, {n := some a0.length}), (4, gT), (5, gT), (6, gT), (7, gT), (8, gT), (9, gT), (10, bT)] (B6 (show (a0.map (eU .u8)).length = a0.length from (List.length_map ..)) ha0 ha0 ha0 ha0 ha0 (A2 ha0 ha0))) (by simp [ha0])
  ·exact RegOk.of_eq (l2 := [(4, .p (.bool ((decide ((a0.length : Int) > 1048576)) || (decide ((a1.length : Int) > (w64 (1048576 - (a0.length : Int))))))))]) (r_gq [(4, .p (.bool (decide ((a1.length : Int) > (w64 (1048576 - (a0.length : Int)))))))] [(1, {n := some a0.length}), (4, gF), (5, {g := some false, n := some a1.length}), (6, gF), (7, {g := some false, n := some a0.length}), (8, gF), (9, gF), (10, bF)] (B6 (show (a0.map (eU .u8)).length = a0.length from (List.length_map ..)) ha0 ha0 (show (a1.map (eU .u8)).length = a1.length from (List.length_map ..)) ha0 ha0 (A4 (show (a0.map (eU .u8)).length = a0.length from (List.length_map ..)) ha0 ha0 ha0))) (by simp [ha0])
 ·refine k_ret ?_
  obtain rfl := oi h
  exact er [(.p (.bool ((decide ((a0.length : Int) > 1048576)) || (decide ((a1.length : Int) > (w64 (1048576 - (a0.length : Int))))))), 4)]
theorem wk_spec_l1Cur_next {a0 : Cu}  {r : (Int × Cu)} (h : spec_l1Cur_next a0 = some r) : MeetsB Try.prog 142 (.box (eCu a0)) [] [.p (iV r.1)] (.box (eCu r.2)) := by
 refine mob Try.func142 [(0, .box (eCu a0))] ?_
 unfold spec_l1Cur_next at h
 refine k_sreg (r_gq [(0, .box (eCu a0))] [] trivial) ?_
 refine k_sreg (r_gq [(0, .box (eCu a0)), (3, .p (iV 0))] [] trivial) ?_
 refine k_join (J := fun (x : Int) => [(0, .box (eCu a0)), (3, .p (iV x))]) (K := fun x => spec_l1Cur_next_k1 a0 x = some r) (fun x1 h => ?_) ?_
 ·unfold spec_l1Cur_next_k1 at h
  refine k_sreg (r_gq [(0, .box [.sl none (a0.1.map (eU .u8)), rI (w64 (a0.2.1 + 1)), .raw (.int .u64 a0.2.2)]), (3, .p (iV x1))] [] trivial) ?_
  refine k_sreg (r_gq [(0, .box [.sl none (a0.1.map (eU .u8)), rI (w64 (a0.2.1 + 1)), .raw (.int .u64 (IntKind.wrap .u64 ((IntKind.wrap .u64 ((IntKind.wrap .u64 (a0.2.2 * 6364136223846793005)) + (IntKind.wrap .u64 x1))) + 1442695040888963407)))]), (3, .p (iV x1))] [(7, {pv := some (.int .u64 (IntKind.wrap .u64 x1))})] (A1 (show PureAt Try.prog (.convert 3 76 (.tmp 38)) [.int .i64 x1] (.int .u64 (IntKind.wrap .u64 x1)) from (ydg Try_und3 Try_und76)))) ?_
  refine k_seq ?_
  refine k_sreg (r_dq Try_mixed 9 [] [(0, .box [.sl none (a0.1.map (eU .u8)), rI (w64 (a0.2.1 + 1)), .raw (.int .u64 (IntKind.wrap .u64 ((IntKind.wrap .u64 ((IntKind.wrap .u64 (a0.2.2 * 6364136223846793005)) + (IntKind.wrap .u64 x1))) + 1442695040888963407)))]), (3, .p (iV x1)), (53, .p (.bool (decide ((w64 (a0.2.1 + 1)) ≤ (a0.1.length : Int)))))] [(7, bT), (8, {n := some a0.1.length})] (A2 (show frR [.sl none (a0.1.map (eU .u8))] = true from (frR1 (frL_enc (fr_U .u8)) rfl)) (show (a0.1.map (eU .u8)).length = a0.1.length from (List.length_map ..)))) ?_
  refine kc (decide ((w64 (a0.2.1 + 1)) ≤ (a0.1.length : Int))) (fun hc2_1 => ?_) (fun hc2_1 => ?_)
  ·replace h := ite_t hc2_1 h
   refine k_sreg (r_gq [(0, .box [.sl none (a0.1.map (eU .u8)), rI (w64 (a0.2.1 + 1)), .raw (.int .u64 (IntKind.wrap .u64 ((IntKind.wrap .u64 ((IntKind.wrap .u64 (a0.2.2 * 6364136223846793005)) + (IntKind.wrap .u64 x1))) + 1442695040888963407)))]), (2, .p (iV x1))] [] trivial) ?_
   refine k_ret ?_
   refine q_r ?_
   obtain rfl := oi h
   exact ebr [(.p (iV x1), 2)]
  ·replace h := ite_f hc2_1 h
   refine k_skip ?_
   refine q_n ?_
   refine k_sreg (r_gq [(0, .box [.sl none (a0.1.map (eU .u8)), rI (w64 (a0.2.1 + 1)), .raw (.int .u64 (IntKind.wrap .u64 ((IntKind.wrap .u64 ((IntKind.wrap .u64 (a0.2.2 * 6364136223846793005)) + (IntKind.wrap .u64 x1))) + 1442695040888963407)))]), (2, .p (iV (IntKind.wrap .i64 (iand .u64 (ishr .u64 (IntKind.wrap .u64 ((IntKind.wrap .u64 ((IntKind.wrap .u64 (a0.2.2 * 6364136223846793005)) + (IntKind.wrap .u64 x1))) + 1442695040888963407)) 40) 255))))] [(4, {pv := some (.int .u64 (ishr .u64 (IntKind.wrap .u64 ((IntKind.wrap .u64 ((IntKind.wrap .u64 (a0.2.2 * 6364136223846793005)) + (IntKind.wrap .u64 x1))) + 1442695040888963407)) 40))}), (5, {pv := some (.int .u64 (iand .u64 (ishr .u64 (IntKind.wrap .u64 ((IntKind.wrap .u64 ((IntKind.wrap .u64 (a0.2.2 * 6364136223846793005)) + (IntKind.wrap .u64 x1))) + 1442695040888963407)) 40) 255))}), (6, {pv := some (iV (IntKind.wrap .i64 (iand .u64 (ishr .u64 (IntKind.wrap .u64 ((IntKind.wrap .u64 ((IntKind.wrap .u64 (a0.2.2 * 6364136223846793005)) + (IntKind.wrap .u64 x1))) + 1442695040888963407)) 40) 255)))})] (A3 (show PureAt Try.prog (.binOp .shr 76 (.tmp 58) (.const (.int .u64 40)) 108) [.int .u64 (IntKind.wrap .u64 ((IntKind.wrap .u64 ((IntKind.wrap .u64 (a0.2.2 * 6364136223846793005)) + (IntKind.wrap .u64 x1))) + 1442695040888963407)), .int .u64 40] (.int .u64 (ishr .u64 (IntKind.wrap .u64 ((IntKind.wrap .u64 ((IntKind.wrap .u64 (a0.2.2 * 6364136223846793005)) + (IntKind.wrap .u64 x1))) + 1442695040888963407)) 40)) from (yvn (by decide))) (show PureAt Try.prog (.binOp .and 76 (.tmp 59) (.const (.int .u64 255)) 76) [.int .u64 (ishr .u64 (IntKind.wrap .u64 ((IntKind.wrap .u64 ((IntKind.wrap .u64 (a0.2.2 * 6364136223846793005)) + (IntKind.wrap .u64 x1))) + 1442695040888963407)) 40), .int .u64 255] (.int .u64 (iand .u64 (ishr .u64 (IntKind.wrap .u64 ((IntKind.wrap .u64 ((IntKind.wrap .u64 (a0.2.2 * 6364136223846793005)) + (IntKind.wrap .u64 x1))) + 1442695040888963407)) 40) 255)) from (yun)) (show PureAt Try.prog (.convert 76 3 (.tmp 60)) [.int .u64 (iand .u64 (ishr .u64 (IntKind.wrap .u64 ((IntKind.wrap .u64 ((IntKind.wrap .u64 (a0.2.2 * 6364136223846793005)) + (IntKind.wrap .u64 x1))) + 1442695040888963407)) 40) 255)] (iV (IntKind.wrap .i64 (iand .u64 (ishr .u64 (IntKind.wrap .u64 ((IntKind.wrap .u64 ((IntKind.wrap .u64 (a0.2.2 * 6364136223846793005)) + (IntKind.wrap .u64 x1))) + 1442695040888963407)) 40) 255))) from (ydg Try_und76 Try_und3)))) ?_
   refine k_ret ?_
   obtain rfl := oi h
   exact ebr [(.p (iV (IntKind.wrap .i64 (iand .u64 (ishr .u64 (IntKind.wrap .u64 ((IntKind.wrap .u64 ((IntKind.wrap .u64 (a0.2.2 * 6364136223846793005)) + (IntKind.wrap .u64 x1))) + 1442695040888963407)) 40) 255))), 2)]
 ·refine k_sreg (r_dq Try_mixed 9 [] [(0, .box (eCu a0)), (3, .p (iV 0)), (13, .p (.bool (decide (a0.2.1 < (a0.1.length : Int)))))] [(7, bT), (8, {n := some a0.1.length})] (A2 (show frR [.sl none (a0.1.map (eU .u8))] = true from (frR1 (frL_enc (fr_U .u8)) rfl)) (show (a0.1.map (eU .u8)).length = a0.1.length from (List.length_map ..)))) ?_
  refine kc (decide (a0.2.1 < (a0.1.length : Int))) (fun hc2_2 => ?_) (fun hc2_2 => ?_)
  ·replace h := ite_t hc2_2 h
   replace h := bs h
   obtain ⟨v4, hv4, h⟩ := h
   refine k_reg (r_dq Try_mixed 8 [] [(0, .box (eCu a0)), (3, .p (iV (IntKind.wrap .i64 v4)))] [(3, bT), (8, {row := some [.raw (.int .u8 v4)]}), (10, {pv := some (iV (IntKind.wrap .i64 v4))})] (A4 (show frR [.sl none (a0.1.map (eU .u8))] = true from (frR1 (frL_enc (fr_U .u8)) rfl)) (yba hv4).1 (map_get (eU .u8) (yba hv4).2) (show PureAt Try.prog (.convert 5 3 (.tmp 23)) [.int .u8 v4] (iV (IntKind.wrap .i64 v4)) from (ydg Try_und5 Try_und3)))) ?_
   refine q_n ?_
   exact jx (IntKind.wrap .i64 v4) h
  ·replace h := ite_f hc2_2 h
   refine k_skip ?_
   refine q_n ?_
   exact jx 0 h
theorem wk_spec_l1Cur_pick {a0 : Cu} {a1 : Int}  {r : (Int × Cu)} (h : spec_l1Cur_pick a0 a1 = some r) : MeetsB Try.prog 101 (.box (eCu a0)) [wI a1] [.p (iV r.1)] (.box (eCu r.2)) := by
 refine mob Try.func101 [(0, .box (eCu a0)), (1, .p (iV a1))] ?_
 unfold spec_l1Cur_pick at h
 refine k_sreg (r_gq [(0, .box (eCu a0)), (1, .p (iV a1))] [] trivial) ?_
 refine k_seq ?_
 refine k_sreg (r_gq [(0, .box (eCu a0)), (1, .p (iV a1)), (7, .p (.bool (decide (a1 ≤ 1))))] [] trivial) ?_
 refine kc (decide (a1 ≤ 1)) (fun hc2_0 => ?_) (fun hc2_0 => ?_)
 ·replace h := ite_t hc2_0 h
  refine k_sreg (r_gq [(0, .box (eCu a0)), (4, .p (iV 0))] [] trivial) ?_
  refine k_ret ?_
  refine q_r ?_
  obtain rfl := oi h
  exact ebr [(.p (iV 0), 4)]
 ·replace h := ite_f hc2_0 h
  refine k_skip ?_
  refine q_n ?_
  replace h := bs h
  obtain ⟨v2, hv2, h⟩ := h
  refine k_sreg (r_gq [(0, .box (eCu v2.2)), (1, .p (iV a1)), (5, .p (iV v2.1))] [(1, {lend := some (none, [.p (iV v2.1)], .box (eCu v2.2), false)})] (A1 (wk_spec_l1Cur_next hv2))) ?_
  refine k_join (J := fun (x : ((List Int) × Int × Int × Int)) => [(0, .box (eCu (x.1, x.2.1, x.2.2.1))), (1, .p (iV a1)), (5, .p (iV x.2.2.2))]) (K := fun x => spec_l1Cur_pick_k1 a1 x = some r) (fun x3 h => ?_) ?_
  ·unfold spec_l1Cur_pick_k1 at h
   replace h := bs h
   obtain ⟨u4, hu4, h⟩ := h
   refine k_sreg (r_gq [(0, .box (eCu (x3.1, x3.2.1, x3.2.2.1))), (4, .p (iV (Int.tmod x3.2.2.2 a1)))] [] (A1 (yca hu4))) ?_
   refine k_ret ?_
   obtain rfl := oi h
   exact ebr [(.p (iV (Int.tmod x3.2.2.2 a1)), 4)]
  ·refine k_sreg (r_gq [(0, .box (eCu v2.2)), (1, .p (iV a1)), (5, .p (iV v2.1)), (11, .p (.bool (decide (a1 > 200))))] [] trivial) ?_
   refine kc (decide (a1 > 200)) (fun hc2_4 => ?_) (fun hc2_4 => ?_)
   ·replace h := ite_t hc2_4 h
    replace h := bs h
    obtain ⟨v6, hv6, h⟩ := h
    refine k_reg (r_gq [(0, .box (eCu v6.2)), (1, .p (iV a1)), (5, .p (iV (w64 ((w64 (v2.1 * 256)) + v6.1))))] [(3, {lend := some (none, [.p (iV v6.1)], .box (eCu v6.2), false)})] (A1 (wk_spec_l1Cur_next hv6))) ?_
    refine q_n ?_
    exact jx (v6.2.1, v6.2.2.1, v6.2.2.2, (w64 ((w64 (v2.1 * 256)) + v6.1))) h
   ·replace h := ite_f hc2_4 h
    refine k_skip ?_
    refine q_n ?_
    exact jx (v2.2.1, v2.2.2.1, v2.2.2.2, v2.1) h
theorem wk_spec_l1Cur_one {a0 : Cu} {a1 : Int}  {r : (Bool × Cu)} (h : spec_l1Cur_one a0 a1 = some r) : MeetsB Try.prog 100 (.box (eCu a0)) [wI a1] [.p (.bool r.1)] (.box (eCu r.2)) := by
 refine mob Try.func100 [(0, .box (eCu a0)), (1, .p (iV a1))] ?_
 unfold spec_l1Cur_one at h
 refine k_sreg (r_gq [(0, .box (eCu a0)), (1, .p (iV a1))] [] trivial) ?_
 replace h := bs h
 obtain ⟨v1, hv1, h⟩ := h
 refine k_sreg (r_gq [(0, .box (eCu v1.2)), (4, .p (.bool (v1.1 == 0)))] [(2, {lend := some (none, [.p (iV v1.1)], .box (eCu v1.2), false)})] (A1 (wk_spec_l1Cur_pick hv1))) ?_
 refine k_ret ?_
 obtain rfl := oi h
 exact ebr [(.p (.bool (v1.1 == 0)), 4)]
theorem wk_spec_l1Cur_among {a0 : Cu} {a1 : (List Int)}  {r : (Int × Cu)} (h : spec_l1Cur_among a0 a1 = some r) : MeetsB Try.prog 121 (.box (eCu a0)) [.d false [.sl none (a1.map eI)]] [.p (iV r.1)] (.box (eCu r.2)) := by
 refine mob Try.func121 [(0, .box (eCu a0)), (1, .d false [.sl none (a1.map eI)])] ?_
 unfold spec_l1Cur_among at h
 refine k_sreg (r_gq [(0, .box (eCu a0)), (1, .d false [.sl none (a1.map eI)])] [] trivial) ?_
 replace h := bs h
 obtain ⟨v1, hv1, h⟩ := h
 replace h := bs h
 obtain ⟨v2, hv2, h⟩ := h
 refine k_sreg (r_gq [(0, .box (eCu v1.2)), (4, .p (iV v2))] [(3, {n := some a1.length}), (4, {lend := some (none, [.p (iV v1.1)], .box (eCu v1.2), false)}), (5, {row := some (eI v2)})] (A4 (show (a1.map eI).length = a1.length from (List.length_map ..)) (wk_spec_l1Cur_pick hv1) (yba hv2).1 (map_get eI (yba hv2).2))) ?_
 refine k_ret ?_
 obtain rfl := oi h
 exact ebr [(.p (iV v2), 4)]
theorem wk_spec_l1Cur_graph {a0 : Cu}  {r : ((List (List Int)) × Cu)} (h : spec_l1Cur_graph a0 = some r) : MeetsB Try.prog 122 (.box (eCu a0)) [] [.ov false [.sl (some 26) (r.1.map (eO 3 eI))]] (.box (eCu r.2)) := by
 refine mob Try.func122 [(0, .box (eCu a0))] ?_
 unfold spec_l1Cur_graph at h
 refine k_sreg (r_gq [(0, .box (eCu a0))] [] trivial) ?_
 replace h := bs h
 obtain ⟨v1, hv1, h⟩ := h
 refine k_sreg (r_gq [(0, .box (eCu v1.2)), (3, .p (iV (w64 (1 + v1.1))))] [(1, {lend := some (none, [.p (iV v1.1)], .box (eCu v1.2), false)})] (A1 (wk_spec_l1Cur_pick hv1))) ?_
 refine k_join (J := fun (x : ((List Int) × Int × Int × Int)) => [(0, .box (eCu (x.1, x.2.1, x.2.2.1))), (3, .p (iV x.2.2.2))]) (K := fun x => spec_l1Cur_graph_k1 x = some r) (fun x2 h => ?_) ?_
 ·unfold spec_l1Cur_graph_k1 at h
  replace h := bs h
  obtain ⟨v3, hv3, h⟩ := h
  refine k_sreg (r_gq [(0, .box (eCu v3.2)), (3, .p (iV x2.2.2.2)), (4, .p (iV v3.1))] [(2, {lend := some (some [.d false [.sl none (([2, 2, 3]).map eI)]], [.p (iV v3.1)], .box (eCu v3.2), false), fix := some (21, .d false [.sl none (([2, 2, 3]).map eI)])})] (A3 (show ([.d false [.sl none (eraL (([2, 2, 3]).map eI))]] : List Arg) = [.d false [.sl none (([2, 2, 3]).map eI)]] from (by simp only [yea (h := eI) er_I])) (wk_spec_l1Cur_among hv3) (show (SV.d false (eraR [.sl (some 3) (([2, 2, 3]).map eI)]) : SV) = .d false [.sl none (([2, 2, 3]).map eI)] from (congrArg (fun z => SV.d false z) (erc_sl (yea er_I) rfl))))) ?_
  refine k_sreg (r_gq [(0, .box (eCu v3.2)), (3, .p (iV x2.2.2.2)), (4, .p (iV v3.1)), (5, .ov false [.sl (some 26) []])] [] trivial) ?_
  refine k_join (J := fun (x : ((List Int) × Int × Int × (List (List Int)))) => [(0, .box (eCu (x.1, x.2.1, x.2.2.1))), (3, .p (iV x2.2.2.2)), (5, .ov false [.sl (some 26) (x.2.2.2.map (eO 3 eI))])]) (K := fun x => spec_l1Cur_graph_k2 x2 x = some r) (fun x4 h => ?_) ?_
  ·unfold spec_l1Cur_graph_k2 at h
   refine k_join (J := fun (x : ((List Int) × Int × Int × (List (List Int)))) => [(0, .box (eCu (x.1, x.2.1, x.2.2.1))), (5, .ov false [.sl (some 26) (x.2.2.2.map (eO 3 eI))])]) (K := fun x => spec_l1Cur_graph_k3 x = some r) (fun x5 h => ?_) ?_
   ·unfold spec_l1Cur_graph_k3 at h
    refine k_join (J := fun (x : ((List Int) × Int × Int × (List (List Int)))) => [(0, .box (eCu (x.1, x.2.1, x.2.2.1))), (5, .ov false [.sl (some 26) (x.2.2.2.map (eO 3 eI))])]) (K := fun x => spec_l1Cur_graph_k4 x = some r) (fun x6 h => ?_) ?_
    ·unfold spec_l1Cur_graph_k4 at h
     refine k_sreg (r_gq [(0, .box (eCu (x6.1, x6.2.1, x6.2.2.1))), (2, .ov false [.sl (some 26) (x6.2.2.2.map (eO 3 eI))])] [] trivial) ?_
     refine k_ret ?_
     obtain rfl := oi h
     exact ebr [(.ov false [.sl (some 26) (x6.2.2.2.map (eO 3 eI))], 2)]
    ·replace h := bs h
     obtain ⟨v7, hv7, h⟩ := h
     refine k_sreg (r_gq [(0, .box (eCu v7.2)), (5, .ov false [.sl (some 26) (x5.2.2.2.map (eO 3 eI))]), (75, .p (.bool v7.1))] [(1, {lend := some (none, [.p (.bool v7.1)], .box (eCu v7.2), false)})] (A1 (wk_spec_l1Cur_one hv7))) ?_
     refine kc v7.1 (fun hc2_7 => ?_) (fun hc2_7 => ?_)
     ·replace h := ite_t hc2_7 h
      refine k_sreg (r_gq [(0, .box (eCu v7.2)), (5, .ov false [.sl (some 26) (x5.2.2.2.map (eO 3 eI))]), (77, .p (iV (x5.2.2.2.length : Int))), (78, .p (iV 0))] [(1, {n := some x5.2.2.2.length})] (A1 (show (x5.2.2.2.map (eO 3 eI)).length = x5.2.2.2.length from (List.length_map ..)))) ?_
      refine k_block ?_
      obtain ⟨y10, hl_x9, hk_x9⟩ := bs h
      clear h
      refine k_loop (J := fun (x : ((List (List Int)) × Int)) => [(0, .box (eCu v7.2)), (5, .ov false [.sl (some 26) (x.1.map (eO 3 eI))]), (77, .p (iV (x5.2.2.2.length : Int))), (78, .p (iV x.2))]) hl_x9 (wk_of (by kernel_rfl) (by kernel_rfl)) (fun x9 o_x9 h hy_x9 => ?_)
      unfold spec_l1Cur_graph_b1 at h
      refine k_sreg (r_gq [(0, .box (eCu v7.2)), (5, .ov false [.sl (some 26) (x9.1.map (eO 3 eI))]), (77, .p (iV (x5.2.2.2.length : Int))), (78, .p (iV x9.2)), (79, .p (.bool (decide (x9.2 < (x5.2.2.2.length : Int)))))] [] trivial) ?_
      refine k_seq ?_
      refine kc (decide (x9.2 < (x5.2.2.2.length : Int))) (fun hc5_10 => ?_) (fun hc5_10 => ?_)
      ·replace h := ite_t hc5_10 h
       refine k_skip ?_
       refine q_n ?_
       refine k_join (J := fun (x : (List (List Int))) => [(0, .box (eCu v7.2)), (5, .ov false [.sl (some 26) (x.map (eO 3 eI))]), (77, .p (iV (x5.2.2.2.length : Int))), (78, .p (iV x9.2))]) (K := fun x => spec_l1Cur_graph_k5 x9 x = some o_x9) (fun x12 h => ?_) ?_
       ·unfold spec_l1Cur_graph_k5 at h
        refine k_reg (r_gq [(0, .box (eCu v7.2)), (5, .ov false [.sl (some 26) (x12.map (eO 3 eI))]), (77, .p (iV (x5.2.2.2.length : Int))), (78, .p (iV (w64 (x9.2 + 1))))] [] trivial) ?_
        exact lqn (x12, (w64 (x9.2 + 1))) h
       ·refine k_block ?_
        refine k_sreg (r_gq [(0, .box (eCu v7.2)), (5, .ov false [.sl (some 26) (x9.1.map (eO 3 eI))]), (10, .p (iV x9.2)), (77, .p (iV (x5.2.2.2.length : Int))), (78, .p (iV x9.2))] [] trivial) ?_
        replace h := bs h
        obtain ⟨v13, hv13, h⟩ := h
        refine k_sreg (r_gq [(0, .box (eCu v7.2)), (5, .ov false [.sl (some 26) (x9.1.map (eO 3 eI))]), (10, .p (iV x9.2)), (77, .p (iV (x5.2.2.2.length : Int))), (78, .p (iV x9.2)), (85, .p (iV (v13.length : Int))), (86, .p (iV 0))] [(2, {row := some [.sl (some 3) (v13.map eI)]}), (3, {row := some [.sl (some 3) (v13.map eI)]}), (4, {deep := some [.sl (some 3) (v13.map eI)], n := some v13.length})] (A6 (yba hv13).1 (map_get (eO 3 eI) (yba hv13).2) (show frR [.sl (some 3) (v13.map eI)] = false from rfl) (show getRow [[.sl (some 26) (x9.1.map (eO 3 eI))]] [(0, 0), ((Int.toNat x9.2), 0)] = some [.sl (some 3) (v13.map eI)] from ((gr0 rfl).trans (gre (map_get (eO 3 eI) (yba hv13).2)))) (show (v13.map eI).length = v13.length from (List.length_map ..)) (show getRow [[.sl (some 26) (x9.1.map (eO 3 eI))]] [(0, 0), ((Int.toNat x9.2), 0)] = some [.sl (some 3) (v13.map eI)] from ((gr0 rfl).trans (gre (map_get (eO 3 eI) (yba hv13).2)))))) ?_
        refine k_block ?_
        obtain ⟨y15, hl_x14, hk_x14⟩ := bs h
        clear h
        refine k_loop (J := fun (x : ((List (List Int)) × Int)) => [(0, .box (eCu v7.2)), (5, .ov false [.sl (some 26) (x.1.map (eO 3 eI))]), (10, .p (iV x9.2)), (77, .p (iV (x5.2.2.2.length : Int))), (78, .p (iV x9.2)), (85, .p (iV (v13.length : Int))), (86, .p (iV x.2))]) hl_x14 (wk_of (by kernel_rfl) (by kernel_rfl)) (fun x14 o_x14 h hy_x14 => ?_)
        unfold spec_l1Cur_graph_b2 at h
        refine k_sreg (r_gq [(0, .box (eCu v7.2)), (5, .ov false [.sl (some 26) (x14.1.map (eO 3 eI))]), (10, .p (iV x9.2)), (77, .p (iV (x5.2.2.2.length : Int))), (78, .p (iV x9.2)), (85, .p (iV (v13.length : Int))), (86, .p (iV x14.2)), (87, .p (.bool (decide (x14.2 < (v13.length : Int)))))] [] trivial) ?_
        refine k_seq ?_
        refine kc (decide (x14.2 < (v13.length : Int))) (fun hc9_15 => ?_) (fun hc9_15 => ?_)
        ·replace h := ite_t hc9_15 h
         refine k_skip ?_
         refine q_n ?_
         refine k_seq ?_
         refine k_block ?_
         refine k_sreg (r_gq [(0, .box (eCu v7.2)), (5, .ov false [.sl (some 26) (x14.1.map (eO 3 eI))]), (10, .p (iV x9.2)), (11, .p (iV x14.2)), (77, .p (iV (x5.2.2.2.length : Int))), (78, .p (iV x9.2)), (85, .p (iV (v13.length : Int))), (86, .p (iV x14.2))] [] trivial) ?_
         replace h := bs h
         obtain ⟨v17, hv17, h⟩ := h
         replace h := bs h
         obtain ⟨v18, hv18, h⟩ := h
         refine k_reg (r_gq [(0, .box (eCu v7.2)), (5, .ov false [.sl (some 26) ((x14.1.set (Int.toNat x9.2) (v17.set (Int.toNat x14.2) 9)).map (eO 3 eI))]), (10, .p (iV x9.2)), (77, .p (iV (x5.2.2.2.length : Int))), (78, .p (iV x9.2)), (85, .p (iV (v13.length : Int))), (86, .p (iV x14.2))] [(2, {row := some [.sl (some 3) (v17.map eI)]}), (3, {row := some [.sl (some 3) (v17.map eI)]}), (5, {deep := some [.sl (some 3) (v17.map eI)], row := some (eI v18)}), (6, {row := some (eI v18), fix := some (5, .ov false [.sl (some 26) ((x14.1.set (Int.toNat x9.2) (v17.set (Int.toNat x14.2) 9)).map (eO 3 eI))])})] (B6 (yba hv17).1 (map_get (eO 3 eI) (yba hv17).2) (show frR [.sl (some 3) (v17.map eI)] = false from rfl) (show getRow [[.sl (some 26) (x14.1.map (eO 3 eI))]] [(0, 0), ((Int.toNat x9.2), 0)] = some [.sl (some 3) (v17.map eI)] from ((gr0 rfl).trans (gre (map_get (eO 3 eI) (yba hv17).2)))) (yba hv18).1 (map_get eI (yba hv18).2) (A3 (show getRow [[.sl (some 26) (x14.1.map (eO 3 eI))]] [(0, 0), ((Int.toNat x9.2), 0)] = some [.sl (some 3) (v17.map eI)] from ((gr0 rfl).trans (gre (map_get (eO 3 eI) (yba hv17).2)))) (show getRow [[.sl (some 26) (x14.1.map (eO 3 eI))]] [(0, 0), ((Int.toNat x9.2), 0), ((Int.toNat x14.2), 0)] = some (eI v18) from ((gr0 rfl).trans ((grs (map_get (eO 3 eI) (yba hv17).2) rfl).trans (gre (map_get eI (yba hv18).2))))) (show (SV.ov false [.sl (some 26) (setL (x14.1.map (eO 3 eI)) [((Int.toNat x9.2), 0), ((Int.toNat x14.2), 0)] [rI 9])] : SV) = .ov false [.sl (some 26) ((x14.1.set (Int.toNat x9.2) (v17.set (Int.toNat x14.2) 9)).map (eO 3 eI))] from (congrArg (fun z => SV.ov false [.sl (some 26) z]) (set2 (f := (eO 3 eI)) (y := (v17.set (Int.toNat x14.2) 9)) (yba hv17).2 rfl (set1 (f := eI) (y := 9) (yba hv18).2 rfl) rfl)))))) ?_
         refine b_n ?_
         refine q_n ?_
         refine k_reg (r_gq [(0, .box (eCu v7.2)), (5, .ov false [.sl (some 26) ((x14.1.set (Int.toNat x9.2) (v17.set (Int.toNat x14.2) 9)).map (eO 3 eI))]), (10, .p (iV x9.2)), (77, .p (iV (x5.2.2.2.length : Int))), (78, .p (iV x9.2)), (85, .p (iV (v13.length : Int))), (86, .p (iV (w64 (x14.2 + 1))))] [] trivial) ?_
         exact lqn ((x14.1.set (Int.toNat x9.2) (v17.set (Int.toNat x14.2) 9)), (w64 (x14.2 + 1))) h
        ·replace h := ite_f hc9_15 h
         refine k_exit ?_
         refine q_x ?_
         refine lq_x ?_
         refine b_x ?_
         refine b_n ?_
         have hyy := hy_x14 _ (oi h).symm
         subst hyy
         have h := hk_x14
         refine q_n ?_
         exact jx x14.1 h
      ·replace h := ite_f hc5_10 h
       refine k_exit ?_
       refine q_x ?_
       refine lq_x ?_
       refine b_x ?_
       have hyy := hy_x9 _ (oi h).symm
       subst hyy
       have h := hk_x9
       refine q_n ?_
       exact jx (v7.2.1, v7.2.2.1, v7.2.2.2, x9.1) h
     ·replace h := ite_f hc2_7 h
      refine k_skip ?_
      refine q_n ?_
      exact jx (v7.2.1, v7.2.2.1, v7.2.2.2, x5.2.2.2) h
   ·replace h := bs h
    obtain ⟨v19, hv19, h⟩ := h
    refine k_sreg (r_gq [(0, .box (eCu v19.2)), (3, .p (iV x2.2.2.2)), (5, .ov false [.sl (some 26) (x4.2.2.2.map (eO 3 eI))]), (60, .p (.bool v19.1))] [(1, {lend := some (none, [.p (.bool v19.1)], .box (eCu v19.2), false)})] (A1 (wk_spec_l1Cur_one hv19))) ?_
    refine kc v19.1 (fun hc2_19 => ?_) (fun hc2_19 => ?_)
    ·replace h := ite_t hc2_19 h
     replace h := bs h
     obtain ⟨v21, hv21, h⟩ := h
     replace h := bs h
     obtain ⟨v22, hv22, h⟩ := h
     replace h := bs h
     obtain ⟨v23, hv23, h⟩ := h
     replace h := bs h
     obtain ⟨v24, hv24, h⟩ := h
     replace h := bs h
     obtain ⟨v25, hv25, h⟩ := h
     refine k_reg (r_dq Try_mixed 12 [(3, 0), (8, 0), (11, 0)] [(0, .box (eCu v24.2)), (5, .ov false [.sl (some 26) ((x4.2.2.2.set (Int.toNat v21.1) (v22.set (Int.toNat v23.1) v24.1)).map (eO 3 eI))])] [(3, {lend := some (none, [.p (iV v21.1)], .box (eCu v21.2), false)}), (4, {row := some [.sl (some 3) (v22.map eI)]}), (5, {row := some [.sl (some 3) (v22.map eI)]}), (8, {lend := some (none, [.p (iV v23.1)], .box (eCu v23.2), false)}), (10, {pre := some (0, .u), fix := some (71, .d false [.sl none (([3, 9]).map eI)])}), (11, {lend := some (none, [.p (iV v24.1)], .box (eCu v24.2), false)}), (12, {deep := some [.sl (some 3) (v22.map eI)], row := some (eI v25)}), (13, {row := some (eI v25), fix := some (5, .ov false [.sl (some 26) ((x4.2.2.2.set (Int.toNat v21.1) (v22.set (Int.toNat v23.1) v24.1)).map (eO 3 eI))])})] (B6 (wk_spec_l1Cur_pick hv21) (yba hv22).1 (map_get (eO 3 eI) (yba hv22).2) (show frR [.sl (some 3) (v22.map eI)] = false from rfl) (show getRow [[.sl (some 26) (x4.2.2.2.map (eO 3 eI))]] [(0, 0), ((Int.toNat v21.1), 0)] = some [.sl (some 3) (v22.map eI)] from ((gr0 rfl).trans (gre (map_get (eO 3 eI) (yba hv22).2)))) (wk_spec_l1Cur_pick hv23) (B6 (show (SV.d false (eraR [.sl (some 3) (([3, 9]).map eI)]) : SV) = .d false [.sl none (([3, 9]).map eI)] from (congrArg (fun z => SV.d false z) (erc_sl (yea er_I) rfl))) (wk_spec_l1Cur_among hv24) (yba hv25).1 (map_get eI (yba hv25).2) (show getRow [[.sl (some 26) (x4.2.2.2.map (eO 3 eI))]] [(0, 0), ((Int.toNat v21.1), 0)] = some [.sl (some 3) (v22.map eI)] from ((gr0 rfl).trans (gre (map_get (eO 3 eI) (yba hv22).2)))) (show getRow [[.sl (some 26) (x4.2.2.2.map (eO 3 eI))]] [(0, 0), ((Int.toNat v21.1), 0), ((Int.toNat v23.1), 0)] = some (eI v25) from ((gr0 rfl).trans ((grs (map_get (eO 3 eI) (yba hv22).2) rfl).trans (gre (map_get eI (yba hv25).2))))) (A1 (show (SV.ov false [.sl (some 26) (setL (x4.2.2.2.map (eO 3 eI)) [((Int.toNat v21.1), 0), ((Int.toNat v23.1), 0)] (eI v24.1))] : SV) = .ov false [.sl (some 26) ((x4.2.2.2.set (Int.toNat v21.1) (v22.set (Int.toNat v23.1) v24.1)).map (eO 3 eI))] from (congrArg (fun z => SV.ov false [.sl (some 26) z]) (set2 (f := (eO 3 eI)) (y := (v22.set (Int.toNat v23.1) v24.1)) (yba hv22).2 rfl (set1 (f := eI) (y := v24.1) (yba hv25).2 rfl) rfl))))))) ?_
     refine q_n ?_
     exact jx (v24.2.1, v24.2.2.1, v24.2.2.2, (x4.2.2.2.set (Int.toNat v21.1) (v22.set (Int.toNat v23.1) v24.1))) h
    ·replace h := ite_f hc2_19 h
     refine k_skip ?_
     refine q_n ?_
     exact jx (v19.2.1, v19.2.2.1, v19.2.2.2, x4.2.2.2) h
  ·refine k_sreg (r_gq [(0, .box (eCu v3.2)), (3, .p (iV x2.2.2.2)), (4, .p (iV v3.1)), (5, .ov false [.sl (some 26) []]), (6, .p (iV 0))] [] trivial) ?_
   refine k_block ?_
   obtain ⟨y27, hl_x26, hk_x26⟩ := bs h
   clear h
   refine k_loop (J := fun (x : ((List Int) × Int × Int × (List (List Int)) × Int)) => [(0, .box (eCu (x.1, x.2.1, x.2.2.1))), (3, .p (iV x2.2.2.2)), (4, .p (iV v3.1)), (5, .ov false [.sl (some 26) (x.2.2.2.1.map (eO 3 eI))]), (6, .p (iV x.2.2.2.2))]) hl_x26 (wk_of (by kernel_rfl) (by kernel_rfl)) (fun x26 o_x26 h hy_x26 => ?_)
   unfold spec_l1Cur_graph_b3 at h
   refine k_seq ?_
   refine k_sreg (r_gq [(0, .box (eCu (x26.1, x26.2.1, x26.2.2.1))), (3, .p (iV x2.2.2.2)), (4, .p (iV v3.1)), (5, .ov false [.sl (some 26) (x26.2.2.2.1.map (eO 3 eI))]), (6, .p (iV x26.2.2.2.2)), (25, .p (.bool (decide (x26.2.2.2.2 < x2.2.2.2))))] [] trivial) ?_
   refine kc (decide (x26.2.2.2.2 < x2.2.2.2)) (fun hc5_27 => ?_) (fun hc5_27 => ?_)
   ·replace h := ite_t hc5_27 h
    refine k_skip ?_
    refine q_n ?_
    refine k_join (J := fun (x : ((List Int) × Int × Int × (List (List Int)))) => [(0, .box (eCu (x.1, x.2.1, x.2.2.1))), (3, .p (iV x2.2.2.2)), (4, .p (iV v3.1)), (5, .ov false [.sl (some 26) (x.2.2.2.map (eO 3 eI))]), (6, .p (iV x26.2.2.2.2))]) (K := fun x => spec_l1Cur_graph_k6 x26 x = some o_x26) (fun x29 h => ?_) ?_
    ·unfold spec_l1Cur_graph_k6 at h
     refine k_reg (r_gq [(0, .box (eCu (x29.1, x29.2.1, x29.2.2.1))), (3, .p (iV x2.2.2.2)), (4, .p (iV v3.1)), (5, .ov false [.sl (some 26) (x29.2.2.2.map (eO 3 eI))]), (6, .p (iV (w64 (x26.2.2.2.2 + 1))))] [] trivial) ?_
     exact lqn (x29.1, x29.2.1, x29.2.2.1, x29.2.2.2, (w64 (x26.2.2.2.2 + 1))) h
    ·refine k_block ?_
     refine k_sreg (r_gq [(0, .box (eCu (x26.1, x26.2.1, x26.2.2.1))), (3, .p (iV x2.2.2.2)), (4, .p (iV v3.1)), (5, .ov false [.sl (some 26) (x26.2.2.2.1.map (eO 3 eI))]), (6, .p (iV x26.2.2.2.2)), (7, .ov false [.sl (some 3) []])] [] trivial) ?_
     refine k_join (J := fun (x : ((List Int) × Int × Int × (List Int))) => [(0, .box (eCu (x.1, x.2.1, x.2.2.1))), (3, .p (iV x2.2.2.2)), (4, .p (iV v3.1)), (5, .ov false [.sl (some 26) (x26.2.2.2.1.map (eO 3 eI))]), (6, .p (iV x26.2.2.2.2)), (7, .ov false [.sl (some 3) (x.2.2.2.map eI)])]) (K := fun x => spec_l1Cur_graph_k7 x26 x = some o_x26) (fun x30 h => ?_) ?_
     ·unfold spec_l1Cur_graph_k7 at h
      replace h := bs h
      obtain ⟨u31, hu31, h⟩ := h
      refine k_reg (r_gq [(0, .box (eCu (x30.1, x30.2.1, x30.2.2.1))), (3, .p (iV x2.2.2.2)), (4, .p (iV v3.1)), (5, .ov false [.sl (some 26) ((x26.2.2.2.1 ++ [x30.2.2.2]).map (eO 3 eI))]), (6, .p (iV x26.2.2.2.2))] [(3, {fix := some (58, .ov false [.sl (some 26) ((x26.2.2.2.1 ++ [x30.2.2.2]).map (eO 3 eI))])})] (A3 (show List.length ((x26.2.2.2.1.map (eO 3 eI)) : List (List C)) + List.length ((([x30.2.2.2]).map (eO 3 eI)) : List (List C)) ≤ 1099511627776 from (by have hg := (yca hu31); simpa using hg)) (show ∀ row ∈ ((([x30.2.2.2]).map (eO 3 eI)) : List (List C)), row.length = 1 from (yua fun _ => rfl)) (show (SV.ov false [.sl (some 26) ((x26.2.2.2.1.map (eO 3 eI)) ++ (([x30.2.2.2]).map (eO 3 eI)))] : SV) = .ov false [.sl (some 26) ((x26.2.2.2.1 ++ [x30.2.2.2]).map (eO 3 eI))] from (congrArg (fun z => SV.ov false [.sl (some 26) z]) (List.map_append ..).symm)))) ?_
      refine b_n ?_
      refine q_n ?_
      exact jx (x30.1, x30.2.1, x30.2.2.1, (x26.2.2.2.1 ++ [x30.2.2.2])) h
     ·refine k_sreg (r_gq [(0, .box (eCu (x26.1, x26.2.1, x26.2.2.1))), (3, .p (iV x2.2.2.2)), (4, .p (iV v3.1)), (5, .ov false [.sl (some 26) (x26.2.2.2.1.map (eO 3 eI))]), (6, .p (iV x26.2.2.2.2)), (7, .ov false [.sl (some 3) []]), (8, .p (iV 0))] [] trivial) ?_
      refine k_block ?_
      obtain ⟨y33, hl_x32, hk_x32⟩ := bs h
      clear h
      refine k_loop (J := fun (x : ((List Int) × Int × Int × (List Int) × Int)) => [(0, .box (eCu (x.1, x.2.1, x.2.2.1))), (3, .p (iV x2.2.2.2)), (4, .p (iV v3.1)), (5, .ov false [.sl (some 26) (x26.2.2.2.1.map (eO 3 eI))]), (6, .p (iV x26.2.2.2.2)), (7, .ov false [.sl (some 3) (x.2.2.2.1.map eI)]), (8, .p (iV x.2.2.2.2))]) hl_x32 (wk_of (by kernel_rfl) (by kernel_rfl)) (fun x32 o_x32 h hy_x32 => ?_)
      unfold spec_l1Cur_graph_b4 at h
      refine k_seq ?_
      refine k_sreg (r_gq [(0, .box (eCu (x32.1, x32.2.1, x32.2.2.1))), (3, .p (iV x2.2.2.2)), (4, .p (iV v3.1)), (5, .ov false [.sl (some 26) (x26.2.2.2.1.map (eO 3 eI))]), (6, .p (iV x26.2.2.2.2)), (7, .ov false [.sl (some 3) (x32.2.2.2.1.map eI)]), (8, .p (iV x32.2.2.2.2)), (30, .p (.bool (decide (x32.2.2.2.2 < x2.2.2.2))))] [] trivial) ?_
      refine kc (decide (x32.2.2.2.2 < x2.2.2.2)) (fun hc10_33 => ?_) (fun hc10_33 => ?_)
      ·replace h := ite_t hc10_33 h
       refine k_skip ?_
       refine q_n ?_
       refine k_seq ?_
       refine k_block ?_
       refine k_sreg (r_gq [(0, .box (eCu (x32.1, x32.2.1, x32.2.2.1))), (3, .p (iV x2.2.2.2)), (4, .p (iV v3.1)), (5, .ov false [.sl (some 26) (x26.2.2.2.1.map (eO 3 eI))]), (6, .p (iV x26.2.2.2.2)), (7, .ov false [.sl (some 3) (x32.2.2.2.1.map eI)]), (8, .p (iV x32.2.2.2.2)), (9, .p (iV 0))] [] trivial) ?_
       refine k_join (J := fun (x : ((List Int) × Int × Int × Int)) => [(0, .box (eCu (x.1, x.2.1, x.2.2.1))), (3, .p (iV x2.2.2.2)), (4, .p (iV v3.1)), (5, .ov false [.sl (some 26) (x26.2.2.2.1.map (eO 3 eI))]), (6, .p (iV x26.2.2.2.2)), (7, .ov false [.sl (some 3) (x32.2.2.2.1.map eI)]), (8, .p (iV x32.2.2.2.2)), (9, .p (iV x.2.2.2))]) (K := fun x => spec_l1Cur_graph_k8 x32 x = some o_x32) (fun x35 h => ?_) ?_
       ·unfold spec_l1Cur_graph_k8 at h
        replace h := bs h
        obtain ⟨u36, hu36, h⟩ := h
        refine k_reg (r_gq [(0, .box (eCu (x35.1, x35.2.1, x35.2.2.1))), (3, .p (iV x2.2.2.2)), (4, .p (iV v3.1)), (5, .ov false [.sl (some 26) (x26.2.2.2.1.map (eO 3 eI))]), (6, .p (iV x26.2.2.2.2)), (7, .ov false [.sl (some 3) ((x32.2.2.2.1 ++ [x35.2.2.2]).map eI)]), (8, .p (iV x32.2.2.2.2))] [(3, {fix := some (54, .ov false [.sl (some 3) ((x32.2.2.2.1 ++ [x35.2.2.2]).map eI)])})] (A3 (show List.length ((x32.2.2.2.1.map eI) : List (List C)) + List.length ((([x35.2.2.2]).map eI) : List (List C)) ≤ 1099511627776 from (by have hg := (yca hu36); simpa using hg)) (show ∀ row ∈ ((([x35.2.2.2]).map eI) : List (List C)), row.length = 1 from (yua fun _ => rfl)) (show (SV.ov false [.sl (some 3) ((x32.2.2.2.1.map eI) ++ (([x35.2.2.2]).map eI))] : SV) = .ov false [.sl (some 3) ((x32.2.2.2.1 ++ [x35.2.2.2]).map eI)] from (congrArg (fun z => SV.ov false [.sl (some 3) z]) (List.map_append ..).symm)))) ?_
        refine b_n ?_
        refine q_n ?_
        refine k_reg (r_gq [(0, .box (eCu (x35.1, x35.2.1, x35.2.2.1))), (3, .p (iV x2.2.2.2)), (4, .p (iV v3.1)), (5, .ov false [.sl (some 26) (x26.2.2.2.1.map (eO 3 eI))]), (6, .p (iV x26.2.2.2.2)), (7, .ov false [.sl (some 3) ((x32.2.2.2.1 ++ [x35.2.2.2]).map eI)]), (8, .p (iV (w64 (x32.2.2.2.2 + 1))))] [] trivial) ?_
        exact lqn (x35.1, x35.2.1, x35.2.2.1, (x32.2.2.2.1 ++ [x35.2.2.2]), (w64 (x32.2.2.2.2 + 1))) h
       ·replace h := bs h
        obtain ⟨v37, hv37, h⟩ := h
        replace h := bs h
        obtain ⟨w39, hw39, h⟩ := h
        refine k_sreg (l1 := [(0, .box (eCu v37.2)), (3, .p (iV x2.2.2.2)), (4, .p (iV v3.1)), (5, .ov false [.sl (some 26) (x26.2.2.2.1.map (eO 3 eI))]), (6, .p (iV x26.2.2.2.2)), (7, .ov false [.sl (some 3) (x32.2.2.2.1.map eI)]), (8, .p (iV x32.2.2.2.2)), (9, .p (iV 0)), (47, .p (.bool w39))]) ?_ ?_
        ·clear h
         rcases ft v37.1 with ha2 | ha2
         ·replace hw39 := ite_t ha2 hw39
          have hw39 := oi hw39
          subst hw39
          exact (r_gq [(0, .box (eCu v37.2)), (3, .p (iV x2.2.2.2)), (4, .p (iV v3.1)), (5, .ov false [.sl (some 26) (x26.2.2.2.1.map (eO 3 eI))]), (6, .p (iV x26.2.2.2.2)), (7, .ov false [.sl (some 3) (x32.2.2.2.1.map eI)]), (8, .p (iV x32.2.2.2.2)), (9, .p (iV 0)), (47, .p (.bool true))] [(2, {lend := some (none, [.p (.bool v37.1)], .box (eCu v37.2), false)}), (4, gT), (5, gT), (6, gT), (13, gT), (14, bT)] (A6 (wk_spec_l1Cur_one hv37) ha2 ha2 ha2 ha2 ha2))
         ·replace hw39 := ite_f ha2 hw39
          rcases ft (v3.1 == 2) with ha3 | ha3
          ·replace hw39 := ite_t ha3 hw39
           replace hw39 := bs hw39
           obtain ⟨u38, hu38, hw39⟩ := hw39
           have hw39 := oi hw39
           subst hw39
           exact (r_gq [(0, .box (eCu v37.2)), (3, .p (iV x2.2.2.2)), (4, .p (iV v3.1)), (5, .ov false [.sl (some 26) (x26.2.2.2.1.map (eO 3 eI))]), (6, .p (iV x26.2.2.2.2)), (7, .ov false [.sl (some 3) (x32.2.2.2.1.map eI)]), (8, .p (iV x32.2.2.2.2)), (9, .p (iV 0)), (47, .p (.bool (x32.2.2.2.2 == (Int.tmod (w64 (x26.2.2.2.2 + 1)) x2.2.2.2))))] [(2, {lend := some (none, [.p (.bool v37.1)], .box (eCu v37.2), false)}), (4, gF), (5, gF), (6, gF), (7, gT), (8, gT), (9, gT), (10, gT), (11, gT), (12, gT), (13, {g := some false, b := some true}), (14, bF)] (B6 (wk_spec_l1Cur_one hv37) ha2 ha2 ha2 ha3 ha3 (B6 ha3 ha3 ha3 (yca hu38) ha3 ha2 (A2 ha3 ha2))))
          ·replace hw39 := ite_f ha3 hw39
           have hw39 := oi hw39
           subst hw39
           exact (r_gq [(0, .box (eCu v37.2)), (3, .p (iV x2.2.2.2)), (4, .p (iV v3.1)), (5, .ov false [.sl (some 26) (x26.2.2.2.1.map (eO 3 eI))]), (6, .p (iV x26.2.2.2.2)), (7, .ov false [.sl (some 3) (x32.2.2.2.1.map eI)]), (8, .p (iV x32.2.2.2.2)), (9, .p (iV 0)), (47, .p (.bool false))] [(2, {lend := some (none, [.p (.bool v37.1)], .box (eCu v37.2), false)}), (4, gF), (5, gF), (6, gF), (7, gF), (8, gF), (9, gF), (10, gF), (11, gF), (12, gF), (13, {g := some false, b := some false}), (14, bF)] (B6 (wk_spec_l1Cur_one hv37) ha2 ha2 ha2 ha3 ha3 (B6 ha3 ha3 ha3 ha3 ha2 ha3 (A1 ha2))))
        ·refine kc w39 (fun hc12_39 => ?_) (fun hc12_39 => ?_)
         ·replace h := ite_t hc12_39 h
          replace h := bs h
          obtain ⟨v41, hv41, h⟩ := h
          refine k_reg (r_gq [(0, .box (eCu v41.2)), (3, .p (iV x2.2.2.2)), (4, .p (iV v3.1)), (5, .ov false [.sl (some 26) (x26.2.2.2.1.map (eO 3 eI))]), (6, .p (iV x26.2.2.2.2)), (7, .ov false [.sl (some 3) (x32.2.2.2.1.map eI)]), (8, .p (iV x32.2.2.2.2)), (9, .p (iV v41.1))] [(2, {lend := some (some [.d false [.sl none (([1, 1, 1, 2]).map eI)]], [.p (iV v41.1)], .box (eCu v41.2), false), fix := some (49, .d false [.sl none (([1, 1, 1, 2]).map eI)])})] (A3 (show ([.d false [.sl none (eraL (([1, 1, 1, 2]).map eI))]] : List Arg) = [.d false [.sl none (([1, 1, 1, 2]).map eI)]] from (by simp only [yea (h := eI) er_I])) (wk_spec_l1Cur_among hv41) (show (SV.d false (eraR [.sl (some 3) (([1, 1, 1, 2]).map eI)]) : SV) = .d false [.sl none (([1, 1, 1, 2]).map eI)] from (congrArg (fun z => SV.d false z) (erc_sl (yea er_I) rfl))))) ?_
          refine q_n ?_
          exact jx (v41.2.1, v41.2.2.1, v41.2.2.2, v41.1) h
         ·replace h := ite_f hc12_39 h
          refine k_skip ?_
          refine q_n ?_
          exact jx (v37.2.1, v37.2.2.1, v37.2.2.2, 0) h
      ·replace h := ite_f hc10_33 h
       refine k_exit ?_
       refine q_x ?_
       refine lq_x ?_
       refine b_x ?_
       have hyy := hy_x32 _ (oi h).symm
       subst hyy
       have h := hk_x32
       refine q_n ?_
       exact jx (x32.1, x32.2.1, x32.2.2.1, x32.2.2.2.1) h
   ·replace h := ite_f hc5_27 h
    refine k_exit ?_
    refine q_x ?_
    refine lq_x ?_
    refine b_x ?_
    have hyy := hy_x26 _ (oi h).symm
    subst hyy
    have h := hk_x26
    refine q_n ?_
    exact jx (x26.1, x26.2.1, x26.2.2.1, x26.2.2.2.1) h
 ·replace h := bs h
  obtain ⟨v42, hv42, h⟩ := h
  refine k_sreg (r_gq [(0, .box (eCu v42.2)), (3, .p (iV (w64 (1 + v1.1)))), (16, .p (.bool v42.1))] [(1, {lend := some (none, [.p (.bool v42.1)], .box (eCu v42.2), false)})] (A1 (wk_spec_l1Cur_one hv42))) ?_
  refine kc v42.1 (fun hc2_42 => ?_) (fun hc2_42 => ?_)
  ·replace h := ite_t hc2_42 h
   replace h := bs h
   obtain ⟨v44, hv44, h⟩ := h
   refine k_reg (r_gq [(0, .box (eCu v44.2)), (3, .p (iV v44.1))] [(2, {lend := some (some [.d false [.sl none (([5, 6, 7, 8]).map eI)]], [.p (iV v44.1)], .box (eCu v44.2), false), fix := some (18, .d false [.sl none (([5, 6, 7, 8]).map eI)])})] (A3 (show ([.d false [.sl none (eraL (([5, 6, 7, 8]).map eI))]] : List Arg) = [.d false [.sl none (([5, 6, 7, 8]).map eI)]] from (by simp only [yea (h := eI) er_I])) (wk_spec_l1Cur_among hv44) (show (SV.d false (eraR [.sl (some 3) (([5, 6, 7, 8]).map eI)]) : SV) = .d false [.sl none (([5, 6, 7, 8]).map eI)] from (congrArg (fun z => SV.d false z) (erc_sl (yea er_I) rfl))))) ?_
   refine q_n ?_
   exact jx (v44.2.1, v44.2.2.1, v44.2.2.2, v44.1) h
  ·replace h := ite_f hc2_42 h
   refine k_skip ?_
   refine q_n ?_
   exact jx (v42.2.1, v42.2.2.1, v42.2.2.2, (w64 (1 + v1.1))) h
theorem wk_spec_l1Cur_anyGraph {a0 : Cu}  {r : ((List (List Int)) × Cu)} (h : spec_l1Cur_anyGraph a0 = some r) : MeetsB Try.prog 96 (.box (eCu a0)) [] [.ov false [.sl (some 26) (r.1.map (eO 3 eI))]] (.box (eCu r.2)) := by
 refine mob Try.func96 [(0, .box (eCu a0))] ?_
 unfold spec_l1Cur_anyGraph at h
 refine k_sreg (r_gq [(0, .box (eCu a0))] [] trivial) ?_
 replace h := bs h
 obtain ⟨v1, hv1, h⟩ := h
 refine k_sreg (r_gq [(0, .box (eCu v1.2)), (3, .ov false [.sl (some 26) (v1.1.map (eO 3 eI))])] [(1, {lend := some (none, [.ov false [.sl (some 26) (v1.1.map (eO 3 eI))]], .box (eCu v1.2), false)})] (A1 (wk_spec_l1Cur_graph hv1))) ?_
 refine k_join (J := fun (x : ((List Int) × Int × Int × (List (List Int)))) => [(0, .box (eCu (x.1, x.2.1, x.2.2.1))), (3, .ov false [.sl (some 26) (x.2.2.2.map (eO 3 eI))])]) (K := fun x => spec_l1Cur_anyGraph_k1 x = some r) (fun x2 h => ?_) ?_
 ·unfold spec_l1Cur_anyGraph_k1 at h
  refine k_sreg (r_gq [(0, .box (eCu (x2.1, x2.2.1, x2.2.2.1))), (2, .ov false [.sl (some 26) (x2.2.2.2.map (eO 3 eI))])] [] trivial) ?_
  refine k_ret ?_
  obtain rfl := oi h
  exact ebr [(.ov false [.sl (some 26) (x2.2.2.2.map (eO 3 eI))], 2)]
 ·replace h := bs h
  obtain ⟨v3, hv3, h⟩ := h
  refine k_sreg (r_gq [(0, .box (eCu v3.2)), (3, .ov false [.sl (some 26) (v1.1.map (eO 3 eI))]), (7, .p (iV v3.1))] [(1, {lend := some (none, [.p (iV v3.1)], .box (eCu v3.2), false)})] (A1 (wk_spec_l1Cur_pick hv3))) ?_
  refine k_block ?_
  refine k_sreg (r_gq [(0, .box (eCu v3.2)), (3, .ov false [.sl (some 26) (v1.1.map (eO 3 eI))]), (7, .p (iV v3.1)), (8, .p (.bool (v3.1 == 0)))] [] trivial) ?_
  refine kc (v3.1 == 0) (fun hc3_3 => ?_) (fun hc3_3 => ?_)
  ·replace h := ite_t hc3_3 h
   replace h := bs h
   obtain ⟨v5, hv5, h⟩ := h
   replace h := bs h
   obtain ⟨v6, hv6, h⟩ := h
   replace h := bs h
   obtain ⟨v7, hv7, h⟩ := h
   replace h := bs h
   obtain ⟨v8, hv8, h⟩ := h
   refine k_reg (r_dq Try_mixed 10 [(6, 0), (9, 0)] [(0, .box (eCu v7.2)), (3, .ov false [.sl (some 26) ((v1.1.set (Int.toNat 0) (v5.set (Int.toNat v6.1) v7.1)).map (eO 3 eI))])] [(1, {row := some [.sl (some 3) (v5.map eI)]}), (2, {row := some [.sl (some 3) (v5.map eI)]}), (5, {n := some v1.1.length}), (6, {lend := some (none, [.p (iV v6.1)], .box (eCu v6.2), false)}), (8, {pre := some (0, .u), fix := some (18, .d false [.sl none (([(-1), 10]).map eI)])}), (9, {lend := some (none, [.p (iV v7.1)], .box (eCu v7.2), false)}), (10, {deep := some [.sl (some 3) (v5.map eI)], row := some (eI v8)}), (11, {row := some (eI v8), fix := some (3, .ov false [.sl (some 26) ((v1.1.set (Int.toNat 0) (v5.set (Int.toNat v6.1) v7.1)).map (eO 3 eI))])})] (B6 (yba hv5).1 (map_get (eO 3 eI) (yba hv5).2) (show frR [.sl (some 3) (v5.map eI)] = false from rfl) (show getRow [[.sl (some 26) (v1.1.map (eO 3 eI))]] [(0, 0), ((Int.toNat 0), 0)] = some [.sl (some 3) (v5.map eI)] from ((gr0 rfl).trans (gre (map_get (eO 3 eI) (yba hv5).2)))) (show (v1.1.map (eO 3 eI)).length = v1.1.length from (List.length_map ..)) (wk_spec_l1Cur_pick hv6) (B6 (show (SV.d false (eraR [.sl (some 3) (([(-1), 10]).map eI)]) : SV) = .d false [.sl none (([(-1), 10]).map eI)] from (congrArg (fun z => SV.d false z) (erc_sl (yea er_I) rfl))) (wk_spec_l1Cur_among hv7) (yba hv8).1 (map_get eI (yba hv8).2) (show getRow [[.sl (some 26) (v1.1.map (eO 3 eI))]] [(0, 0), ((Int.toNat 0), 0)] = some [.sl (some 3) (v5.map eI)] from ((gr0 rfl).trans (gre (map_get (eO 3 eI) (yba hv5).2)))) (show getRow [[.sl (some 26) (v1.1.map (eO 3 eI))]] [(0, 0), ((Int.toNat 0), 0), ((Int.toNat v6.1), 0)] = some (eI v8) from ((gr0 rfl).trans ((grs (map_get (eO 3 eI) (yba hv5).2) rfl).trans (gre (map_get eI (yba hv8).2))))) (A1 (show (SV.ov false [.sl (some 26) (setL (v1.1.map (eO 3 eI)) [((Int.toNat 0), 0), ((Int.toNat v6.1), 0)] (eI v7.1))] : SV) = .ov false [.sl (some 26) ((v1.1.set (Int.toNat 0) (v5.set (Int.toNat v6.1) v7.1)).map (eO 3 eI))] from (congrArg (fun z => SV.ov false [.sl (some 26) z]) (set2 (f := (eO 3 eI)) (y := (v5.set (Int.toNat v6.1) v7.1)) (yba hv5).2 rfl (set1 (f := eI) (y := v7.1) (yba hv8).2 rfl) rfl))))))) ?_
   refine b_n ?_
   refine q_n ?_
   exact jx (v7.2.1, v7.2.2.1, v7.2.2.2, (v1.1.set (Int.toNat 0) (v5.set (Int.toNat v6.1) v7.1))) h
  ·replace h := ite_f hc3_3 h
   refine k_sreg (r_gq [(0, .box (eCu v3.2)), (3, .ov false [.sl (some 26) (v1.1.map (eO 3 eI))]), (7, .p (iV v3.1)), (21, .p (.bool (v3.1 == 1)))] [] trivial) ?_
   refine kc (v3.1 == 1) (fun hc3_8 => ?_) (fun hc3_8 => ?_)
   ·replace h := ite_t hc3_8 h
    replace h := bs h
    obtain ⟨v10, hv10, h⟩ := h
    replace h := bs h
    obtain ⟨u11, hu11, h⟩ := h
    refine k_reg (r_gq [(0, .box (eCu v3.2)), (3, .ov false [.sl (some 26) ((v1.1.set (Int.toNat 0) (v10 ++ [1])).map (eO 3 eI))])] [(2, {row := some [.sl (some 3) (v10.map eI)]}), (3, {row := some [.sl (some 3) (v10.map eI)]}), (5, {take := some (26, [.sl (some 3) (v10.map eI)]), fix := some (28, .ov false [.sl (some 3) ((v10 ++ [1]).map eI)])}), (6, {row := some [.dead]}), (7, {row := some [.dead], fix := some (3, .ov false [.sl (some 26) ((v1.1.set (Int.toNat 0) (v10 ++ [1])).map (eO 3 eI))])})] (B6 (yba hv10).1 (map_get (eO 3 eI) (yba hv10).2) (show frR [.sl (some 3) (v10.map eI)] = false from rfl) (show getRow [[.sl (some 26) (v1.1.map (eO 3 eI))]] [(0, 0), ((Int.toNat 0), 0)] = some [.sl (some 3) (v10.map eI)] from ((gr0 rfl).trans (gre (map_get (eO 3 eI) (yba hv10).2)))) (show getRow [[.sl (some 26) (v1.1.map (eO 3 eI))]] [(0, 0), ((Int.toNat 0), 0)] = some [.sl (some 3) (v10.map eI)] from ((gr0 rfl).trans (gre (map_get (eO 3 eI) (yba hv10).2)))) (show List.length ((v10.map eI) : List (List C)) + List.length ((([1]).map eI) : List (List C)) ≤ 1099511627776 from (by have hg := (yca hu11); simpa using hg)) (A6 (show ∀ row ∈ ((([1]).map eI) : List (List C)), row.length = 1 from (yua fun _ => rfl)) (show (SV.ov false [.sl (some 3) ((v10.map eI) ++ (([1]).map eI))] : SV) = .ov false [.sl (some 3) ((v10 ++ [1]).map eI)] from (congrArg (fun z => SV.ov false [.sl (some 3) z]) (List.map_append ..).symm)) (yba hv10).1 (show (setL (v1.1.map (eO 3 eI)) [((Int.toNat 0), 0)] [.dead])[(Int.toNat 0)]? = some [.dead] from (ymm (F := (eO 3 eI)) (yba hv10).2 rfl)) (show getRow [[.sl (some 26) (setL (v1.1.map (eO 3 eI)) [((Int.toNat 0), 0)] [.dead])]] [(0, 0), ((Int.toNat 0), 0)] = some [.dead] from ((gr0 rfl).trans (ywn (F := (eO 3 eI)) (yba hv10).2 rfl))) (show (SV.ov false [.sl (some 26) (setL (setL (v1.1.map (eO 3 eI)) [((Int.toNat 0), 0)] [.dead]) [((Int.toNat 0), 0)] [.sl (some 3) ((v10 ++ [1]).map eI)])] : SV) = .ov false [.sl (some 26) ((v1.1.set (Int.toNat 0) (v10 ++ [1])).map (eO 3 eI))] from (congrArg (fun z => SV.ov false [.sl (some 26) z]) ((ymk _ _ _).trans (set1 (f := (eO 3 eI)) (y := (v10 ++ [1])) (yba hv10).2 rfl))))))) ?_
    refine b_n ?_
    refine q_n ?_
    exact jx (v3.2.1, v3.2.2.1, v3.2.2.2, (v1.1.set (Int.toNat 0) (v10 ++ [1]))) h
   ·replace h := ite_f hc3_8 h
    refine k_sreg (r_gq [(0, .box (eCu v3.2)), (3, .ov false [.sl (some 26) (v1.1.map (eO 3 eI))]), (7, .p (iV v3.1)), (30, .p (.bool (v3.1 == 2)))] [] trivial) ?_
    refine kc (v3.1 == 2) (fun hc3_11 => ?_) (fun hc3_11 => ?_)
    ·replace h := ite_t hc3_11 h
     refine k_sreg (r_gq [(0, .box (eCu v3.2)), (2, .ov false [.sl (some 26) []])] [] trivial) ?_
     refine k_ret ?_
     refine b_r ?_
     refine q_r ?_
     obtain rfl := oi h
     exact ebr [(.ov false [.sl (some 26) []], 2)]
    ·replace h := ite_f hc3_11 h
     refine k_sreg (r_gq [(0, .box (eCu v3.2)), (3, .ov false [.sl (some 26) (v1.1.map (eO 3 eI))]), (32, .p (.bool (v3.1 == 3)))] [] trivial) ?_
     refine kc (v3.1 == 3) (fun hc3_12 => ?_) (fun hc3_12 => ?_)
     ·replace h := ite_t hc3_12 h
      refine k_sreg (r_gq [(0, .box (eCu v3.2)), (3, .ov false [.sl (some 26) []])] [] trivial) ?_
      refine k_block ?_
      obtain ⟨y15, hl_x14, hk_x14⟩ := bs h
      clear h
      refine k_loop (J := fun (x : (List (List Int))) => [(0, .box (eCu v3.2)), (3, .ov false [.sl (some 26) (x.map (eO 3 eI))])]) hl_x14 (wk_of (by kernel_rfl) (by kernel_rfl)) (fun x14 o_x14 h hy_x14 => ?_)
      unfold spec_l1Cur_anyGraph_b1 at h
      refine k_seq ?_
      refine k_sreg (r_gq [(0, .box (eCu v3.2)), (3, .ov false [.sl (some 26) (x14.map (eO 3 eI))]), (36, .p (.bool (decide ((x14.length : Int) < 9))))] [(1, {n := some x14.length})] (A1 (show (x14.map (eO 3 eI)).length = x14.length from (List.length_map ..)))) ?_
      refine kc (decide ((x14.length : Int) < 9)) (fun hc6_15 => ?_) (fun hc6_15 => ?_)
      ·replace h := ite_t hc6_15 h
       refine k_skip ?_
       refine q_n ?_
       refine k_block ?_
       replace h := bs h
       obtain ⟨u17, hu17, h⟩ := h
       replace h := bs h
       obtain ⟨u18, hu18, h⟩ := h
       refine k_reg (r_gq [(0, .box (eCu v3.2)), (3, .ov false [.sl (some 26) ((x14 ++ [(List.replicate (Int.toNat (9 : Int)) (0 : Int))]).map (eO 3 eI))])] [(1, {fix := some (38, .ov false [.sl (some 3) ((List.replicate (Int.toNat (9 : Int)) (0 : Int)).map eI)])}), (3, {fix := some (40, .ov false [.sl (some 26) ((x14 ++ [(List.replicate (Int.toNat (9 : Int)) (0 : Int))]).map (eO 3 eI))])})] (B6 (show (9 : Int) = (9 : Int) from rfl) (yca hu17).1 (yca hu17).2 (show (SV.ov false [.sl (some 3) (List.replicate (Int.toNat (9 : Int)) [rI 0])] : SV) = .ov false [.sl (some 3) ((List.replicate (Int.toNat (9 : Int)) (0 : Int)).map eI)] from (congrArg (fun z => SV.ov false [.sl (some 3) z]) (rep_fix eI (0 : Int)))) (show List.length ((x14.map (eO 3 eI)) : List (List C)) + List.length ((([(List.replicate (Int.toNat (9 : Int)) (0 : Int))]).map (eO 3 eI)) : List (List C)) ≤ 1099511627776 from (by have hg := (yca hu18); simpa using hg)) (show ∀ row ∈ ((([(List.replicate (Int.toNat (9 : Int)) (0 : Int))]).map (eO 3 eI)) : List (List C)), row.length = 1 from (yua fun _ => rfl)) (A1 (show (SV.ov false [.sl (some 26) ((x14.map (eO 3 eI)) ++ (([(List.replicate (Int.toNat (9 : Int)) (0 : Int))]).map (eO 3 eI)))] : SV) = .ov false [.sl (some 26) ((x14 ++ [(List.replicate (Int.toNat (9 : Int)) (0 : Int))]).map (eO 3 eI))] from (congrArg (fun z => SV.ov false [.sl (some 26) z]) (List.map_append ..).symm))))) ?_
       refine b_n ?_
       exact lqn (x14 ++ [(List.replicate (Int.toNat (9 : Int)) (0 : Int))]) h
      ·replace h := ite_f hc6_15 h
       refine k_exit ?_
       refine q_x ?_
       refine lq_x ?_
       refine b_x ?_
       refine b_n ?_
       have hyy := hy_x14 _ (oi h).symm
       subst hyy
       have h := hk_x14
       refine q_n ?_
       exact jx (v3.2.1, v3.2.2.1, v3.2.2.2, x14) h
     ·replace h := ite_f hc3_12 h
      refine k_skip ?_
      refine b_n ?_
      refine q_n ?_
      exact jx (v3.2.1, v3.2.2.1, v3.2.2.2, v1.1) h
theorem wk_spec_DrawIsGraph {a0 : (List Int)}  {r : (List (List Int))} (h : spec_DrawIsGraph a0 = some r) : Meets Try.prog 61 [.d false [.sl none (a0.map (eU .u8))]] { vals := [.ov false [.sl (some 26) (r.map (eO 3 eI))]] } := by
 refine mo Try.func61 [(0, .d false [.sl none (a0.map (eU .u8))])] ?_
 unfold spec_DrawIsGraph at h
 refine k_sreg (r_gq [(0, .d false [.sl none (a0.map (eU .u8))])] [] trivial) ?_
 refine k_sreg (r_gq [(3, .addr 6 [(0, 0)]), (6, .box (eCu (a0, 0, 0)))] [] trivial) ?_
 replace h := bs h
 obtain ⟨v1, hv1, h⟩ := h
 refine k_sreg (r_gq [(2, .ov false [.sl (some 26) (v1.1.map (eO 3 eI))])] [(1, {lend := some (none, [.ov false [.sl (some 26) (v1.1.map (eO 3 eI))]], .box (eCu v1.2), false)})] (A1 (wk_spec_l1Cur_anyGraph hv1))) ?_
 refine k_ret ?_
 obtain rfl := oi h
 exact er [(.ov false [.sl (some 26) (v1.1.map (eO 3 eI))], 2)]
theorem wk_spec_DrawCharacteristicOf {a0 : (List Int)}  {r : (List (List Int))} (h : spec_DrawCharacteristicOf a0 = some r) : Meets Try.prog 7 [.d false [.sl none (a0.map (eU .u8))]] { vals := [.ov false [.sl (some 26) (r.map (eO 3 eI))]] } := by
 refine mo Try.func7 [(0, .d false [.sl none (a0.map (eU .u8))])] ?_
 unfold spec_DrawCharacteristicOf at h
 refine k_sreg (r_gq [(0, .d false [.sl none (a0.map (eU .u8))])] [] trivial) ?_
 replace h := bs h
 obtain ⟨v1, hv1, h⟩ := h
 refine k_sreg (r_gq [(2, .ov false [.sl (some 26) (v1.map (eO 3 eI))])] [(1, {call := some (none, [.ov false [.sl (some 26) (v1.map (eO 3 eI))]], true)})] (A2 (wk_spec_DrawIsGraph hv1) (show List.all [.ov false [.sl (some 26) (v1.map (eO 3 eI))]] simpleR = true from (sa_o (wnR1 (wnL_enc (wn_O wn_I)) rfl) rfl)))) ?_
 refine k_ret ?_
 obtain rfl := oi h
 exact er [(.ov false [.sl (some 26) (v1.map (eO 3 eI))], 2)]
theorem wk_impl_within {a0 : Int} {a1 : Int} {a2 : Int}  {r : Bool} (h : impl_within a0 a1 a2 = some r) : Meets Try.prog 74 [wI a0, wI a1, wI a2] { vals := [.p (.bool r)] } := by
 refine mo Try.func74 [(0, .p (iV a0)), (1, .p (iV a1)), (2, .p (iV a2))] ?_
 unfold impl_within at h
 refine k_sreg (r_gq [(0, .p (iV a0)), (1, .p (iV a1)), (2, .p (iV a2))] [] trivial) ?_
 refine k_sreg (l1 := [(6, .p (.bool ((decide (a1 ≤ a0)) && (decide (a0 ≤ a2)))))]) ?_ ?_
 ·rcases ft (decide (a1 ≤ a0)) with ha0 | ha0
  ·exact RegOk.of_eq (l2 := [(6, .p (.bool ((decide (a1 ≤ a0)) && (decide (a0 ≤ a2)))))]) (r_gq [(6, .p (.bool (decide (a0 ≤ a2))))] [(4, gT), (5, gT), (6, gT), (7, bT)] (A4 ha0 ha0 ha0 ha0)) (by simp [ha0])
  ·exact RegOk.of_eq (l2 := [(6, .p (.bool ((decide (a1 ≤ a0)) && (decide (a0 ≤ a2)))))]) (r_gq [(6, .p (.bool false))] [(4, gF), (5, gF), (6, gF), (7, bF)] (A4 ha0 ha0 ha0 ha0)) (by simp [ha0])
 ·refine k_ret ?_
  obtain rfl := oi h
  exact er [(.p (.bool ((decide (a1 ≤ a0)) && (decide (a0 ≤ a2)))), 6)]
theorem wk_slices_IndexFunc_LLint_Lint_d {a0 : (List (List Int))} {a1 : ((List Int) → Option Bool)} {F1 : FuncId} {K1 : List (Bool × List C)} (hp1 : ∀ x0 y, a1 x0 = some y → Meets Try.prog F1 ([.d false [.sl none (x0.map eI)]] ++ (K1.map fun (g, cs) => mkA g cs)) { vals := [.p (.bool y)] }) {r : Int} (h : slices_IndexFunc_LLint_Lint a0 a1 = some r) : Meets Try.prog 152 [.d false [.sl none (a0.map (eF eI))], .d false [.fn F1 K1]] { vals := [.p (iV r)] } := by
 refine mo Try.func152 [(0, .d false [.sl none (a0.map (eF eI))]), (1, .d false [.fn F1 K1])] ?_
 unfold slices_IndexFunc_LLint_Lint at h
 refine k_sreg (r_gq [(0, .d false [.sl none (a0.map (eF eI))]), (1, .d false [.fn F1 K1])] [] trivial) ?_
 refine k_join (J := fun (x : Unit) => []) (K := fun x => slices_IndexFunc_LLint_Lint_k1 x = some r) (fun x1 h => ?_) ?_
 ·unfold slices_IndexFunc_LLint_Lint_k1 at h
  refine k_sreg (r_gq [(4, .p (iV (-1)))] [] trivial) ?_
  refine k_ret ?_
  obtain rfl := oi h
  exact er [(.p (iV (-1)), 4)]
 ·refine k_sreg (r_gq [(0, .d false [.sl none (a0.map (eF eI))]), (1, .d false [.fn F1 K1]), (7, .p (iV (a0.length : Int))), (8, .p (iV 0))] [(1, {n := some a0.length})] (A1 (show (a0.map (eF eI)).length = a0.length from (List.length_map ..)))) ?_
  refine k_block ?_
  obtain ⟨y3, hl_x2, hk_x2⟩ := bs h
  clear h
  refine k_loop (J := fun (x : Int) => [(0, .d false [.sl none (a0.map (eF eI))]), (1, .d false [.fn F1 K1]), (7, .p (iV (a0.length : Int))), (8, .p (iV x))]) hl_x2 (wk_of (by kernel_rfl) (by kernel_rfl)) (fun x2 o_x2 h hy_x2 => ?_)
  unfold slices_IndexFunc_LLint_Lint_b1 at h
  refine k_sreg (r_gq [(0, .d false [.sl none (a0.map (eF eI))]), (1, .d false [.fn F1 K1]), (7, .p (iV (a0.length : Int))), (8, .p (iV x2)), (9, .p (.bool (decide (x2 < (a0.length : Int)))))] [] trivial) ?_
  refine k_seq ?_
  refine kc (decide (x2 < (a0.length : Int))) (fun hc5_3 => ?_) (fun hc5_3 => ?_)
  ·replace h := ite_t hc5_3 h
   refine k_skip ?_
   refine q_n ?_
   refine k_seq ?_
   refine k_block ?_
   refine k_sreg (r_gq [(0, .d false [.sl none (a0.map (eF eI))]), (1, .d false [.fn F1 K1]), (5, .p (iV x2)), (7, .p (iV (a0.length : Int))), (8, .p (iV x2))] [] trivial) ?_
   replace h := bs h
   obtain ⟨v5, hv5, h⟩ := h
   replace h := bs h
   obtain ⟨v6, hv6, h⟩ := h
   refine k_sreg (r_gq [(0, .d false [.sl none (a0.map (eF eI))]), (1, .d false [.fn F1 K1]), (5, .p (iV x2)), (7, .p (iV (a0.length : Int))), (8, .p (iV x2)), (16, .p (.bool v6))] [(3, {row := some [.sl none (v5.map eI)]}), (5, {call := some (none, [.p (.bool v6)], true)})] (A3 (yba hv5).1 (map_get (eF eI) (yba hv5).2) (hp1 _ _ hv6))) ?_
   refine kc v6 (fun hc6_6 => ?_) (fun hc6_6 => ?_)
   ·replace h := ite_t hc6_6 h
    refine k_sreg (r_gq [(4, .p (iV x2))] [] trivial) ?_
    refine k_ret ?_
    refine b_r ?_
    refine q_r ?_
    refine lq_r ?_
    refine b_r ?_
    refine q_r ?_
    have hyy := hy_x2 _ (oi h).symm
    subst hyy
    have h := hk_x2
    dsimp only [Sum.elim] at h
    obtain rfl := oi h
    exact er [(.p (iV x2), 4)]
   ·replace h := ite_f hc6_6 h
    refine k_skip ?_
    refine b_n ?_
    refine q_n ?_
    refine k_reg (r_gq [(0, .d false [.sl none (a0.map (eF eI))]), (1, .d false [.fn F1 K1]), (7, .p (iV (a0.length : Int))), (8, .p (iV (w64 (x2 + 1))))] [] trivial) ?_
    exact lqn (w64 (x2 + 1)) h
  ·replace h := ite_f hc5_3 h
   refine k_exit ?_
   refine q_x ?_
   refine lq_x ?_
   refine b_x ?_
   have hyy := hy_x2 _ (oi h).symm
   subst hyy
   have h := hk_x2
   dsimp only [Sum.elim] at h
   refine q_n ?_
   exact jx () h
theorem wk_slices_ContainsFunc_LLint_Lint_d {a0 : (List (List Int))} {a1 : ((List Int) → Option Bool)} {F1 : FuncId} {K1 : List (Bool × List C)} (hp1 : ∀ x0 y, a1 x0 = some y → Meets Try.prog F1 ([.d false [.sl none (x0.map eI)]] ++ (K1.map fun (g, cs) => mkA g cs)) { vals := [.p (.bool y)] }) {r : Bool} (h : slices_ContainsFunc_LLint_Lint a0 a1 = some r) : Meets Try.prog 123 [.d false [.sl none (a0.map (eF eI))], .d false [.fn F1 K1]] { vals := [.p (.bool r)] } := by
 refine mo Try.func123 [(0, .d false [.sl none (a0.map (eF eI))]), (1, .d false [.fn F1 K1])] ?_
 unfold slices_ContainsFunc_LLint_Lint at h
 refine k_sreg (r_gq [(0, .d false [.sl none (a0.map (eF eI))]), (1, .d false [.fn F1 K1])] [] trivial) ?_
 replace h := bs h
 obtain ⟨v1, hv1, h⟩ := h
 refine k_sreg (r_gq [(4, .p (.bool (decide (v1 ≥ 0))))] [(2, {call := some (none, [.p (iV v1)], true)})] (A1 (show Meets Try.prog 152 ([.d false [.sl none (a0.map (eF eI))], .d false [.fn F1 K1]] ++ []) { vals := [.p (iV v1)] } from (wk_slices_IndexFunc_LLint_Lint_d hp1 hv1)))) ?_
 refine k_ret ?_
 obtain rfl := oi h
 exact er [(.p (.bool (decide (v1 ≥ 0))), 4)]
theorem wk_slices_IndexFunc_Lint_int_v {a0 : (List Int)} {a1 : (Int → Option Bool)} {F1 : FuncId} (hp1 : ∀ x0 y, a1 x0 = some y → Meets Try.prog F1 ([wI x0] ++ []) { vals := [.p (.bool y)] }) {r : Int} (h : slices_IndexFunc_Lint_int a0 a1 = some r) : Meets Try.prog 133 [.d false [.sl none (a0.map eI)], .v (.func (.func F1) #[] #[])] { vals := [.p (iV r)] } := by
 refine mo Try.func133 [(0, .d false [.sl none (a0.map eI)]), (1, .p (.func (.func F1) #[] #[]))] ?_
 unfold slices_IndexFunc_Lint_int at h
 refine k_sreg (r_gq [(0, .d false [.sl none (a0.map eI)]), (1, .p (.func (.func F1) #[] #[]))] [] trivial) ?_
 refine k_join (J := fun (x : Unit) => []) (K := fun x => slices_IndexFunc_Lint_int_k1 x = some r) (fun x1 h => ?_) ?_
 ·unfold slices_IndexFunc_Lint_int_k1 at h
  refine k_sreg (r_gq [(4, .p (iV (-1)))] [] trivial) ?_
  refine k_ret ?_
  obtain rfl := oi h
  exact er [(.p (iV (-1)), 4)]
 ·refine k_sreg (r_gq [(0, .d false [.sl none (a0.map eI)]), (1, .p (.func (.func F1) #[] #[])), (7, .p (iV (a0.length : Int))), (8, .p (iV 0))] [(1, {n := some a0.length})] (A1 (show (a0.map eI).length = a0.length from (List.length_map ..)))) ?_
  refine k_block ?_
  obtain ⟨y3, hl_x2, hk_x2⟩ := bs h
  clear h
  refine k_loop (J := fun (x : Int) => [(0, .d false [.sl none (a0.map eI)]), (1, .p (.func (.func F1) #[] #[])), (7, .p (iV (a0.length : Int))), (8, .p (iV x))]) hl_x2 (wk_of (by kernel_rfl) (by kernel_rfl)) (fun x2 o_x2 h hy_x2 => ?_)
  unfold slices_IndexFunc_Lint_int_b1 at h
  refine k_sreg (r_gq [(0, .d false [.sl none (a0.map eI)]), (1, .p (.func (.func F1) #[] #[])), (7, .p (iV (a0.length : Int))), (8, .p (iV x2)), (9, .p (.bool (decide (x2 < (a0.length : Int)))))] [] trivial) ?_
  refine k_seq ?_
  refine kc (decide (x2 < (a0.length : Int))) (fun hc5_3 => ?_) (fun hc5_3 => ?_)
  ·replace h := ite_t hc5_3 h
   refine k_skip ?_
   refine q_n ?_
   refine k_seq ?_
   refine k_block ?_
   refine k_sreg (r_gq [(0, .d false [.sl none (a0.map eI)]), (1, .p (.func (.func F1) #[] #[])), (5, .p (iV x2)), (7, .p (iV (a0.length : Int))), (8, .p (iV x2))] [] trivial) ?_
   replace h := bs h
   obtain ⟨v5, hv5, h⟩ := h
   replace h := bs h
   obtain ⟨v6, hv6, h⟩ := h
   refine k_sreg (r_gq [(0, .d false [.sl none (a0.map eI)]), (1, .p (.func (.func F1) #[] #[])), (5, .p (iV x2)), (7, .p (iV (a0.length : Int))), (8, .p (iV x2)), (16, .p (.bool v6))] [(3, {row := some (eI v5)}), (5, {call := some (none, [.p (.bool v6)], true)})] (A3 (yba hv5).1 (map_get eI (yba hv5).2) (hp1 _ _ hv6))) ?_
   refine kc v6 (fun hc6_6 => ?_) (fun hc6_6 => ?_)
   ·replace h := ite_t hc6_6 h
    refine k_sreg (r_gq [(4, .p (iV x2))] [] trivial) ?_
    refine k_ret ?_
    refine b_r ?_
    refine q_r ?_
    refine lq_r ?_
    refine b_r ?_
    refine q_r ?_
    have hyy := hy_x2 _ (oi h).symm
    subst hyy
    have h := hk_x2
    dsimp only [Sum.elim] at h
    obtain rfl := oi h
    exact er [(.p (iV x2), 4)]
   ·replace h := ite_f hc6_6 h
    refine k_skip ?_
    refine b_n ?_
    refine q_n ?_
    refine k_reg (r_gq [(0, .d false [.sl none (a0.map eI)]), (1, .p (.func (.func F1) #[] #[])), (7, .p (iV (a0.length : Int))), (8, .p (iV (w64 (x2 + 1))))] [] trivial) ?_
    exact lqn (w64 (x2 + 1)) h
  ·replace h := ite_f hc5_3 h
   refine k_exit ?_
   refine q_x ?_
   refine lq_x ?_
   refine b_x ?_
   have hyy := hy_x2 _ (oi h).symm
   subst hyy
   have h := hk_x2
   dsimp only [Sum.elim] at h
   refine q_n ?_
   exact jx () h
theorem wk_slices_ContainsFunc_Lint_int_v {a0 : (List Int)} {a1 : (Int → Option Bool)} {F1 : FuncId} (hp1 : ∀ x0 y, a1 x0 = some y → Meets Try.prog F1 ([wI x0] ++ []) { vals := [.p (.bool y)] }) {r : Bool} (h : slices_ContainsFunc_Lint_int a0 a1 = some r) : Meets Try.prog 85 [.d false [.sl none (a0.map eI)], .v (.func (.func F1) #[] #[])] { vals := [.p (.bool r)] } := by
 refine mo Try.func85 [(0, .d false [.sl none (a0.map eI)]), (1, .p (.func (.func F1) #[] #[]))] ?_
 unfold slices_ContainsFunc_Lint_int at h
 refine k_sreg (r_gq [(0, .d false [.sl none (a0.map eI)]), (1, .p (.func (.func F1) #[] #[]))] [] trivial) ?_
 replace h := bs h
 obtain ⟨v1, hv1, h⟩ := h
 refine k_sreg (r_gq [(4, .p (.bool (decide (v1 ≥ 0))))] [(2, {call := some (none, [.p (iV v1)], true)})] (A1 (show Meets Try.prog 133 ([.d false [.sl none (a0.map eI)], .v (.func (.func F1) #[] #[])] ++ []) { vals := [.p (iV v1)] } from (wk_slices_IndexFunc_Lint_int_v hp1 hv1)))) ?_
 refine k_ret ?_
 obtain rfl := oi h
 exact er [(.p (.bool (decide (v1 ≥ 0))), 4)]
theorem wk_impl_isGraph_1_1 {a0 : Int}  {r : Bool} (h : impl_isGraph_1_1 a0 = some r) : Meets Try.prog 125 [wI a0] { vals := [.p (.bool r)] } := by
 refine mo Try.func125 [(0, .p (iV a0))] ?_
 unfold impl_isGraph_1_1 at h
 refine k_sreg (r_gq [(0, .p (iV a0))] [] trivial) ?_
 replace h := bs h
 obtain ⟨v1, hv1, h⟩ := h
 refine k_sreg (r_gq [(2, .p (.bool (!v1)))] [(1, {call := some (none, [.p (.bool v1)], true)})] (A1 (wk_impl_within hv1))) ?_
 refine k_ret ?_
 obtain rfl := oi h
 exact er [(.p (.bool (!v1)), 2)]
theorem wk_impl_isGraph_1 {a0 : (List Int)} {c0 : (List (List Int))}  {r : Bool} (h : impl_isGraph_1 a0 c0 = some r) : Meets Try.prog 124 [.d false [.sl none (a0.map eI)], .d false [.pt [.sl none (c0.map (eF eI))]]] { vals := [.p (.bool r)] } := by
 refine mo Try.func124 [(0, .d false [.sl none (a0.map eI)]), (1, .d false [.pt [.sl none (c0.map (eF eI))]])] ?_
 unfold impl_isGraph_1 at h
 refine k_sreg (r_gq [(0, .d false [.sl none (a0.map eI)]), (1, .d false [.pt [.sl none (c0.map (eF eI))]])] [] trivial) ?_
 replace h := bs h
 obtain ⟨w2, hw2, h⟩ := h
 refine k_sreg (l1 := [(3, .p (.bool w2))]) ?_ ?_
 ·clear h
  rcases ft ((a0.length : Int) != (c0.length : Int)) with ha0 | ha0
  ·replace hw2 := ite_t ha0 hw2
   have hw2 := oi hw2
   subst hw2
   exact (r_gq [(3, .p (.bool true))] [(1, {n := some a0.length}), (3, {n := some c0.length}), (6, gT), (7, gT), (8, bT)] (A5 (show (a0.map eI).length = a0.length from (List.length_map ..)) (show (c0.map (eF eI)).length = c0.length from (List.length_map ..)) ha0 ha0 ha0))
  ·replace hw2 := ite_f ha0 hw2
   replace hw2 := bs hw2
   obtain ⟨v1, hv1, hw2⟩ := hw2
   have hw2 := oi hw2
   subst hw2
   exact (r_gq [(3, .p (.bool v1))] [(1, {n := some a0.length}), (3, {n := some c0.length}), (6, gF), (7, {g := some false, call := some (none, [.p (.bool v1)], true)}), (8, bF)] (A6 (show (a0.map eI).length = a0.length from (List.length_map ..)) (show (c0.map (eF eI)).length = c0.length from (List.length_map ..)) ha0 ha0 (show Meets Try.prog 85 ([.d false [.sl none (a0.map eI)], .v (.func (.func 125) #[] #[])] ++ []) { vals := [.p (.bool v1)] } from (wk_slices_ContainsFunc_Lint_int_v (fun x0 y hy => wk_impl_isGraph_1_1 hy) hv1)) ha0))
 ·refine k_ret ?_
  obtain rfl := oi h
  exact er [(.p (.bool w2), 3)]
theorem wk_impl_isGraph {a0 : (List (List Int))}  {r : Bool} (h : impl_isGraph a0 = some r) : Meets Try.prog 62 [.d false [.sl none (a0.map (eF eI))]] { vals := [.p (.bool r)] } := by
 refine mo Try.func62 [(0, .d false [.sl none (a0.map (eF eI))])] ?_
 unfold impl_isGraph at h
 refine k_sreg (r_gq [(1, .box [.sl none (a0.map (eF eI))])] [] trivial) ?_
 refine k_frz 1 [.sl none (a0.map (eF eI))] [.sl none (a0.map (eF eI))] [(1, .d false [.pt [.sl none (a0.map (eF eI))]])] (by kernel_rfl) (erc_sl (yea (era_F er_I)) rfl) (by kernel_rfl) (by kernel_rfl) ?_
 replace h := bs h
 obtain ⟨v1, hv1, h⟩ := h
 replace h := bs h
 obtain ⟨w3, hw3, h⟩ := h
 refine k_sreg (l1 := [(2, .p (.bool w3))]) ?_ ?_
 ·clear h
  rcases ft v1 with ha0 | ha0
  ·replace hw3 := ite_t ha0 hw3
   replace hw3 := bs hw3
   obtain ⟨v2, hv2, hw3⟩ := hw3
   have hw3 := oi hw3
   subst hw3
   exact (r_gq [(2, .p (.bool (!v2)))] [(1, {n := some a0.length}), (2, {call := some (none, [.p (.bool v1)], true)}), (4, gT), (5, gT), (6, {g := some true, call := some (none, [.p (.bool v2)], true)}), (7, gT), (8, bT)] (B6 (show (a0.map (eF eI)).length = a0.length from (List.length_map ..)) (wk_impl_within hv1) ha0 ha0 ha0 (show Meets Try.prog 123 ([.d false [.sl none (a0.map (eF eI))], .d false [.fn 124 [(false, [.pt [.sl none (a0.map (eF eI))]])]]] ++ []) { vals := [.p (.bool v2)] } from (wk_slices_ContainsFunc_LLint_Lint_d (fun x0 y hy => wk_impl_isGraph_1 hy) hv2)) (A2 ha0 ha0)))
  ·replace hw3 := ite_f ha0 hw3
   have hw3 := oi hw3
   subst hw3
   exact (r_gq [(2, .p (.bool false))] [(1, {n := some a0.length}), (2, {call := some (none, [.p (.bool v1)], true)}), (4, gF), (5, gF), (6, gF), (7, gF), (8, bF)] (B6 (show (a0.map (eF eI)).length = a0.length from (List.length_map ..)) (wk_impl_within hv1) ha0 ha0 ha0 ha0 (A1 ha0)))
 ·refine k_ret ?_
  obtain rfl := oi h
  exact er [(.p (.bool w3), 2)]
theorem wk_impl_emptyGraph {a0 : Int}  {r : (List (List Int))} (h : impl_emptyGraph a0 = some r) : Meets Try.prog 117 [wI a0] { vals := [.ov false [.sl (some 26) (r.map (eO 3 eI))]] } := by
 refine mo Try.func117 [(0, .p (iV a0))] ?_
 unfold impl_emptyGraph at h
 refine k_sreg (r_gq [(0, .p (iV a0))] [] trivial) ?_
 replace h := bs h
 obtain ⟨u1, hu1, h⟩ := h
 refine k_sreg (r_gq [(0, .p (iV a0)), (3, .ov false [.sl (some 26) ((List.replicate (Int.toNat a0) ([] : (List Int))).map (eO 3 eI))])] [(1, {fix := some (6, .ov false [.sl (some 26) ((List.replicate (Int.toNat a0) ([] : (List Int))).map (eO 3 eI))])})] (A4 (show a0 = a0 from rfl) (yca hu1).1 (yca hu1).2 (show (SV.ov false [.sl (some 26) (List.replicate (Int.toNat a0) [.sl (some 3) []])] : SV) = .ov false [.sl (some 26) ((List.replicate (Int.toNat a0) ([] : (List Int))).map (eO 3 eI))] from (congrArg (fun z => SV.ov false [.sl (some 26) z]) (rep_fix (eO 3 eI) ([] : (List Int))))))) ?_
 refine k_join (J := fun (x : (List (List Int))) => [(3, .ov false [.sl (some 26) (x.map (eO 3 eI))])]) (K := fun x => impl_emptyGraph_k1 x = some r) (fun x2 h => ?_) ?_
 ·unfold impl_emptyGraph_k1 at h
  refine k_sreg (r_gq [(2, .ov false [.sl (some 26) (x2.map (eO 3 eI))])] [] trivial) ?_
  refine k_ret ?_
  obtain rfl := oi h
  exact er [(.ov false [.sl (some 26) (x2.map (eO 3 eI))], 2)]
 ·refine k_sreg (r_gq [(0, .p (iV a0)), (3, .ov false [.sl (some 26) ((List.replicate (Int.toNat a0) ([] : (List Int))).map (eO 3 eI))]), (8, .p (iV ((List.replicate (Int.toNat a0) ([] : (List Int))).length : Int))), (9, .p (iV 0))] [(1, {n := some (List.replicate (Int.toNat a0) ([] : (List Int))).length})] (A1 (show ((List.replicate (Int.toNat a0) ([] : (List Int))).map (eO 3 eI)).length = (List.replicate (Int.toNat a0) ([] : (List Int))).length from (List.length_map ..)))) ?_
  refine k_block ?_
  obtain ⟨y4, hl_x3, hk_x3⟩ := bs h
  clear h
  refine k_loop (J := fun (x : ((List (List Int)) × Int)) => [(0, .p (iV a0)), (3, .ov false [.sl (some 26) (x.1.map (eO 3 eI))]), (8, .p (iV ((List.replicate (Int.toNat a0) ([] : (List Int))).length : Int))), (9, .p (iV x.2))]) hl_x3 (wk_of (by kernel_rfl) (by kernel_rfl)) (fun x3 o_x3 h hy_x3 => ?_)
  unfold impl_emptyGraph_b1 at h
  refine k_sreg (r_gq [(0, .p (iV a0)), (3, .ov false [.sl (some 26) (x3.1.map (eO 3 eI))]), (8, .p (iV ((List.replicate (Int.toNat a0) ([] : (List Int))).length : Int))), (9, .p (iV x3.2)), (10, .p (.bool (decide (x3.2 < ((List.replicate (Int.toNat a0) ([] : (List Int))).length : Int)))))] [] trivial) ?_
  refine k_seq ?_
  refine kc (decide (x3.2 < ((List.replicate (Int.toNat a0) ([] : (List Int))).length : Int))) (fun hc5_4 => ?_) (fun hc5_4 => ?_)
  ·replace h := ite_t hc5_4 h
   refine k_skip ?_
   refine q_n ?_
   refine k_seq ?_
   refine k_block ?_
   refine k_sreg (r_gq [(0, .p (iV a0)), (3, .ov false [.sl (some 26) (x3.1.map (eO 3 eI))]), (4, .p (iV x3.2)), (8, .p (iV ((List.replicate (Int.toNat a0) ([] : (List Int))).length : Int))), (9, .p (iV x3.2))] [] trivial) ?_
   replace h := bs h
   obtain ⟨v6, hv6, h⟩ := h
   refine k_reg (r_gq [(0, .p (iV a0)), (3, .ov false [.sl (some 26) ((x3.1.set (Int.toNat x3.2) (List.replicate (Int.toNat a0) (0 : Int))).map (eO 3 eI))]), (8, .p (iV ((List.replicate (Int.toNat a0) ([] : (List Int))).length : Int))), (9, .p (iV x3.2))] [(3, {fix := some (15, .ov false [.sl (some 3) ((List.replicate (Int.toNat a0) (0 : Int)).map eI)])}), (4, {row := some [.sl (some 3) (v6.map eI)]}), (5, {row := some [.sl (some 3) (v6.map eI)], fix := some (3, .ov false [.sl (some 26) ((x3.1.set (Int.toNat x3.2) (List.replicate (Int.toNat a0) (0 : Int))).map (eO 3 eI))])})] (B6 (show a0 = a0 from rfl) (yca hu1).1 (yca hu1).2 (show (SV.ov false [.sl (some 3) (List.replicate (Int.toNat a0) [rI 0])] : SV) = .ov false [.sl (some 3) ((List.replicate (Int.toNat a0) (0 : Int)).map eI)] from (congrArg (fun z => SV.ov false [.sl (some 3) z]) (rep_fix eI (0 : Int)))) (yba hv6).1 (map_get (eO 3 eI) (yba hv6).2) (A2 (show getRow [[.sl (some 26) (x3.1.map (eO 3 eI))]] [(0, 0), ((Int.toNat x3.2), 0)] = some [.sl (some 3) (v6.map eI)] from ((gr0 rfl).trans (gre (map_get (eO 3 eI) (yba hv6).2)))) (show (SV.ov false [.sl (some 26) (setL (x3.1.map (eO 3 eI)) [((Int.toNat x3.2), 0)] [.sl (some 3) ((List.replicate (Int.toNat a0) (0 : Int)).map eI)])] : SV) = .ov false [.sl (some 26) ((x3.1.set (Int.toNat x3.2) (List.replicate (Int.toNat a0) (0 : Int))).map (eO 3 eI))] from (congrArg (fun z => SV.ov false [.sl (some 26) z]) (set1 (f := (eO 3 eI)) (y := (List.replicate (Int.toNat a0) (0 : Int))) (yba hv6).2 rfl)))))) ?_
   refine b_n ?_
   refine q_n ?_
   refine k_reg (r_gq [(0, .p (iV a0)), (3, .ov false [.sl (some 26) ((x3.1.set (Int.toNat x3.2) (List.replicate (Int.toNat a0) (0 : Int))).map (eO 3 eI))]), (8, .p (iV ((List.replicate (Int.toNat a0) ([] : (List Int))).length : Int))), (9, .p (iV (w64 (x3.2 + 1))))] [] trivial) ?_
   exact lqn ((x3.1.set (Int.toNat x3.2) (List.replicate (Int.toNat a0) (0 : Int))), (w64 (x3.2 + 1))) h
  ·replace h := ite_f hc5_4 h
   refine k_exit ?_
   refine q_x ?_
   refine lq_x ?_
   refine b_x ?_
   have hyy := hy_x3 _ (oi h).symm
   subst hyy
   have h := hk_x3
   refine q_n ?_
   exact jx x3.1 h
theorem wk_impl_characteristic {a0 : (List (List Int))}  {r : (List Int)} (h : impl_characteristic a0 = some r) : Meets Try.prog 64 [.d false [.sl none (a0.map (eF eI))]] { vals := [.ov false [.sl (some 3) (r.map eI)]] } := by
 refine mo Try.func64 [(0, .d false [.sl none (a0.map (eF eI))])] ?_
 unfold impl_characteristic at h
 refine k_sreg (r_gq [(0, .d false [.sl none (a0.map (eF eI))])] [] trivial) ?_
 refine k_sreg (r_gq [(0, .d false [.sl none (a0.map (eF eI))]), (3, .p (iV (a0.length : Int)))] [(1, {n := some a0.length})] (A1 (show (a0.map (eF eI)).length = a0.length from (List.length_map ..)))) ?_
 replace h := bs h
 obtain ⟨u1, hu1, h⟩ := h
 refine k_sreg (r_gq [(0, .d false [.sl none (a0.map (eF eI))]), (3, .p (iV (a0.length : Int))), (4, .ov false [.sl (some 3) ((List.replicate (Int.toNat (w64 ((a0.length : Int) + 1))) (0 : Int)).map eI)])] [(2, {fix := some (17, .ov false [.sl (some 3) ((List.replicate (Int.toNat (w64 ((a0.length : Int) + 1))) (0 : Int)).map eI)])})] (A4 (show (w64 ((a0.length : Int) + 1)) = (w64 ((a0.length : Int) + 1)) from rfl) (yca hu1).1 (yca hu1).2 (show (SV.ov false [.sl (some 3) (List.replicate (Int.toNat (w64 ((a0.length : Int) + 1))) [rI 0])] : SV) = .ov false [.sl (some 3) ((List.replicate (Int.toNat (w64 ((a0.length : Int) + 1))) (0 : Int)).map eI)] from (congrArg (fun z => SV.ov false [.sl (some 3) z]) (rep_fix eI (0 : Int)))))) ?_
 replace h := bs h
 obtain ⟨v2, hv2, h⟩ := h
 refine k_sreg (r_gq [(0, .d false [.sl none (a0.map (eF eI))]), (3, .p (iV (a0.length : Int))), (4, .ov false [.sl (some 3) (((List.replicate (Int.toNat (w64 ((a0.length : Int) + 1))) (0 : Int)).set (Int.toNat (a0.length : Int)) 1).map eI)])] [(2, {row := some (eI v2)}), (3, {row := some (eI v2), fix := some (4, .ov false [.sl (some 3) (((List.replicate (Int.toNat (w64 ((a0.length : Int) + 1))) (0 : Int)).set (Int.toNat (a0.length : Int)) 1).map eI)])})] (A4 (yba hv2).1 (map_get eI (yba hv2).2) (show getRow [[.sl (some 3) ((List.replicate (Int.toNat (w64 ((a0.length : Int) + 1))) (0 : Int)).map eI)]] [(0, 0), ((Int.toNat (a0.length : Int)), 0)] = some (eI v2) from ((gr0 rfl).trans (gre (map_get eI (yba hv2).2)))) (show (SV.ov false [.sl (some 3) (setL ((List.replicate (Int.toNat (w64 ((a0.length : Int) + 1))) (0 : Int)).map eI) [((Int.toNat (a0.length : Int)), 0)] [rI 1])] : SV) = .ov false [.sl (some 3) (((List.replicate (Int.toNat (w64 ((a0.length : Int) + 1))) (0 : Int)).set (Int.toNat (a0.length : Int)) 1).map eI)] from (congrArg (fun z => SV.ov false [.sl (some 3) z]) (set1 (f := eI) (y := 1) (yba hv2).2 rfl))))) ?_
 replace h := bs h
 obtain ⟨v3, hv3, h⟩ := h
 refine k_sreg (r_gq [(0, .d false [.sl none (a0.map (eF eI))]), (3, .p (iV (a0.length : Int))), (4, .ov false [.sl (some 3) (((List.replicate (Int.toNat (w64 ((a0.length : Int) + 1))) (0 : Int)).set (Int.toNat (a0.length : Int)) 1).map eI)]), (5, .ov false [.sl (some 26) (v3.map (eO 3 eI))])] [(1, {call := some (none, [.ov false [.sl (some 26) (v3.map (eO 3 eI))]], true)})] (A2 (wk_impl_emptyGraph hv3) (show List.all [.ov false [.sl (some 26) (v3.map (eO 3 eI))]] simpleR = true from (sa_o (wnR1 (wnL_enc (wn_O wn_I)) rfl) rfl)))) ?_
 refine k_join (J := fun (x : (List Int)) => [(4, .ov false [.sl (some 3) (x.map eI)])]) (K := fun x => impl_characteristic_k1 x = some r) (fun x4 h => ?_) ?_
 ·unfold impl_characteristic_k1 at h
  refine k_sreg (r_gq [(2, .ov false [.sl (some 3) (x4.map eI)])] [] trivial) ?_
  refine k_ret ?_
  obtain rfl := oi h
  exact er [(.ov false [.sl (some 3) (x4.map eI)], 2)]
 ·refine k_sreg (r_gq [(0, .d false [.sl none (a0.map (eF eI))]), (3, .p (iV (a0.length : Int))), (4, .ov false [.sl (some 3) (((List.replicate (Int.toNat (w64 ((a0.length : Int) + 1))) (0 : Int)).set (Int.toNat (a0.length : Int)) 1).map eI)]), (5, .ov false [.sl (some 26) (v3.map (eO 3 eI))]), (6, .p (iV 1))] [] trivial) ?_
  refine k_block ?_
  obtain ⟨y6, hl_x5, hk_x5⟩ := bs h
  clear h
  refine k_loop (J := fun (x : ((List Int) × (List (List Int)) × Int)) => [(0, .d false [.sl none (a0.map (eF eI))]), (3, .p (iV (a0.length : Int))), (4, .ov false [.sl (some 3) (x.1.map eI)]), (5, .ov false [.sl (some 26) (x.2.1.map (eO 3 eI))]), (6, .p (iV x.2.2))]) hl_x5 (wk_of (by kernel_rfl) (by kernel_rfl)) (fun x5 o_x5 h hy_x5 => ?_)
  unfold impl_characteristic_b1 at h
  refine k_seq ?_
  refine k_sreg (r_gq [(0, .d false [.sl none (a0.map (eF eI))]), (3, .p (iV (a0.length : Int))), (4, .ov false [.sl (some 3) (x5.1.map eI)]), (5, .ov false [.sl (some 26) (x5.2.1.map (eO 3 eI))]), (6, .p (iV x5.2.2)), (25, .p (.bool (decide (x5.2.2 ≤ (a0.length : Int)))))] [] trivial) ?_
  refine kc (decide (x5.2.2 ≤ (a0.length : Int))) (fun hc5_6 => ?_) (fun hc5_6 => ?_)
  ·replace h := ite_t hc5_6 h
   refine k_skip ?_
   refine q_n ?_
   refine k_join (J := fun (x : ((List Int) × (List (List Int)))) => [(0, .d false [.sl none (a0.map (eF eI))]), (3, .p (iV (a0.length : Int))), (4, .ov false [.sl (some 3) (x.1.map eI)]), (5, .ov false [.sl (some 26) (x.2.map (eO 3 eI))]), (6, .p (iV x5.2.2))]) (K := fun x => impl_characteristic_k2 x5 x = some o_x5) (fun x8 h => ?_) ?_
   ·unfold impl_characteristic_k2 at h
    refine k_reg (r_gq [(0, .d false [.sl none (a0.map (eF eI))]), (3, .p (iV (a0.length : Int))), (4, .ov false [.sl (some 3) (x8.1.map eI)]), (5, .ov false [.sl (some 26) (x8.2.map (eO 3 eI))]), (6, .p (iV (w64 (x5.2.2 + 1))))] [] trivial) ?_
    exact lqn (x8.1, x8.2, (w64 (x5.2.2 + 1))) h
   ·refine k_block ?_
    refine k_join (J := fun (x : (List (List Int))) => [(0, .d false [.sl none (a0.map (eF eI))]), (3, .p (iV (a0.length : Int))), (4, .ov false [.sl (some 3) (x5.1.map eI)]), (5, .ov false [.sl (some 26) (x.map (eO 3 eI))]), (6, .p (iV x5.2.2))]) (K := fun x => impl_characteristic_k3 a0 x5 x = some o_x5) (fun x9 h => ?_) ?_
    ·unfold impl_characteristic_k3 at h
     replace h := bs h
     obtain ⟨v10, hv10, h⟩ := h
     refine k_sreg (r_gq [(0, .d false [.sl none (a0.map (eF eI))]), (3, .p (iV (a0.length : Int))), (4, .ov false [.sl (some 3) (x5.1.map eI)]), (5, .ov false [.sl (some 26) (x9.map (eO 3 eI))]), (6, .p (iV x5.2.2)), (8, .ov false [.sl (some 26) (v10.map (eO 3 eI))]), (9, .p (iV 0))] [(1, {call := some (none, [.ov false [.sl (some 26) (v10.map (eO 3 eI))]], true)})] (A2 (wk_impl_emptyGraph hv10) (show List.all [.ov false [.sl (some 26) (v10.map (eO 3 eI))]] simpleR = true from (sa_o (wnR1 (wnL_enc (wn_O wn_I)) rfl) rfl)))) ?_
     refine k_join (J := fun (x : ((List (List Int)) × Int)) => [(0, .d false [.sl none (a0.map (eF eI))]), (3, .p (iV (a0.length : Int))), (4, .ov false [.sl (some 3) (x5.1.map eI)]), (6, .p (iV x5.2.2)), (8, .ov false [.sl (some 26) (x.1.map (eO 3 eI))]), (9, .p (iV x.2))]) (K := fun x => impl_characteristic_k4 a0 x5 x = some o_x5) (fun x11 h => ?_) ?_
     ·unfold impl_characteristic_k4 at h
      replace h := bs h
      obtain ⟨u12, hu12, h⟩ := h
      replace h := bs h
      obtain ⟨v13, hv13, h⟩ := h
      refine k_sreg (r_gq [(0, .d false [.sl none (a0.map (eF eI))]), (3, .p (iV (a0.length : Int))), (4, .ov false [.sl (some 3) ((x5.1.set (Int.toNat (w64 ((a0.length : Int) - x5.2.2))) (w64 (Int.tdiv (w64 (0 - x11.2)) x5.2.2))).map eI)]), (6, .p (iV x5.2.2)), (8, .ov false [.sl (some 26) (x11.1.map (eO 3 eI))])] [(8, {row := some (eI v13)}), (9, {row := some (eI v13), fix := some (4, .ov false [.sl (some 3) ((x5.1.set (Int.toNat (w64 ((a0.length : Int) - x5.2.2))) (w64 (Int.tdiv (w64 (0 - x11.2)) x5.2.2))).map eI)])})] (A5 (yca hu12) (yba hv13).1 (map_get eI (yba hv13).2) (show getRow [[.sl (some 3) (x5.1.map eI)]] [(0, 0), ((Int.toNat (w64 ((a0.length : Int) - x5.2.2))), 0)] = some (eI v13) from ((gr0 rfl).trans (gre (map_get eI (yba hv13).2)))) (show (SV.ov false [.sl (some 3) (setL (x5.1.map eI) [((Int.toNat (w64 ((a0.length : Int) - x5.2.2))), 0)] [rI (w64 (Int.tdiv (w64 (0 - x11.2)) x5.2.2))])] : SV) = .ov false [.sl (some 3) ((x5.1.set (Int.toNat (w64 ((a0.length : Int) - x5.2.2))) (w64 (Int.tdiv (w64 (0 - x11.2)) x5.2.2))).map eI)] from (congrArg (fun z => SV.ov false [.sl (some 3) z]) (set1 (f := eI) (y := (w64 (Int.tdiv (w64 (0 - x11.2)) x5.2.2))) (yba hv13).2 rfl))))) ?_
      refine k_reg (r_gq [(0, .d false [.sl none (a0.map (eF eI))]), (3, .p (iV (a0.length : Int))), (4, .ov false [.sl (some 3) ((x5.1.set (Int.toNat (w64 ((a0.length : Int) - x5.2.2))) (w64 (Int.tdiv (w64 (0 - x11.2)) x5.2.2))).map eI)]), (5, .ov false [.sl (some 26) (x11.1.map (eO 3 eI))]), (6, .p (iV x5.2.2))] [] trivial) ?_
      refine b_n ?_
      refine q_n ?_
      exact jx ((x5.1.set (Int.toNat (w64 ((a0.length : Int) - x5.2.2))) (w64 (Int.tdiv (w64 (0 - x11.2)) x5.2.2))), x11.1) h
     ·refine k_sreg (r_gq [(0, .d false [.sl none (a0.map (eF eI))]), (3, .p (iV (a0.length : Int))), (4, .ov false [.sl (some 3) (x5.1.map eI)]), (5, .ov false [.sl (some 26) (x9.map (eO 3 eI))]), (6, .p (iV x5.2.2)), (8, .ov false [.sl (some 26) (v10.map (eO 3 eI))]), (9, .p (iV 0)), (53, .p (iV (a0.length : Int))), (54, .p (iV 0))] [(1, {n := some a0.length})] (A1 (show (a0.map (eF eI)).length = a0.length from (List.length_map ..)))) ?_
      refine k_block ?_
      obtain ⟨y15, hl_x14, hk_x14⟩ := bs h
      clear h
      refine k_loop (J := fun (x : ((List (List Int)) × Int × Int)) => [(0, .d false [.sl none (a0.map (eF eI))]), (3, .p (iV (a0.length : Int))), (4, .ov false [.sl (some 3) (x5.1.map eI)]), (5, .ov false [.sl (some 26) (x9.map (eO 3 eI))]), (6, .p (iV x5.2.2)), (8, .ov false [.sl (some 26) (x.1.map (eO 3 eI))]), (9, .p (iV x.2.1)), (53, .p (iV (a0.length : Int))), (54, .p (iV x.2.2))]) hl_x14 (wk_of (by kernel_rfl) (by kernel_rfl)) (fun x14 o_x14 h hy_x14 => ?_)
      unfold impl_characteristic_b2 at h
      refine k_sreg (r_gq [(0, .d false [.sl none (a0.map (eF eI))]), (3, .p (iV (a0.length : Int))), (4, .ov false [.sl (some 3) (x5.1.map eI)]), (5, .ov false [.sl (some 26) (x9.map (eO 3 eI))]), (6, .p (iV x5.2.2)), (8, .ov false [.sl (some 26) (x14.1.map (eO 3 eI))]), (9, .p (iV x14.2.1)), (53, .p (iV (a0.length : Int))), (54, .p (iV x14.2.2)), (55, .p (.bool (decide (x14.2.2 < (a0.length : Int)))))] [] trivial) ?_
      refine k_seq ?_
      refine kc (decide (x14.2.2 < (a0.length : Int))) (fun hc10_15 => ?_) (fun hc10_15 => ?_)
      ·replace h := ite_t hc10_15 h
       refine k_skip ?_
       refine q_n ?_
       refine k_join (J := fun (x : ((List (List Int)) × Int)) => [(0, .d false [.sl none (a0.map (eF eI))]), (3, .p (iV (a0.length : Int))), (4, .ov false [.sl (some 3) (x5.1.map eI)]), (5, .ov false [.sl (some 26) (x9.map (eO 3 eI))]), (6, .p (iV x5.2.2)), (8, .ov false [.sl (some 26) (x.1.map (eO 3 eI))]), (9, .p (iV x.2)), (53, .p (iV (a0.length : Int))), (54, .p (iV x14.2.2))]) (K := fun x => impl_characteristic_k5 x14 x = some o_x14) (fun x17 h => ?_) ?_
       ·unfold impl_characteristic_k5 at h
        refine k_reg (r_gq [(0, .d false [.sl none (a0.map (eF eI))]), (3, .p (iV (a0.length : Int))), (4, .ov false [.sl (some 3) (x5.1.map eI)]), (5, .ov false [.sl (some 26) (x9.map (eO 3 eI))]), (6, .p (iV x5.2.2)), (8, .ov false [.sl (some 26) (x17.1.map (eO 3 eI))]), (9, .p (iV x17.2)), (53, .p (iV (a0.length : Int))), (54, .p (iV (w64 (x14.2.2 + 1))))] [] trivial) ?_
        exact lqn (x17.1, x17.2, (w64 (x14.2.2 + 1))) h
       ·refine k_block ?_
        refine k_sreg (r_gq [(0, .d false [.sl none (a0.map (eF eI))]), (3, .p (iV (a0.length : Int))), (4, .ov false [.sl (some 3) (x5.1.map eI)]), (5, .ov false [.sl (some 26) (x9.map (eO 3 eI))]), (6, .p (iV x5.2.2)), (8, .ov false [.sl (some 26) (x14.1.map (eO 3 eI))]), (9, .p (iV x14.2.1)), (10, .p (iV x14.2.2)), (53, .p (iV (a0.length : Int))), (54, .p (iV x14.2.2))] [] trivial) ?_
        refine k_join (J := fun (x : (List (List Int))) => [(0, .d false [.sl none (a0.map (eF eI))]), (3, .p (iV (a0.length : Int))), (4, .ov false [.sl (some 3) (x5.1.map eI)]), (5, .ov false [.sl (some 26) (x9.map (eO 3 eI))]), (6, .p (iV x5.2.2)), (8, .ov false [.sl (some 26) (x.map (eO 3 eI))]), (9, .p (iV x14.2.1)), (10, .p (iV x14.2.2)), (53, .p (iV (a0.length : Int))), (54, .p (iV x14.2.2))]) (K := fun x => impl_characteristic_k6 x14 x = some o_x14) (fun x18 h => ?_) ?_
        ·unfold impl_characteristic_k6 at h
         replace h := bs h
         obtain ⟨v19, hv19, h⟩ := h
         replace h := bs h
         obtain ⟨v20, hv20, h⟩ := h
         refine k_reg (r_gq [(0, .d false [.sl none (a0.map (eF eI))]), (3, .p (iV (a0.length : Int))), (4, .ov false [.sl (some 3) (x5.1.map eI)]), (5, .ov false [.sl (some 26) (x9.map (eO 3 eI))]), (6, .p (iV x5.2.2)), (8, .ov false [.sl (some 26) (x18.map (eO 3 eI))]), (9, .p (iV (w64 (x14.2.1 + v20)))), (53, .p (iV (a0.length : Int))), (54, .p (iV x14.2.2))] [(3, {row := some [.sl (some 3) (v19.map eI)]}), (4, {row := some [.sl (some 3) (v19.map eI)]}), (6, {deep := some [.sl (some 3) (v19.map eI)], row := some (eI v20)}), (7, {row := some (eI v20)})] (B6 (yba hv19).1 (map_get (eO 3 eI) (yba hv19).2) (show frR [.sl (some 3) (v19.map eI)] = false from rfl) (show getRow [[.sl (some 26) (x18.map (eO 3 eI))]] [(0, 0), ((Int.toNat x14.2.2), 0)] = some [.sl (some 3) (v19.map eI)] from ((gr0 rfl).trans (gre (map_get (eO 3 eI) (yba hv19).2)))) (yba hv20).1 (map_get eI (yba hv20).2) (A2 (show getRow [[.sl (some 26) (x18.map (eO 3 eI))]] [(0, 0), ((Int.toNat x14.2.2), 0)] = some [.sl (some 3) (v19.map eI)] from ((gr0 rfl).trans (gre (map_get (eO 3 eI) (yba hv19).2)))) (show getRow [[.sl (some 26) (x18.map (eO 3 eI))]] [(0, 0), ((Int.toNat x14.2.2), 0), ((Int.toNat x14.2.2), 0)] = some (eI v20) from ((gr0 rfl).trans ((grs (map_get (eO 3 eI) (yba hv19).2) rfl).trans (gre (map_get eI (yba hv20).2)))))))) ?_
         refine b_n ?_
         refine q_n ?_
         exact jx (x18, (w64 (x14.2.1 + v20))) h
        ·refine k_sreg (r_gq [(0, .d false [.sl none (a0.map (eF eI))]), (3, .p (iV (a0.length : Int))), (4, .ov false [.sl (some 3) (x5.1.map eI)]), (5, .ov false [.sl (some 26) (x9.map (eO 3 eI))]), (6, .p (iV x5.2.2)), (8, .ov false [.sl (some 26) (x14.1.map (eO 3 eI))]), (9, .p (iV x14.2.1)), (10, .p (iV x14.2.2)), (53, .p (iV (a0.length : Int))), (54, .p (iV x14.2.2)), (58, .p (iV (a0.length : Int))), (59, .p (iV 0))] [(1, {n := some a0.length})] (A1 (show (a0.map (eF eI)).length = a0.length from (List.length_map ..)))) ?_
         refine k_block ?_
         obtain ⟨y22, hl_x21, hk_x21⟩ := bs h
         clear h
         refine k_loop (J := fun (x : ((List (List Int)) × Int)) => [(0, .d false [.sl none (a0.map (eF eI))]), (3, .p (iV (a0.length : Int))), (4, .ov false [.sl (some 3) (x5.1.map eI)]), (5, .ov false [.sl (some 26) (x9.map (eO 3 eI))]), (6, .p (iV x5.2.2)), (8, .ov false [.sl (some 26) (x.1.map (eO 3 eI))]), (9, .p (iV x14.2.1)), (10, .p (iV x14.2.2)), (53, .p (iV (a0.length : Int))), (54, .p (iV x14.2.2)), (58, .p (iV (a0.length : Int))), (59, .p (iV x.2))]) hl_x21 (wk_of (by kernel_rfl) (by kernel_rfl)) (fun x21 o_x21 h hy_x21 => ?_)
         unfold impl_characteristic_b3 at h
         refine k_sreg (r_gq [(0, .d false [.sl none (a0.map (eF eI))]), (3, .p (iV (a0.length : Int))), (4, .ov false [.sl (some 3) (x5.1.map eI)]), (5, .ov false [.sl (some 26) (x9.map (eO 3 eI))]), (6, .p (iV x5.2.2)), (8, .ov false [.sl (some 26) (x21.1.map (eO 3 eI))]), (9, .p (iV x14.2.1)), (10, .p (iV x14.2.2)), (53, .p (iV (a0.length : Int))), (54, .p (iV x14.2.2)), (58, .p (iV (a0.length : Int))), (59, .p (iV x21.2)), (60, .p (.bool (decide (x21.2 < (a0.length : Int)))))] [] trivial) ?_
         refine k_seq ?_
         refine kc (decide (x21.2 < (a0.length : Int))) (fun hc15_22 => ?_) (fun hc15_22 => ?_)
         ·replace h := ite_t hc15_22 h
          refine k_skip ?_
          refine q_n ?_
          refine k_join (J := fun (x : (List (List Int))) => [(0, .d false [.sl none (a0.map (eF eI))]), (3, .p (iV (a0.length : Int))), (4, .ov false [.sl (some 3) (x5.1.map eI)]), (5, .ov false [.sl (some 26) (x9.map (eO 3 eI))]), (6, .p (iV x5.2.2)), (8, .ov false [.sl (some 26) (x.map (eO 3 eI))]), (9, .p (iV x14.2.1)), (10, .p (iV x14.2.2)), (53, .p (iV (a0.length : Int))), (54, .p (iV x14.2.2)), (58, .p (iV (a0.length : Int))), (59, .p (iV x21.2))]) (K := fun x => impl_characteristic_k7 x21 x = some o_x21) (fun x24 h => ?_) ?_
          ·unfold impl_characteristic_k7 at h
           refine k_reg (r_gq [(0, .d false [.sl none (a0.map (eF eI))]), (3, .p (iV (a0.length : Int))), (4, .ov false [.sl (some 3) (x5.1.map eI)]), (5, .ov false [.sl (some 26) (x9.map (eO 3 eI))]), (6, .p (iV x5.2.2)), (8, .ov false [.sl (some 26) (x24.map (eO 3 eI))]), (9, .p (iV x14.2.1)), (10, .p (iV x14.2.2)), (53, .p (iV (a0.length : Int))), (54, .p (iV x14.2.2)), (58, .p (iV (a0.length : Int))), (59, .p (iV (w64 (x21.2 + 1))))] [] trivial) ?_
           exact lqn (x24, (w64 (x21.2 + 1))) h
          ·refine k_block ?_
           refine k_sreg (r_gq [(0, .d false [.sl none (a0.map (eF eI))]), (3, .p (iV (a0.length : Int))), (4, .ov false [.sl (some 3) (x5.1.map eI)]), (5, .ov false [.sl (some 26) (x9.map (eO 3 eI))]), (6, .p (iV x5.2.2)), (8, .ov false [.sl (some 26) (x21.1.map (eO 3 eI))]), (9, .p (iV x14.2.1)), (10, .p (iV x14.2.2)), (11, .p (iV x21.2)), (53, .p (iV (a0.length : Int))), (54, .p (iV x14.2.2)), (58, .p (iV (a0.length : Int))), (59, .p (iV x21.2))] [] trivial) ?_
           refine k_sreg (r_gq [(0, .d false [.sl none (a0.map (eF eI))]), (3, .p (iV (a0.length : Int))), (4, .ov false [.sl (some 3) (x5.1.map eI)]), (5, .ov false [.sl (some 26) (x9.map (eO 3 eI))]), (6, .p (iV x5.2.2)), (8, .ov false [.sl (some 26) (x21.1.map (eO 3 eI))]), (9, .p (iV x14.2.1)), (10, .p (iV x14.2.2)), (11, .p (iV x21.2)), (53, .p (iV (a0.length : Int))), (54, .p (iV x14.2.2)), (58, .p (iV (a0.length : Int))), (59, .p (iV x21.2)), (63, .p (iV (a0.length : Int))), (64, .p (iV 0))] [(1, {n := some a0.length})] (A1 (show (a0.map (eF eI)).length = a0.length from (List.length_map ..)))) ?_
           refine k_block ?_
           obtain ⟨y26, hl_x25, hk_x25⟩ := bs h
           clear h
           refine k_loop (J := fun (x : ((List (List Int)) × Int)) => [(0, .d false [.sl none (a0.map (eF eI))]), (3, .p (iV (a0.length : Int))), (4, .ov false [.sl (some 3) (x5.1.map eI)]), (5, .ov false [.sl (some 26) (x9.map (eO 3 eI))]), (6, .p (iV x5.2.2)), (8, .ov false [.sl (some 26) (x.1.map (eO 3 eI))]), (9, .p (iV x14.2.1)), (10, .p (iV x14.2.2)), (11, .p (iV x21.2)), (53, .p (iV (a0.length : Int))), (54, .p (iV x14.2.2)), (58, .p (iV (a0.length : Int))), (59, .p (iV x21.2)), (63, .p (iV (a0.length : Int))), (64, .p (iV x.2))]) hl_x25 (wk_of (by kernel_rfl) (by kernel_rfl)) (fun x25 o_x25 h hy_x25 => ?_)
           unfold impl_characteristic_b4 at h
           refine k_sreg (r_gq [(0, .d false [.sl none (a0.map (eF eI))]), (3, .p (iV (a0.length : Int))), (4, .ov false [.sl (some 3) (x5.1.map eI)]), (5, .ov false [.sl (some 26) (x9.map (eO 3 eI))]), (6, .p (iV x5.2.2)), (8, .ov false [.sl (some 26) (x25.1.map (eO 3 eI))]), (9, .p (iV x14.2.1)), (10, .p (iV x14.2.2)), (11, .p (iV x21.2)), (53, .p (iV (a0.length : Int))), (54, .p (iV x14.2.2)), (58, .p (iV (a0.length : Int))), (59, .p (iV x21.2)), (63, .p (iV (a0.length : Int))), (64, .p (iV x25.2)), (65, .p (.bool (decide (x25.2 < (a0.length : Int)))))] [] trivial) ?_
           refine k_seq ?_
           refine kc (decide (x25.2 < (a0.length : Int))) (fun hc19_26 => ?_) (fun hc19_26 => ?_)
           ·replace h := ite_t hc19_26 h
            refine k_skip ?_
            refine q_n ?_
            refine k_seq ?_
            refine k_block ?_
            refine k_sreg (r_gq [(0, .d false [.sl none (a0.map (eF eI))]), (3, .p (iV (a0.length : Int))), (4, .ov false [.sl (some 3) (x5.1.map eI)]), (5, .ov false [.sl (some 26) (x9.map (eO 3 eI))]), (6, .p (iV x5.2.2)), (8, .ov false [.sl (some 26) (x25.1.map (eO 3 eI))]), (9, .p (iV x14.2.1)), (10, .p (iV x14.2.2)), (11, .p (iV x21.2)), (12, .p (iV x25.2)), (53, .p (iV (a0.length : Int))), (54, .p (iV x14.2.2)), (58, .p (iV (a0.length : Int))), (59, .p (iV x21.2)), (63, .p (iV (a0.length : Int))), (64, .p (iV x25.2))] [] trivial) ?_
            replace h := bs h
            obtain ⟨v28, hv28, h⟩ := h
            replace h := bs h
            obtain ⟨v29, hv29, h⟩ := h
            replace h := bs h
            obtain ⟨v30, hv30, h⟩ := h
            replace h := bs h
            obtain ⟨v31, hv31, h⟩ := h
            replace h := bs h
            obtain ⟨v32, hv32, h⟩ := h
            replace h := bs h
            obtain ⟨v33, hv33, h⟩ := h
            refine k_reg (r_dq Try_mixed 22 [] [(0, .d false [.sl none (a0.map (eF eI))]), (3, .p (iV (a0.length : Int))), (4, .ov false [.sl (some 3) (x5.1.map eI)]), (5, .ov false [.sl (some 26) (x9.map (eO 3 eI))]), (6, .p (iV x5.2.2)), (8, .ov false [.sl (some 26) ((x25.1.set (Int.toNat x14.2.2) (v28.set (Int.toNat x21.2) (w64 (v29 + (w64 (v31 * v33)))))).map (eO 3 eI))]), (9, .p (iV x14.2.1)), (10, .p (iV x14.2.2)), (11, .p (iV x21.2)), (53, .p (iV (a0.length : Int))), (54, .p (iV x14.2.2)), (58, .p (iV (a0.length : Int))), (59, .p (iV x21.2)), (63, .p (iV (a0.length : Int))), (64, .p (iV x25.2))] [(2, {row := some [.sl (some 3) (v28.map eI)]}), (3, {row := some [.sl (some 3) (v28.map eI)]}), (5, {deep := some [.sl (some 3) (v28.map eI)], row := some (eI v29)}), (6, {row := some (eI v29)}), (9, {row := some [.sl none (v30.map eI)]}), (12, {row := some (eI v31)}), (16, {row := some [.sl (some 3) (v32.map eI)]}), (17, {row := some [.sl (some 3) (v32.map eI)]}), (19, {deep := some [.sl (some 3) (v32.map eI)], row := some (eI v33)}), (20, {row := some (eI v33)}), (23, {deep := some [.sl (some 3) (v28.map eI)], row := some (eI v29)}), (24, {row := some (eI v29), fix := some (8, .ov false [.sl (some 26) ((x25.1.set (Int.toNat x14.2.2) (v28.set (Int.toNat x21.2) (w64 (v29 + (w64 (v31 * v33)))))).map (eO 3 eI))])})] (B6 (yba hv28).1 (map_get (eO 3 eI) (yba hv28).2) (show frR [.sl (some 3) (v28.map eI)] = false from rfl) (show getRow [[.sl (some 26) (x25.1.map (eO 3 eI))]] [(0, 0), ((Int.toNat x14.2.2), 0)] = some [.sl (some 3) (v28.map eI)] from ((gr0 rfl).trans (gre (map_get (eO 3 eI) (yba hv28).2)))) (yba hv29).1 (map_get eI (yba hv29).2) (B6 (show getRow [[.sl (some 26) (x25.1.map (eO 3 eI))]] [(0, 0), ((Int.toNat x14.2.2), 0)] = some [.sl (some 3) (v28.map eI)] from ((gr0 rfl).trans (gre (map_get (eO 3 eI) (yba hv28).2)))) (show getRow [[.sl (some 26) (x25.1.map (eO 3 eI))]] [(0, 0), ((Int.toNat x14.2.2), 0), ((Int.toNat x21.2), 0)] = some (eI v29) from ((gr0 rfl).trans ((grs (map_get (eO 3 eI) (yba hv28).2) rfl).trans (gre (map_get eI (yba hv29).2))))) (yba hv30).1 (map_get (eF eI) (yba hv30).2) (yba hv31).1 (map_get eI (yba hv31).2) (B6 (yba hv32).1 (map_get (eO 3 eI) (yba hv32).2) (show frR [.sl (some 3) (v32.map eI)] = false from rfl) (show getRow [[.sl (some 26) (x9.map (eO 3 eI))]] [(0, 0), ((Int.toNat x25.2), 0)] = some [.sl (some 3) (v32.map eI)] from ((gr0 rfl).trans (gre (map_get (eO 3 eI) (yba hv32).2)))) (yba hv33).1 (map_get eI (yba hv33).2) (B6 (show getRow [[.sl (some 26) (x9.map (eO 3 eI))]] [(0, 0), ((Int.toNat x25.2), 0)] = some [.sl (some 3) (v32.map eI)] from ((gr0 rfl).trans (gre (map_get (eO 3 eI) (yba hv32).2)))) (show getRow [[.sl (some 26) (x9.map (eO 3 eI))]] [(0, 0), ((Int.toNat x25.2), 0), ((Int.toNat x21.2), 0)] = some (eI v33) from ((gr0 rfl).trans ((grs (map_get (eO 3 eI) (yba hv32).2) rfl).trans (gre (map_get eI (yba hv33).2))))) (yba hv29).1 (map_get eI (yba hv29).2) (show getRow [[.sl (some 26) (x25.1.map (eO 3 eI))]] [(0, 0), ((Int.toNat x14.2.2), 0)] = some [.sl (some 3) (v28.map eI)] from ((gr0 rfl).trans (gre (map_get (eO 3 eI) (yba hv28).2)))) (show getRow [[.sl (some 26) (x25.1.map (eO 3 eI))]] [(0, 0), ((Int.toNat x14.2.2), 0), ((Int.toNat x21.2), 0)] = some (eI v29) from ((gr0 rfl).trans ((grs (map_get (eO 3 eI) (yba hv28).2) rfl).trans (gre (map_get eI (yba hv29).2))))) (A1 (show (SV.ov false [.sl (some 26) (setL (x25.1.map (eO 3 eI)) [((Int.toNat x14.2.2), 0), ((Int.toNat x21.2), 0)] [rI (w64 (v29 + (w64 (v31 * v33))))])] : SV) = .ov false [.sl (some 26) ((x25.1.set (Int.toNat x14.2.2) (v28.set (Int.toNat x21.2) (w64 (v29 + (w64 (v31 * v33)))))).map (eO 3 eI))] from (congrArg (fun z => SV.ov false [.sl (some 26) z]) (set2 (f := (eO 3 eI)) (y := (v28.set (Int.toNat x21.2) (w64 (v29 + (w64 (v31 * v33)))))) (yba hv28).2 rfl (set1 (f := eI) (y := (w64 (v29 + (w64 (v31 * v33))))) (yba hv29).2 rfl) rfl))))))))) ?_
            refine b_n ?_
            refine q_n ?_
            refine k_reg (r_gq [(0, .d false [.sl none (a0.map (eF eI))]), (3, .p (iV (a0.length : Int))), (4, .ov false [.sl (some 3) (x5.1.map eI)]), (5, .ov false [.sl (some 26) (x9.map (eO 3 eI))]), (6, .p (iV x5.2.2)), (8, .ov false [.sl (some 26) ((x25.1.set (Int.toNat x14.2.2) (v28.set (Int.toNat x21.2) (w64 (v29 + (w64 (v31 * v33)))))).map (eO 3 eI))]), (9, .p (iV x14.2.1)), (10, .p (iV x14.2.2)), (11, .p (iV x21.2)), (53, .p (iV (a0.length : Int))), (54, .p (iV x14.2.2)), (58, .p (iV (a0.length : Int))), (59, .p (iV x21.2)), (63, .p (iV (a0.length : Int))), (64, .p (iV (w64 (x25.2 + 1))))] [] trivial) ?_
            exact lqn ((x25.1.set (Int.toNat x14.2.2) (v28.set (Int.toNat x21.2) (w64 (v29 + (w64 (v31 * v33)))))), (w64 (x25.2 + 1))) h
           ·replace h := ite_f hc19_26 h
            refine k_exit ?_
            refine q_x ?_
            refine lq_x ?_
            refine b_x ?_
            refine b_n ?_
            have hyy := hy_x25 _ (oi h).symm
            subst hyy
            have h := hk_x25
            refine q_n ?_
            exact jx x25.1 h
         ·replace h := ite_f hc15_22 h
          refine k_exit ?_
          refine q_x ?_
          refine lq_x ?_
          refine b_x ?_
          have hyy := hy_x21 _ (oi h).symm
          subst hyy
          have h := hk_x21
          refine q_n ?_
          exact jx x21.1 h
      ·replace h := ite_f hc10_15 h
       refine k_exit ?_
       refine q_x ?_
       refine lq_x ?_
       refine b_x ?_
       have hyy := hy_x14 _ (oi h).symm
       subst hyy
       have h := hk_x14
       refine q_n ?_
       exact jx (x14.1, x14.2.1) h
    ·refine k_sreg (r_gq [(0, .d false [.sl none (a0.map (eF eI))]), (3, .p (iV (a0.length : Int))), (4, .ov false [.sl (some 3) (x5.1.map eI)]), (5, .ov false [.sl (some 26) (x5.2.1.map (eO 3 eI))]), (6, .p (iV x5.2.2)), (29, .p (iV (x5.2.1.length : Int))), (30, .p (iV 0))] [(1, {n := some x5.2.1.length})] (A1 (show (x5.2.1.map (eO 3 eI)).length = x5.2.1.length from (List.length_map ..)))) ?_
     refine k_block ?_
     obtain ⟨y35, hl_x34, hk_x34⟩ := bs h
     clear h
     refine k_loop (J := fun (x : ((List (List Int)) × Int)) => [(0, .d false [.sl none (a0.map (eF eI))]), (3, .p (iV (a0.length : Int))), (4, .ov false [.sl (some 3) (x5.1.map eI)]), (5, .ov false [.sl (some 26) (x.1.map (eO 3 eI))]), (6, .p (iV x5.2.2)), (29, .p (iV (x5.2.1.length : Int))), (30, .p (iV x.2))]) hl_x34 (wk_of (by kernel_rfl) (by kernel_rfl)) (fun x34 o_x34 h hy_x34 => ?_)
     unfold impl_characteristic_b5 at h
     refine k_sreg (r_gq [(0, .d false [.sl none (a0.map (eF eI))]), (3, .p (iV (a0.length : Int))), (4, .ov false [.sl (some 3) (x5.1.map eI)]), (5, .ov false [.sl (some 26) (x34.1.map (eO 3 eI))]), (6, .p (iV x5.2.2)), (29, .p (iV (x5.2.1.length : Int))), (30, .p (iV x34.2)), (31, .p (.bool (decide (x34.2 < (x5.2.1.length : Int)))))] [] trivial) ?_
     refine k_seq ?_
     refine kc (decide (x34.2 < (x5.2.1.length : Int))) (fun hc10_35 => ?_) (fun hc10_35 => ?_)
     ·replace h := ite_t hc10_35 h
      refine k_skip ?_
      refine q_n ?_
      refine k_seq ?_
      refine k_block ?_
      refine k_sreg (r_gq [(0, .d false [.sl none (a0.map (eF eI))]), (3, .p (iV (a0.length : Int))), (4, .ov false [.sl (some 3) (x5.1.map eI)]), (5, .ov false [.sl (some 26) (x34.1.map (eO 3 eI))]), (6, .p (iV x5.2.2)), (7, .p (iV x34.2)), (29, .p (iV (x5.2.1.length : Int))), (30, .p (iV x34.2))] [] trivial) ?_
      replace h := bs h
      obtain ⟨v37, hv37, h⟩ := h
      replace h := bs h
      obtain ⟨v38, hv38, h⟩ := h
      replace h := bs h
      obtain ⟨v39, hv39, h⟩ := h
      refine k_reg (r_dq Try_mixed 14 [] [(0, .d false [.sl none (a0.map (eF eI))]), (3, .p (iV (a0.length : Int))), (4, .ov false [.sl (some 3) (x5.1.map eI)]), (5, .ov false [.sl (some 26) ((x34.1.set (Int.toNat x34.2) (v37.set (Int.toNat x34.2) (w64 (v38 + v39)))).map (eO 3 eI))]), (6, .p (iV x5.2.2)), (29, .p (iV (x5.2.1.length : Int))), (30, .p (iV x34.2))] [(2, {row := some [.sl (some 3) (v37.map eI)]}), (3, {row := some [.sl (some 3) (v37.map eI)]}), (5, {deep := some [.sl (some 3) (v37.map eI)], row := some (eI v38)}), (6, {row := some (eI v38)}), (12, {row := some (eI v39)}), (13, {row := some (eI v39)}), (15, {deep := some [.sl (some 3) (v37.map eI)], row := some (eI v38)}), (16, {row := some (eI v38), fix := some (5, .ov false [.sl (some 26) ((x34.1.set (Int.toNat x34.2) (v37.set (Int.toNat x34.2) (w64 (v38 + v39)))).map (eO 3 eI))])})] (B6 (yba hv37).1 (map_get (eO 3 eI) (yba hv37).2) (show frR [.sl (some 3) (v37.map eI)] = false from rfl) (show getRow [[.sl (some 26) (x34.1.map (eO 3 eI))]] [(0, 0), ((Int.toNat x34.2), 0)] = some [.sl (some 3) (v37.map eI)] from ((gr0 rfl).trans (gre (map_get (eO 3 eI) (yba hv37).2)))) (yba hv38).1 (map_get eI (yba hv38).2) (B6 (show getRow [[.sl (some 26) (x34.1.map (eO 3 eI))]] [(0, 0), ((Int.toNat x34.2), 0)] = some [.sl (some 3) (v37.map eI)] from ((gr0 rfl).trans (gre (map_get (eO 3 eI) (yba hv37).2)))) (show getRow [[.sl (some 26) (x34.1.map (eO 3 eI))]] [(0, 0), ((Int.toNat x34.2), 0), ((Int.toNat x34.2), 0)] = some (eI v38) from ((gr0 rfl).trans ((grs (map_get (eO 3 eI) (yba hv37).2) rfl).trans (gre (map_get eI (yba hv38).2))))) (yba hv39).1 (map_get eI (yba hv39).2) (show getRow [[.sl (some 3) (x5.1.map eI)]] [(0, 0), ((Int.toNat (w64 ((w64 ((a0.length : Int) - x5.2.2)) + 1))), 0)] = some (eI v39) from ((gr0 rfl).trans (gre (map_get eI (yba hv39).2)))) (yba hv38).1 (A4 (map_get eI (yba hv38).2) (show getRow [[.sl (some 26) (x34.1.map (eO 3 eI))]] [(0, 0), ((Int.toNat x34.2), 0)] = some [.sl (some 3) (v37.map eI)] from ((gr0 rfl).trans (gre (map_get (eO 3 eI) (yba hv37).2)))) (show getRow [[.sl (some 26) (x34.1.map (eO 3 eI))]] [(0, 0), ((Int.toNat x34.2), 0), ((Int.toNat x34.2), 0)] = some (eI v38) from ((gr0 rfl).trans ((grs (map_get (eO 3 eI) (yba hv37).2) rfl).trans (gre (map_get eI (yba hv38).2))))) (show (SV.ov false [.sl (some 26) (setL (x34.1.map (eO 3 eI)) [((Int.toNat x34.2), 0), ((Int.toNat x34.2), 0)] [rI (w64 (v38 + v39))])] : SV) = .ov false [.sl (some 26) ((x34.1.set (Int.toNat x34.2) (v37.set (Int.toNat x34.2) (w64 (v38 + v39)))).map (eO 3 eI))] from (congrArg (fun z => SV.ov false [.sl (some 26) z]) (set2 (f := (eO 3 eI)) (y := (v37.set (Int.toNat x34.2) (w64 (v38 + v39)))) (yba hv37).2 rfl (set1 (f := eI) (y := (w64 (v38 + v39))) (yba hv38).2 rfl) rfl))))))) ?_
      refine b_n ?_
      refine q_n ?_
      refine k_reg (r_gq [(0, .d false [.sl none (a0.map (eF eI))]), (3, .p (iV (a0.length : Int))), (4, .ov false [.sl (some 3) (x5.1.map eI)]), (5, .ov false [.sl (some 26) ((x34.1.set (Int.toNat x34.2) (v37.set (Int.toNat x34.2) (w64 (v38 + v39)))).map (eO 3 eI))]), (6, .p (iV x5.2.2)), (29, .p (iV (x5.2.1.length : Int))), (30, .p (iV (w64 (x34.2 + 1))))] [] trivial) ?_
      exact lqn ((x34.1.set (Int.toNat x34.2) (v37.set (Int.toNat x34.2) (w64 (v38 + v39)))), (w64 (x34.2 + 1))) h
     ·replace h := ite_f hc10_35 h
      refine k_exit ?_
      refine q_x ?_
      refine lq_x ?_
      refine b_x ?_
      have hyy := hy_x34 _ (oi h).symm
      subst hyy
      have h := hk_x34
      refine q_n ?_
      exact jx x34.1 h
  ·replace h := ite_f hc5_6 h
   refine k_exit ?_
   refine q_x ?_
   refine lq_x ?_
   refine b_x ?_
   have hyy := hy_x5 _ (oi h).symm
   subst hyy
   have h := hk_x5
   refine q_n ?_
   exact jx x5.1 h
theorem wk_impl_isPolynomial_1 {a0 : Int}  {r : Bool} (h : impl_isPolynomial_1 a0 = some r) : Meets Try.prog 129 [wI a0] { vals := [.p (.bool r)] } := by
 refine mo Try.func129 [(0, .p (iV a0))] ?_
 unfold impl_isPolynomial_1 at h
 refine k_sreg (r_gq [(0, .p (iV a0))] [] trivial) ?_
 replace h := bs h
 obtain ⟨v1, hv1, h⟩ := h
 refine k_sreg (r_gq [(2, .p (.bool (!v1)))] [(1, {call := some (none, [.p (.bool v1)], true)})] (A1 (wk_impl_within hv1))) ?_
 refine k_ret ?_
 obtain rfl := oi h
 exact er [(.p (.bool (!v1)), 2)]
theorem wk_impl_isPolynomial {a0 : (List Int)}  {r : Bool} (h : impl_isPolynomial a0 = some r) : Meets Try.prog 72 [.d false [.sl none (a0.map eI)]] { vals := [.p (.bool r)] } := by
 refine mo Try.func72 [(0, .d false [.sl none (a0.map eI)])] ?_
 unfold impl_isPolynomial at h
 refine k_sreg (r_gq [(0, .d false [.sl none (a0.map eI)])] [] trivial) ?_
 replace h := bs h
 obtain ⟨w3, hw3, h⟩ := h
 refine k_sreg (l1 := [(2, .p (.bool w3))]) ?_ ?_
 ·clear h
  rcases ft (decide ((a0.length : Int) ≤ 9)) with ha0 | ha0
  ·replace hw3 := ite_t ha0 hw3
   replace hw3 := bs hw3
   obtain ⟨v1, hv1, hw3⟩ := hw3
   rcases ft (!v1) with ha1 | ha1
   ·replace hw3 := ite_t ha1 hw3
    rcases ft ((a0.length : Int) == 0) with ha2 | ha2
    ·replace hw3 := ite_t ha2 hw3
     have hw3 := oi hw3
     subst hw3
     exact (r_gq [(2, .p (.bool true))] [(1, {n := some a0.length}), (4, gT), (5, {g := some true, call := some (none, [.p (.bool v1)], true)}), (6, gT), (7, bT), (9, gT), (10, {g := some true, n := some a0.length}), (11, gT), (12, gT), (13, gT), (14, gT), (15, gT), (16, gT), (17, gT), (18, gT), (19, gT), (20, {g := some true, b := some true}), (21, bT)] (B6 (show (a0.map eI).length = a0.length from (List.length_map ..)) ha0 ha0 (show Meets Try.prog 85 ([.d false [.sl none (a0.map eI)], .v (.func (.func 129) #[] #[])] ++ []) { vals := [.p (.bool v1)] } from (wk_slices_ContainsFunc_Lint_int_v (fun x0 y hy => wk_impl_isPolynomial_1 hy) hv1)) ha0 ha0 (B6 ha1 ha1 (show (a0.map eI).length = a0.length from (List.length_map ..)) ha1 ha1 ha2 (B6 ha2 ha2 ha2 ha2 ha2 ha2 (A3 ha1 ha2 ha1)))))
    ·replace hw3 := ite_f ha2 hw3
     replace hw3 := bs hw3
     obtain ⟨v2, hv2, hw3⟩ := hw3
     have hw3 := oi hw3
     subst hw3
     exact (r_gq [(2, .p (.bool (v2 != 0)))] [(1, {n := some a0.length}), (4, gT), (5, {g := some true, call := some (none, [.p (.bool v1)], true)}), (6, gT), (7, bT), (9, gT), (10, {g := some true, n := some a0.length}), (11, gT), (12, gT), (13, gF), (14, gF), (15, {g := some false, n := some a0.length}), (16, gF), (17, {g := some false, row := some (eI v2)}), (18, gF), (19, gF), (20, {g := some true, b := some false}), (21, bT)] (B6 (show (a0.map eI).length = a0.length from (List.length_map ..)) ha0 ha0 (show Meets Try.prog 85 ([.d false [.sl none (a0.map eI)], .v (.func (.func 129) #[] #[])] ++ []) { vals := [.p (.bool v1)] } from (wk_slices_ContainsFunc_Lint_int_v (fun x0 y hy => wk_impl_isPolynomial_1 hy) hv1)) ha0 ha0 (B6 ha1 ha1 (show (a0.map eI).length = a0.length from (List.length_map ..)) ha1 ha1 ha2 (B6 ha2 ha2 (show (a0.map eI).length = a0.length from (List.length_map ..)) ha2 ha2 (yba hv2).1 (A6 (map_get eI (yba hv2).2) ha2 ha2 ha1 ha2 ha1)))))
   ·replace hw3 := ite_f ha1 hw3
    have hw3 := oi hw3
    subst hw3
    exact (r_gq [(2, .p (.bool false))] [(1, {n := some a0.length}), (4, gT), (5, {g := some true, call := some (none, [.p (.bool v1)], true)}), (6, gT), (7, bT), (9, gF), (10, gF), (11, gF), (12, gF), (20, gF), (21, bF)] (B6 (show (a0.map eI).length = a0.length from (List.length_map ..)) ha0 ha0 (show Meets Try.prog 85 ([.d false [.sl none (a0.map eI)], .v (.func (.func 129) #[] #[])] ++ []) { vals := [.p (.bool v1)] } from (wk_slices_ContainsFunc_Lint_int_v (fun x0 y hy => wk_impl_isPolynomial_1 hy) hv1)) ha0 ha0 (A6 ha1 ha1 ha1 ha1 ha1 ha1)))
  ·replace hw3 := ite_f ha0 hw3
   have hw3 := oi hw3
   subst hw3
   exact (r_gq [(2, .p (.bool false))] [(1, {n := some a0.length}), (4, gF), (5, gF), (6, gF), (7, bF), (9, gF), (10, gF), (11, gF), (12, gF), (20, gF), (21, bF)] (B6 (show (a0.map eI).length = a0.length from (List.length_map ..)) ha0 ha0 ha0 ha0 (show false = false from rfl) (A5 (show false = false from rfl) (show false = false from rfl) (show false = false from rfl) (show false = false from rfl) (show false = false from rfl))))
 ·refine k_ret ?_
  obtain rfl := oi h
  exact er [(.p (.bool w3), 2)]
theorem wk_slices_Clone_Lint_int {a0 : (List Int)} {r : (List Int)} (h : slices_Clone_Lint_int a0 = some r) : Meets Try.prog 126 [.d false [.sl none (a0.map eI)]] { vals := [.ov false [.sl (some 3) (r.map eI)]] } := by
 refine ymi (by kernel_rfl) Try.func126 rfl (by kernel_rfl) (l0 := [(0, .d false [.sl none (a0.map eI)])]) (by kernel_rfl) ?_
 unfold slices_Clone_Lint_int at h
 refine k_sreg (r_go [(0, .d false [.sl none (a0.map eI)])] [] [] (by kernel_rfl) trivial) ?_
 refine k_seq ?_
 refine k_nil (e := 3) (z := 0) (d := 4) (rows := (a0.map eI)) (fun b => [(0, .d false [.sl none (a0.map eI)]), (4, .p (.bool b))]) rfl rfl rfl rfl rfl rfl (by kernel_rfl) rfl (fun v => by cases v <;> kernel_rfl) (fun v => by cases v <;> kernel_rfl) ?_ (fun hnil => ?_)
 ·refine k_cond (b := false) (by kernel_rfl) (fun hno => by cases hno) (fun _ => ?_)
  refine k_skip ?_
  refine q_n ?_
  replace h := bind_some' h
  obtain ⟨u2, hu2, h⟩ := h
  refine k_sreg (r_go [(2, .ov false [.sl (some 3) (a0.map eI)])] [] [List.length ([] : List (List C)) + List.length ((a0.map eI) : List (List C)) ≤ 1099511627776, ∀ row ∈ ((a0.map eI) : List (List C)), row.length = 1] (by kernel_rfl) ⟨(by have hg := (yca hu2); simpa using hg), (yua fun _ => rfl), trivial⟩) ?_
  refine k_ret ?_
  obtain rfl := Option.some.inj h
  exact e_ret (ls := [(.ov false [.sl (some 3) (a0.map eI)], 2)]) (by kernel_rfl) rfl (by kernel_rfl) rfl
 ·obtain rfl := List.map_eq_nil_iff.1 hnil
  refine k_cond (b := true) (by kernel_rfl) (fun _ => ?_) (fun hno => by cases hno)
  refine k_sreg (r_go [(2, .ov false [.sl (some 3) []])] [] [] (by kernel_rfl) trivial) ?_
  refine k_ret ?_
  refine q_r ?_
  obtain rfl : r = [] := by simp [guardO] at h; first | exact h | exact h.symm
  exact e_ret (ls := [(.ov false [.sl (some 3) []], 2)]) (by kernel_rfl) rfl (by kernel_rfl) rfl
theorem wk_impl_polynomial {a0 : (List Int)}  {r : ((List Int) × Bool)} (h : impl_polynomial a0 = some r) : Meets Try.prog 63 [.d false [.sl none (a0.map eI)]] { vals := [.ov false [.sl (some 3) (r.1.map eI)], .p (.bool r.2)] } := by
 refine mo Try.func63 [(0, .d false [.sl none (a0.map eI)])] ?_
 unfold impl_polynomial at h
 refine k_sreg (r_gq [(0, .d false [.sl none (a0.map eI)])] [] trivial) ?_
 refine k_join (J := fun (x : (List Int)) => [(0, .d false [.sl none (x.map eI)])]) (K := fun x => impl_polynomial_k1 x = some r) (fun x1 h => ?_) ?_
 ·unfold impl_polynomial_k1 at h
  refine k_seq ?_
  replace h := bs h
  obtain ⟨v2, hv2, h⟩ := h
  refine k_sreg (r_gq [(0, .d false [.sl none (x1.map eI)]), (23, .p (.bool (!v2)))] [(1, {call := some (none, [.p (.bool v2)], true)})] (A1 (wk_impl_isPolynomial hv2))) ?_
  refine kc (!v2) (fun hc2_2 => ?_) (fun hc2_2 => ?_)
  ·replace h := ite_t hc2_2 h
   refine k_sreg (r_gq [(2, .ov false [.sl (some 3) []]), (3, .p (.bool false))] [] trivial) ?_
   refine k_ret ?_
   refine q_r ?_
   obtain rfl := oi h
   exact er [(.ov false [.sl (some 3) []], 2), (.p (.bool false), 3)]
  ·replace h := ite_f hc2_2 h
   refine k_skip ?_
   refine q_n ?_
   replace h := bs h
   obtain ⟨v4, hv4, h⟩ := h
   refine k_sreg (r_gq [(2, .ov false [.sl (some 3) (v4.map eI)]), (3, .p (.bool true))] [(1, {call := some (none, [.ov false [.sl (some 3) (v4.map eI)]], true)})] (A2 (wk_slices_Clone_Lint_int hv4) (show List.all [.ov false [.sl (some 3) (v4.map eI)]] simpleR = true from (sa_o (wnR1 (wnL_enc wn_I) rfl) rfl)))) ?_
   refine k_ret ?_
   obtain rfl := oi h
   exact er [(.ov false [.sl (some 3) (v4.map eI)], 2), (.p (.bool true), 3)]
 ·refine k_block ?_
  obtain ⟨y6, hl_x5, hk_x5⟩ := bs h
  clear h
  refine k_loop (J := fun (x : (List Int)) => [(0, .d false [.sl none (x.map eI)])]) hl_x5 (wk_of (by kernel_rfl) (by kernel_rfl)) (fun x5 o_x5 h hy_x5 => ?_)
  unfold impl_polynomial_b1 at h
  refine k_seq ?_
  replace h := bs h
  obtain ⟨w8, hw8, h⟩ := h
  refine k_sreg (l1 := [(0, .d false [.sl none (x5.map eI)]), (15, .p (.bool w8))]) ?_ ?_
  ·clear h
   rcases ft (decide ((x5.length : Int) > 0)) with ha0 | ha0
   ·replace hw8 := ite_t ha0 hw8
    replace hw8 := bs hw8
    obtain ⟨v7, hv7, hw8⟩ := hw8
    have hw8 := oi hw8
    subst hw8
    exact (r_gq [(0, .d false [.sl none (x5.map eI)]), (15, .p (.bool (v7 == 0)))] [(1, {n := some x5.length}), (4, gT), (5, gT), (6, {g := some true, n := some x5.length}), (7, gT), (8, {g := some true, row := some (eI v7)}), (9, gT), (10, gT), (11, bT)] (B6 (show (x5.map eI).length = x5.length from (List.length_map ..)) ha0 ha0 ha0 (show (x5.map eI).length = x5.length from (List.length_map ..)) ha0 (A6 ha0 (yba hv7).1 (map_get eI (yba hv7).2) ha0 ha0 ha0)))
   ·replace hw8 := ite_f ha0 hw8
    have hw8 := oi hw8
    subst hw8
    exact (r_gq [(0, .d false [.sl none (x5.map eI)]), (15, .p (.bool false))] [(1, {n := some x5.length}), (4, gF), (5, gF), (6, gF), (7, gF), (8, gF), (9, gF), (10, gF), (11, bF)] (B6 (show (x5.map eI).length = x5.length from (List.length_map ..)) ha0 ha0 ha0 ha0 ha0 (A3 ha0 ha0 ha0)))
  ·refine kc w8 (fun hc5_8 => ?_) (fun hc5_8 => ?_)
   ·replace h := ite_t hc5_8 h
    refine k_skip ?_
    refine q_n ?_
    refine k_block ?_
    replace h := bs h
    obtain ⟨u10, hu10, h⟩ := h
    refine k_reg (r_gq [(0, .d false [.sl none ((x5.take (Int.toNat (w64 ((x5.length : Int) - 1)))).map eI)])] [(2, {n := some x5.length}), (4, {fix := some (20, .d false [.sl none ((x5.take (Int.toNat (w64 ((x5.length : Int) - 1)))).map eI)])})] (A6 (show (x5.map eI).length = x5.length from (List.length_map ..)) (show 0 ≤ (Int.toNat (w64 ((x5.length : Int) - 1))) from (by have hg := (yca hu10); first | (simp only [List.length_map]; omega) | omega)) (show (Int.toNat (w64 ((x5.length : Int) - 1))) ≤ (x5.map eI).length from (by have hg := (yca hu10); first | (simp only [List.length_map]; omega) | omega)) (show ∀ row ∈ (x5.map eI), row.length = 1 from (yua fun _ => rfl)) (show (0 : Int) ≤ (w64 ((x5.length : Int) - 1)) from (by have hg := (yca hu10); omega)) (show (SV.d false [.sl none (((x5.map eI).take (Int.toNat (w64 ((x5.length : Int) - 1)))).drop 0)] : SV) = .d false [.sl none ((x5.take (Int.toNat (w64 ((x5.length : Int) - 1)))).map eI)] from (congrArg (fun z => SV.d false [.sl none z]) sl_hi)))) ?_
    refine b_n ?_
    exact lqn (x5.take (Int.toNat (w64 ((x5.length : Int) - 1)))) h
   ·replace h := ite_f hc5_8 h
    refine k_exit ?_
    refine q_x ?_
    refine lq_x ?_
    refine b_x ?_
    have hyy := hy_x5 _ (oi h).symm
    subst hyy
    have h := hk_x5
    refine q_n ?_
    exact jx x5 h
theorem wk_impl_CharacteristicOf {a0 : (List (List Int))}  {r : ((List Int) × Bool)} (h : impl_CharacteristicOf a0 = some r) : Meets Try.prog 8 [.d false [.sl none (a0.map (eF eI))]] { vals := [.ov false [.sl (some 3) (r.1.map eI)], .p (.bool r.2)] } := by
 refine mo Try.func8 [(0, .d false [.sl none (a0.map (eF eI))])] ?_
 unfold impl_CharacteristicOf at h
 refine k_sreg (r_gq [(0, .d false [.sl none (a0.map (eF eI))])] [] trivial) ?_
 refine k_seq ?_
 replace h := bs h
 obtain ⟨v1, hv1, h⟩ := h
 refine k_sreg (r_gq [(0, .d false [.sl none (a0.map (eF eI))]), (6, .p (.bool (!v1)))] [(1, {call := some (none, [.p (.bool v1)], true)})] (A1 (wk_impl_isGraph hv1))) ?_
 refine kc (!v1) (fun hc2_1 => ?_) (fun hc2_1 => ?_)
 ·replace h := ite_t hc2_1 h
  refine k_sreg (r_gq [(2, .ov false [.sl (some 3) []]), (3, .p (.bool false))] [] trivial) ?_
  refine k_ret ?_
  refine q_r ?_
  obtain rfl := oi h
  exact er [(.ov false [.sl (some 3) []], 2), (.p (.bool false), 3)]
 ·replace h := ite_f hc2_1 h
  refine k_skip ?_
  refine q_n ?_
  replace h := bs h
  obtain ⟨v3, hv3, h⟩ := h
  replace h := bs h
  obtain ⟨v4, hv4, h⟩ := h
  refine k_sreg (r_gq [(2, .ov false [.sl (some 3) (v4.1.map eI)]), (3, .p (.bool v4.2))] [(1, {call := some (none, [.ov false [.sl (some 3) (v3.map eI)]], true)}), (2, {call := some (some [.d false [.sl none (v3.map eI)]], [.ov false [.sl (some 3) (v4.1.map eI)], .p (.bool v4.2)], true)})] (A5 (wk_impl_characteristic hv3) (show List.all [.ov false [.sl (some 3) (v3.map eI)]] simpleR = true from (sa_o (wnR1 (wnL_enc wn_I) rfl) rfl)) (show ([.d false [.sl none (eraL (v3.map eI))]] : List Arg) = [.d false [.sl none (v3.map eI)]] from (by simp only [yea (h := eI) er_I])) (wk_impl_polynomial hv4) (show List.all [.ov false [.sl (some 3) (v4.1.map eI)], .p (.bool v4.2)] simpleR = true from (sa_o (wnR1 (wnL_enc wn_I) rfl) (sa_p rfl))))) ?_
  refine k_ret ?_
  obtain rfl := oi h
  exact er [(.ov false [.sl (some 3) (v4.1.map eI)], 2), (.p (.bool v4.2), 3)]
theorem wk_spec_l1In {a0 : Int} {a1 : Int} {a2 : Int}  {r : Bool} (h : spec_l1In a0 a1 a2 = some r) : Meets Try.prog 78 [wI a0, wI a1, wI a2] { vals := [.p (.bool r)] } := by
 refine mo Try.func78 [(0, .p (iV a0)), (1, .p (iV a1)), (2, .p (iV a2))] ?_
 unfold spec_l1In at h
 refine k_sreg (r_gq [(0, .p (iV a0)), (1, .p (iV a1)), (2, .p (iV a2))] [] trivial) ?_
 refine k_sreg (l1 := [(6, .p (.bool ((decide (a0 ≥ a1)) && (decide (a0 ≤ a2)))))]) ?_ ?_
 ·rcases ft (decide (a0 ≥ a1)) with ha0 | ha0
  ·exact RegOk.of_eq (l2 := [(6, .p (.bool ((decide (a0 ≥ a1)) && (decide (a0 ≤ a2)))))]) (r_gq [(6, .p (.bool (decide (a0 ≤ a2))))] [(4, gT), (5, gT), (6, gT), (7, bT)] (A4 ha0 ha0 ha0 ha0)) (by simp [ha0])
  ·exact RegOk.of_eq (l2 := [(6, .p (.bool ((decide (a0 ≥ a1)) && (decide (a0 ≤ a2)))))]) (r_gq [(6, .p (.bool false))] [(4, gF), (5, gF), (6, gF), (7, bF)] (A4 ha0 ha0 ha0 ha0)) (by simp [ha0])
 ·refine k_ret ?_
  obtain rfl := oi h
  exact er [(.p (.bool ((decide (a0 ≥ a1)) && (decide (a0 ≤ a2)))), 6)]
theorem wk_spec_l1All {a0 : (List Int)} {a1 : Int} {a2 : Int}  {r : Bool} (h : spec_l1All a0 a1 a2 = some r) : Meets Try.prog 88 [.d false [.sl none (a0.map eI)], wI a1, wI a2] { vals := [.p (.bool r)] } := by
 refine mo Try.func88 [(0, .d false [.sl none (a0.map eI)]), (1, .p (iV a1)), (2, .p (iV a2))] ?_
 unfold spec_l1All at h
 refine k_sreg (r_gq [(0, .d false [.sl none (a0.map eI)]), (1, .p (iV a1)), (2, .p (iV a2))] [] trivial) ?_
 refine k_join (J := fun (x : Unit) => []) (K := fun x => spec_l1All_k1 x = some r) (fun x1 h => ?_) ?_
 ·unfold spec_l1All_k1 at h
  refine k_sreg (r_gq [(6, .p (.bool true))] [] trivial) ?_
  refine k_ret ?_
  obtain rfl := oi h
  exact er [(.p (.bool true), 6)]
 ·refine k_sreg (r_gq [(1, .p (iV a1)), (2, .p (iV a2)), (9, .d false [.sl none (a0.map eI)]), (10, .p (iV (a0.length : Int))), (11, .p (iV 0))] [(1, {n := some a0.length})] (A1 (show (a0.map eI).length = a0.length from (List.length_map ..)))) ?_
  refine k_block ?_
  obtain ⟨y3, hl_x2, hk_x2⟩ := bs h
  clear h
  refine k_loop (J := fun (x : Int) => [(1, .p (iV a1)), (2, .p (iV a2)), (9, .d false [.sl none (a0.map eI)]), (10, .p (iV (a0.length : Int))), (11, .p (iV x))]) hl_x2 (wk_of (by kernel_rfl) (by kernel_rfl)) (fun x2 o_x2 h hy_x2 => ?_)
  unfold spec_l1All_b1 at h
  refine k_sreg (r_gq [(1, .p (iV a1)), (2, .p (iV a2)), (9, .d false [.sl none (a0.map eI)]), (10, .p (iV (a0.length : Int))), (11, .p (iV x2)), (12, .p (.bool (decide (x2 < (a0.length : Int)))))] [] trivial) ?_
  refine k_seq ?_
  refine kc (decide (x2 < (a0.length : Int))) (fun hc5_3 => ?_) (fun hc5_3 => ?_)
  ·replace h := ite_t hc5_3 h
   refine k_skip ?_
   refine q_n ?_
   refine k_seq ?_
   refine k_block ?_
   replace h := bs h
   obtain ⟨v5, hv5, h⟩ := h
   refine k_sreg (r_gq [(1, .p (iV a1)), (2, .p (iV a2)), (8, .p (iV v5)), (9, .d false [.sl none (a0.map eI)]), (10, .p (iV (a0.length : Int))), (11, .p (iV x2))] [(0, {row := some (eI v5)})] (A2 (yba hv5).1 (map_get eI (yba hv5).2))) ?_
   replace h := bs h
   obtain ⟨v6, hv6, h⟩ := h
   refine k_sreg (r_gq [(1, .p (iV a1)), (2, .p (iV a2)), (9, .d false [.sl none (a0.map eI)]), (10, .p (iV (a0.length : Int))), (11, .p (iV x2)), (19, .p (.bool (!v6)))] [(3, {call := some (none, [.p (.bool v6)], true)})] (A1 (wk_spec_l1In hv6))) ?_
   refine kc (!v6) (fun hc6_6 => ?_) (fun hc6_6 => ?_)
   ·replace h := ite_t hc6_6 h
    refine k_sreg (r_gq [(6, .p (.bool false))] [] trivial) ?_
    refine k_ret ?_
    refine b_r ?_
    refine q_r ?_
    refine lq_r ?_
    refine b_r ?_
    refine q_r ?_
    have hyy := hy_x2 _ (oi h).symm
    subst hyy
    have h := hk_x2
    dsimp only [Sum.elim] at h
    obtain rfl := oi h
    exact er [(.p (.bool false), 6)]
   ·replace h := ite_f hc6_6 h
    refine k_skip ?_
    refine b_n ?_
    refine q_n ?_
    refine k_reg (r_gq [(1, .p (iV a1)), (2, .p (iV a2)), (9, .d false [.sl none (a0.map eI)]), (10, .p (iV (a0.length : Int))), (11, .p (iV (w64 (x2 + 1))))] [] trivial) ?_
    exact lqn (w64 (x2 + 1)) h
  ·replace h := ite_f hc5_3 h
   refine k_exit ?_
   refine q_x ?_
   refine lq_x ?_
   refine b_x ?_
   have hyy := hy_x2 _ (oi h).symm
   subst hyy
   have h := hk_x2
   dsimp only [Sum.elim] at h
   refine q_n ?_
   exact jx () h
theorem wk_spec_grGood {a0 : (List (List Int))}  {r : Bool} (h : spec_grGood a0 = some r) : Meets Try.prog 65 [.d false [.sl none (a0.map (eF eI))]] { vals := [.p (.bool r)] } := by
 refine mo Try.func65 [(0, .d false [.sl none (a0.map (eF eI))])] ?_
 unfold spec_grGood at h
 refine k_sreg (r_gq [(0, .d false [.sl none (a0.map (eF eI))])] [] trivial) ?_
 refine k_seq ?_
 replace h := bs h
 obtain ⟨v1, hv1, h⟩ := h
 refine k_sreg (r_gq [(0, .d false [.sl none (a0.map (eF eI))]), (8, .p (.bool (!v1)))] [(1, {n := some a0.length}), (2, {call := some (none, [.p (.bool v1)], true)})] (A2 (show (a0.map (eF eI)).length = a0.length from (List.length_map ..)) (wk_spec_l1In hv1))) ?_
 refine kc (!v1) (fun hc2_1 => ?_) (fun hc2_1 => ?_)
 ·replace h := ite_t hc2_1 h
  refine k_sreg (r_gq [(2, .p (.bool false))] [] trivial) ?_
  refine k_ret ?_
  refine q_r ?_
  obtain rfl := oi h
  exact er [(.p (.bool false), 2)]
 ·replace h := ite_f hc2_1 h
  refine k_skip ?_
  refine q_n ?_
  refine k_join (J := fun (x : Unit) => []) (K := fun x => spec_grGood_k1 x = some r) (fun x3 h => ?_) ?_
  ·unfold spec_grGood_k1 at h
   refine k_sreg (r_gq [(2, .p (.bool true))] [] trivial) ?_
   refine k_ret ?_
   obtain rfl := oi h
   exact er [(.p (.bool true), 2)]
  ·refine k_sreg (r_gq [(0, .d false [.sl none (a0.map (eF eI))]), (9, .d false [.sl none (a0.map (eF eI))]), (10, .p (iV (a0.length : Int))), (11, .p (iV 0))] [(1, {n := some a0.length})] (A1 (show (a0.map (eF eI)).length = a0.length from (List.length_map ..)))) ?_
   refine k_block ?_
   obtain ⟨y5, hl_x4, hk_x4⟩ := bs h
   clear h
   refine k_loop (J := fun (x : Int) => [(0, .d false [.sl none (a0.map (eF eI))]), (9, .d false [.sl none (a0.map (eF eI))]), (10, .p (iV (a0.length : Int))), (11, .p (iV x))]) hl_x4 (wk_of (by kernel_rfl) (by kernel_rfl)) (fun x4 o_x4 h hy_x4 => ?_)
   unfold spec_grGood_b1 at h
   refine k_sreg (r_gq [(0, .d false [.sl none (a0.map (eF eI))]), (9, .d false [.sl none (a0.map (eF eI))]), (10, .p (iV (a0.length : Int))), (11, .p (iV x4)), (12, .p (.bool (decide (x4 < (a0.length : Int)))))] [] trivial) ?_
   refine k_seq ?_
   refine kc (decide (x4 < (a0.length : Int))) (fun hc5_5 => ?_) (fun hc5_5 => ?_)
   ·replace h := ite_t hc5_5 h
    refine k_skip ?_
    refine q_n ?_
    refine k_seq ?_
    refine k_block ?_
    replace h := bs h
    obtain ⟨v7, hv7, h⟩ := h
    refine k_sreg (r_gq [(0, .d false [.sl none (a0.map (eF eI))]), (4, .d false [.sl none (v7.map eI)]), (9, .d false [.sl none (a0.map (eF eI))]), (10, .p (iV (a0.length : Int))), (11, .p (iV x4))] [(0, {row := some [.sl none (v7.map eI)]})] (A2 (yba hv7).1 (map_get (eF eI) (yba hv7).2))) ?_
    replace h := bs h
    obtain ⟨w9, hw9, h⟩ := h
    refine k_sreg (l1 := [(0, .d false [.sl none (a0.map (eF eI))]), (9, .d false [.sl none (a0.map (eF eI))]), (10, .p (iV (a0.length : Int))), (11, .p (iV x4)), (24, .p (.bool w9))]) ?_ ?_
    ·clear h
     rcases ft ((v7.length : Int) != (a0.length : Int)) with ha2 | ha2
     ·replace hw9 := ite_t ha2 hw9
      have hw9 := oi hw9
      subst hw9
      exact (r_gq [(0, .d false [.sl none (a0.map (eF eI))]), (9, .d false [.sl none (a0.map (eF eI))]), (10, .p (iV (a0.length : Int))), (11, .p (iV x4)), (24, .p (.bool true))] [(1, {n := some v7.length}), (3, {n := some a0.length}), (6, gT), (7, gT), (8, gT), (9, bT)] (A6 (show (v7.map eI).length = v7.length from (List.length_map ..)) (show (a0.map (eF eI)).length = a0.length from (List.length_map ..)) ha2 ha2 ha2 ha2))
     ·replace hw9 := ite_f ha2 hw9
      replace hw9 := bs hw9
      obtain ⟨v8, hv8, hw9⟩ := hw9
      have hw9 := oi hw9
      subst hw9
      exact (r_gq [(0, .d false [.sl none (a0.map (eF eI))]), (9, .d false [.sl none (a0.map (eF eI))]), (10, .p (iV (a0.length : Int))), (11, .p (iV x4)), (24, .p (.bool (!v8)))] [(1, {n := some v7.length}), (3, {n := some a0.length}), (6, gF), (7, {g := some false, call := some (none, [.p (.bool v8)], true)}), (8, gF), (9, bF)] (B6 (show (v7.map eI).length = v7.length from (List.length_map ..)) (show (a0.map (eF eI)).length = a0.length from (List.length_map ..)) ha2 ha2 (wk_spec_l1All hv8) ha2 (A1 ha2)))
    ·refine kc w9 (fun hc6_9 => ?_) (fun hc6_9 => ?_)
     ·replace h := ite_t hc6_9 h
      refine k_sreg (r_gq [(2, .p (.bool false))] [] trivial) ?_
      refine k_ret ?_
      refine b_r ?_
      refine q_r ?_
      refine lq_r ?_
      refine b_r ?_
      refine q_r ?_
      have hyy := hy_x4 _ (oi h).symm
      subst hyy
      have h := hk_x4
      dsimp only [Sum.elim] at h
      obtain rfl := oi h
      exact er [(.p (.bool false), 2)]
     ·replace h := ite_f hc6_9 h
      refine k_skip ?_
      refine b_n ?_
      refine q_n ?_
      refine k_reg (r_gq [(0, .d false [.sl none (a0.map (eF eI))]), (9, .d false [.sl none (a0.map (eF eI))]), (10, .p (iV (a0.length : Int))), (11, .p (iV (w64 (x4 + 1))))] [] trivial) ?_
      exact lqn (w64 (x4 + 1)) h
   ·replace h := ite_f hc5_5 h
    refine k_exit ?_
    refine q_x ?_
    refine lq_x ?_
    refine b_x ?_
    have hyy := hy_x4 _ (oi h).symm
    subst hyy
    have h := hk_x4
    dsimp only [Sum.elim] at h
    refine q_n ?_
    exact jx () h
theorem wk_spec_zeTimes {a0 : (List (List Int))} {a1 : (List (List Int))}  {r : (List (List Int))} (h : spec_zeTimes a0 a1 = some r) : Meets Try.prog 128 [.d false [.sl none (a0.map (eF eI))], .d false [.sl none (a1.map (eF eI))]] { vals := [.ov false [.sl (some 26) (r.map (eO 3 eI))]] } := by
 refine mo Try.func128 [(0, .d false [.sl none (a0.map (eF eI))]), (1, .d false [.sl none (a1.map (eF eI))])] ?_
 unfold spec_zeTimes at h
 refine k_sreg (r_gq [(0, .d false [.sl none (a0.map (eF eI))]), (1, .d false [.sl none (a1.map (eF eI))])] [] trivial) ?_
 refine k_sreg (r_gq [(0, .d false [.sl none (a0.map (eF eI))]), (1, .d false [.sl none (a1.map (eF eI))]), (5, .ov false [.sl (some 26) []])] [] trivial) ?_
 refine k_join (J := fun (x : (List (List Int))) => [(5, .ov false [.sl (some 26) (x.map (eO 3 eI))])]) (K := fun x => spec_zeTimes_k1 x = some r) (fun x1 h => ?_) ?_
 ·unfold spec_zeTimes_k1 at h
  refine k_sreg (r_gq [(4, .ov false [.sl (some 26) (x1.map (eO 3 eI))])] [] trivial) ?_
  refine k_ret ?_
  obtain rfl := oi h
  exact er [(.ov false [.sl (some 26) (x1.map (eO 3 eI))], 4)]
 ·refine k_sreg (r_gq [(1, .d false [.sl none (a1.map (eF eI))]), (5, .ov false [.sl (some 26) []]), (13, .d false [.sl none (a0.map (eF eI))]), (14, .p (iV (a0.length : Int))), (15, .p (iV 0))] [(1, {n := some a0.length})] (A1 (show (a0.map (eF eI)).length = a0.length from (List.length_map ..)))) ?_
  refine k_block ?_
  obtain ⟨y3, hl_x2, hk_x2⟩ := bs h
  clear h
  refine k_loop (J := fun (x : ((List (List Int)) × Int)) => [(1, .d false [.sl none (a1.map (eF eI))]), (5, .ov false [.sl (some 26) (x.1.map (eO 3 eI))]), (13, .d false [.sl none (a0.map (eF eI))]), (14, .p (iV (a0.length : Int))), (15, .p (iV x.2))]) hl_x2 (wk_of (by kernel_rfl) (by kernel_rfl)) (fun x2 o_x2 h hy_x2 => ?_)
  unfold spec_zeTimes_b1 at h
  refine k_sreg (r_gq [(1, .d false [.sl none (a1.map (eF eI))]), (5, .ov false [.sl (some 26) (x2.1.map (eO 3 eI))]), (13, .d false [.sl none (a0.map (eF eI))]), (14, .p (iV (a0.length : Int))), (15, .p (iV x2.2)), (16, .p (.bool (decide (x2.2 < (a0.length : Int)))))] [] trivial) ?_
  refine k_seq ?_
  refine kc (decide (x2.2 < (a0.length : Int))) (fun hc5_3 => ?_) (fun hc5_3 => ?_)
  ·replace h := ite_t hc5_3 h
   refine k_skip ?_
   refine q_n ?_
   refine k_join (J := fun (x : (List (List Int))) => [(1, .d false [.sl none (a1.map (eF eI))]), (5, .ov false [.sl (some 26) (x.map (eO 3 eI))]), (13, .d false [.sl none (a0.map (eF eI))]), (14, .p (iV (a0.length : Int))), (15, .p (iV x2.2))]) (K := fun x => spec_zeTimes_k2 x2 x = some o_x2) (fun x5 h => ?_) ?_
   ·unfold spec_zeTimes_k2 at h
    refine k_reg (r_gq [(1, .d false [.sl none (a1.map (eF eI))]), (5, .ov false [.sl (some 26) (x5.map (eO 3 eI))]), (13, .d false [.sl none (a0.map (eF eI))]), (14, .p (iV (a0.length : Int))), (15, .p (iV (w64 (x2.2 + 1))))] [] trivial) ?_
    exact lqn (x5, (w64 (x2.2 + 1))) h
   ·refine k_block ?_
    replace h := bs h
    obtain ⟨v6, hv6, h⟩ := h
    refine k_sreg (r_gq [(1, .d false [.sl none (a1.map (eF eI))]), (5, .ov false [.sl (some 26) (x2.1.map (eO 3 eI))]), (7, .d false [.sl none (v6.map eI)]), (13, .d false [.sl none (a0.map (eF eI))]), (14, .p (iV (a0.length : Int))), (15, .p (iV x2.2))] [(0, {row := some [.sl none (v6.map eI)]})] (A2 (yba hv6).1 (map_get (eF eI) (yba hv6).2))) ?_
    replace h := bs h
    obtain ⟨u7, hu7, h⟩ := h
    refine k_sreg (r_gq [(1, .d false [.sl none (a1.map (eF eI))]), (5, .ov false [.sl (some 26) (x2.1.map (eO 3 eI))]), (7, .d false [.sl none (v6.map eI)]), (8, .ov false [.sl (some 3) ((List.replicate (Int.toNat (a1.length : Int)) (0 : Int)).map eI)]), (13, .d false [.sl none (a0.map (eF eI))]), (14, .p (iV (a0.length : Int))), (15, .p (iV x2.2))] [(1, {n := some a1.length}), (2, {fix := some (21, .ov false [.sl (some 3) ((List.replicate (Int.toNat (a1.length : Int)) (0 : Int)).map eI)])})] (A5 (show (a1.map (eF eI)).length = a1.length from (List.length_map ..)) (show (a1.length : Int) = (a1.length : Int) from rfl) (yca hu7).1 (yca hu7).2 (show (SV.ov false [.sl (some 3) (List.replicate (Int.toNat (a1.length : Int)) [rI 0])] : SV) = .ov false [.sl (some 3) ((List.replicate (Int.toNat (a1.length : Int)) (0 : Int)).map eI)] from (congrArg (fun z => SV.ov false [.sl (some 3) z]) (rep_fix eI (0 : Int)))))) ?_
    refine k_join (J := fun (x : (List Int)) => [(1, .d false [.sl none (a1.map (eF eI))]), (5, .ov false [.sl (some 26) (x2.1.map (eO 3 eI))]), (8, .ov false [.sl (some 3) (x.map eI)]), (13, .d false [.sl none (a0.map (eF eI))]), (14, .p (iV (a0.length : Int))), (15, .p (iV x2.2))]) (K := fun x => spec_zeTimes_k3 x2 x = some o_x2) (fun x8 h => ?_) ?_
    ·unfold spec_zeTimes_k3 at h
     replace h := bs h
     obtain ⟨u9, hu9, h⟩ := h
     refine k_reg (r_gq [(1, .d false [.sl none (a1.map (eF eI))]), (5, .ov false [.sl (some 26) ((x2.1 ++ [x8]).map (eO 3 eI))]), (13, .d false [.sl none (a0.map (eF eI))]), (14, .p (iV (a0.length : Int))), (15, .p (iV x2.2))] [(3, {fix := some (53, .ov false [.sl (some 26) ((x2.1 ++ [x8]).map (eO 3 eI))])})] (A3 (show List.length ((x2.1.map (eO 3 eI)) : List (List C)) + List.length ((([x8]).map (eO 3 eI)) : List (List C)) ≤ 1099511627776 from (by have hg := (yca hu9); simpa using hg)) (show ∀ row ∈ ((([x8]).map (eO 3 eI)) : List (List C)), row.length = 1 from (yua fun _ => rfl)) (show (SV.ov false [.sl (some 26) ((x2.1.map (eO 3 eI)) ++ (([x8]).map (eO 3 eI)))] : SV) = .ov false [.sl (some 26) ((x2.1 ++ [x8]).map (eO 3 eI))] from (congrArg (fun z => SV.ov false [.sl (some 26) z]) (List.map_append ..).symm)))) ?_
     refine b_n ?_
     refine q_n ?_
     exact jx (x2.1 ++ [x8]) h
    ·refine k_sreg (r_gq [(1, .d false [.sl none (a1.map (eF eI))]), (5, .ov false [.sl (some 26) (x2.1.map (eO 3 eI))]), (8, .ov false [.sl (some 3) ((List.replicate (Int.toNat (a1.length : Int)) (0 : Int)).map eI)]), (13, .d false [.sl none (a0.map (eF eI))]), (14, .p (iV (a0.length : Int))), (15, .p (iV x2.2)), (22, .d false [.sl none (v6.map eI)]), (23, .p (iV (v6.length : Int))), (24, .p (iV 0))] [(1, {n := some v6.length})] (A1 (show (v6.map eI).length = v6.length from (List.length_map ..)))) ?_
     refine k_block ?_
     obtain ⟨y11, hl_x10, hk_x10⟩ := bs h
     clear h
     refine k_loop (J := fun (x : ((List Int) × Int)) => [(1, .d false [.sl none (a1.map (eF eI))]), (5, .ov false [.sl (some 26) (x2.1.map (eO 3 eI))]), (8, .ov false [.sl (some 3) (x.1.map eI)]), (13, .d false [.sl none (a0.map (eF eI))]), (14, .p (iV (a0.length : Int))), (15, .p (iV x2.2)), (22, .d false [.sl none (v6.map eI)]), (23, .p (iV (v6.length : Int))), (24, .p (iV x.2))]) hl_x10 (wk_of (by kernel_rfl) (by kernel_rfl)) (fun x10 o_x10 h hy_x10 => ?_)
     unfold spec_zeTimes_b2 at h
     refine k_sreg (r_gq [(1, .d false [.sl none (a1.map (eF eI))]), (5, .ov false [.sl (some 26) (x2.1.map (eO 3 eI))]), (8, .ov false [.sl (some 3) (x10.1.map eI)]), (13, .d false [.sl none (a0.map (eF eI))]), (14, .p (iV (a0.length : Int))), (15, .p (iV x2.2)), (22, .d false [.sl none (v6.map eI)]), (23, .p (iV (v6.length : Int))), (24, .p (iV x10.2)), (25, .p (.bool (decide (x10.2 < (v6.length : Int)))))] [] trivial) ?_
     refine k_seq ?_
     refine kc (decide (x10.2 < (v6.length : Int))) (fun hc10_11 => ?_) (fun hc10_11 => ?_)
     ·replace h := ite_t hc10_11 h
      refine k_skip ?_
      refine q_n ?_
      refine k_join (J := fun (x : (List Int)) => [(1, .d false [.sl none (a1.map (eF eI))]), (5, .ov false [.sl (some 26) (x2.1.map (eO 3 eI))]), (8, .ov false [.sl (some 3) (x.map eI)]), (13, .d false [.sl none (a0.map (eF eI))]), (14, .p (iV (a0.length : Int))), (15, .p (iV x2.2)), (22, .d false [.sl none (v6.map eI)]), (23, .p (iV (v6.length : Int))), (24, .p (iV x10.2))]) (K := fun x => spec_zeTimes_k4 x10 x = some o_x10) (fun x13 h => ?_) ?_
      ·unfold spec_zeTimes_k4 at h
       refine k_reg (r_gq [(1, .d false [.sl none (a1.map (eF eI))]), (5, .ov false [.sl (some 26) (x2.1.map (eO 3 eI))]), (8, .ov false [.sl (some 3) (x13.map eI)]), (13, .d false [.sl none (a0.map (eF eI))]), (14, .p (iV (a0.length : Int))), (15, .p (iV x2.2)), (22, .d false [.sl none (v6.map eI)]), (23, .p (iV (v6.length : Int))), (24, .p (iV (w64 (x10.2 + 1))))] [] trivial) ?_
       exact lqn (x13, (w64 (x10.2 + 1))) h
      ·refine k_block ?_
       replace h := bs h
       obtain ⟨v14, hv14, h⟩ := h
       refine k_sreg (r_gq [(1, .d false [.sl none (a1.map (eF eI))]), (5, .ov false [.sl (some 26) (x2.1.map (eO 3 eI))]), (8, .ov false [.sl (some 3) (x10.1.map eI)]), (9, .p (iV x10.2)), (10, .p (iV v14)), (13, .d false [.sl none (a0.map (eF eI))]), (14, .p (iV (a0.length : Int))), (15, .p (iV x2.2)), (22, .d false [.sl none (v6.map eI)]), (23, .p (iV (v6.length : Int))), (24, .p (iV x10.2))] [(1, {row := some (eI v14)})] (A2 (yba hv14).1 (map_get eI (yba hv14).2))) ?_
       replace h := bs h
       obtain ⟨v15, hv15, h⟩ := h
       refine k_sreg (r_gq [(1, .d false [.sl none (a1.map (eF eI))]), (5, .ov false [.sl (some 26) (x2.1.map (eO 3 eI))]), (8, .ov false [.sl (some 3) (x10.1.map eI)]), (10, .p (iV v14)), (13, .d false [.sl none (a0.map (eF eI))]), (14, .p (iV (a0.length : Int))), (15, .p (iV x2.2)), (22, .d false [.sl none (v6.map eI)]), (23, .p (iV (v6.length : Int))), (24, .p (iV x10.2)), (32, .d false [.sl none (v15.map eI)]), (33, .p (iV (v15.length : Int))), (34, .p (iV 0))] [(2, {row := some [.sl none (v15.map eI)]}), (4, {n := some v15.length})] (A3 (yba hv15).1 (map_get (eF eI) (yba hv15).2) (show (v15.map eI).length = v15.length from (List.length_map ..)))) ?_
       refine k_block ?_
       obtain ⟨y17, hl_x16, hk_x16⟩ := bs h
       clear h
       refine k_loop (J := fun (x : ((List Int) × Int)) => [(1, .d false [.sl none (a1.map (eF eI))]), (5, .ov false [.sl (some 26) (x2.1.map (eO 3 eI))]), (8, .ov false [.sl (some 3) (x.1.map eI)]), (10, .p (iV v14)), (13, .d false [.sl none (a0.map (eF eI))]), (14, .p (iV (a0.length : Int))), (15, .p (iV x2.2)), (22, .d false [.sl none (v6.map eI)]), (23, .p (iV (v6.length : Int))), (24, .p (iV x10.2)), (32, .d false [.sl none (v15.map eI)]), (33, .p (iV (v15.length : Int))), (34, .p (iV x.2))]) hl_x16 (wk_of (by kernel_rfl) (by kernel_rfl)) (fun x16 o_x16 h hy_x16 => ?_)
       unfold spec_zeTimes_b3 at h
       refine k_sreg (r_gq [(1, .d false [.sl none (a1.map (eF eI))]), (5, .ov false [.sl (some 26) (x2.1.map (eO 3 eI))]), (8, .ov false [.sl (some 3) (x16.1.map eI)]), (10, .p (iV v14)), (13, .d false [.sl none (a0.map (eF eI))]), (14, .p (iV (a0.length : Int))), (15, .p (iV x2.2)), (22, .d false [.sl none (v6.map eI)]), (23, .p (iV (v6.length : Int))), (24, .p (iV x10.2)), (32, .d false [.sl none (v15.map eI)]), (33, .p (iV (v15.length : Int))), (34, .p (iV x16.2)), (35, .p (.bool (decide (x16.2 < (v15.length : Int)))))] [] trivial) ?_
       refine k_seq ?_
       refine kc (decide (x16.2 < (v15.length : Int))) (fun hc14_17 => ?_) (fun hc14_17 => ?_)
       ·replace h := ite_t hc14_17 h
        refine k_skip ?_
        refine q_n ?_
        refine k_seq ?_
        refine k_block ?_
        replace h := bs h
        obtain ⟨v19, hv19, h⟩ := h
        refine k_sreg (r_gq [(1, .d false [.sl none (a1.map (eF eI))]), (5, .ov false [.sl (some 26) (x2.1.map (eO 3 eI))]), (8, .ov false [.sl (some 3) (x16.1.map eI)]), (10, .p (iV v14)), (11, .p (iV x16.2)), (12, .p (iV v19)), (13, .d false [.sl none (a0.map (eF eI))]), (14, .p (iV (a0.length : Int))), (15, .p (iV x2.2)), (22, .d false [.sl none (v6.map eI)]), (23, .p (iV (v6.length : Int))), (24, .p (iV x10.2)), (32, .d false [.sl none (v15.map eI)]), (33, .p (iV (v15.length : Int))), (34, .p (iV x16.2))] [(1, {row := some (eI v19)})] (A2 (yba hv19).1 (map_get eI (yba hv19).2))) ?_
        replace h := bs h
        obtain ⟨v20, hv20, h⟩ := h
        refine k_reg (r_gq [(1, .d false [.sl none (a1.map (eF eI))]), (5, .ov false [.sl (some 26) (x2.1.map (eO 3 eI))]), (8, .ov false [.sl (some 3) ((x16.1.set (Int.toNat x16.2) (w64 (v20 + (w64 (v14 * v19))))).map eI)]), (10, .p (iV v14)), (13, .d false [.sl none (a0.map (eF eI))]), (14, .p (iV (a0.length : Int))), (15, .p (iV x2.2)), (22, .d false [.sl none (v6.map eI)]), (23, .p (iV (v6.length : Int))), (24, .p (iV x10.2)), (32, .d false [.sl none (v15.map eI)]), (33, .p (iV (v15.length : Int))), (34, .p (iV x16.2))] [(2, {row := some (eI v20)}), (3, {row := some (eI v20)}), (8, {row := some (eI v20)}), (9, {row := some (eI v20), fix := some (8, .ov false [.sl (some 3) ((x16.1.set (Int.toNat x16.2) (w64 (v20 + (w64 (v14 * v19))))).map eI)])})] (B6 (yba hv20).1 (map_get eI (yba hv20).2) (show getRow [[.sl (some 3) (x16.1.map eI)]] [(0, 0), ((Int.toNat x16.2), 0)] = some (eI v20) from ((gr0 rfl).trans (gre (map_get eI (yba hv20).2)))) (yba hv20).1 (map_get eI (yba hv20).2) (show getRow [[.sl (some 3) (x16.1.map eI)]] [(0, 0), ((Int.toNat x16.2), 0)] = some (eI v20) from ((gr0 rfl).trans (gre (map_get eI (yba hv20).2)))) (A1 (show (SV.ov false [.sl (some 3) (setL (x16.1.map eI) [((Int.toNat x16.2), 0)] [rI (w64 (v20 + (w64 (v14 * v19))))])] : SV) = .ov false [.sl (some 3) ((x16.1.set (Int.toNat x16.2) (w64 (v20 + (w64 (v14 * v19))))).map eI)] from (congrArg (fun z => SV.ov false [.sl (some 3) z]) (set1 (f := eI) (y := (w64 (v20 + (w64 (v14 * v19))))) (yba hv20).2 rfl)))))) ?_
        refine b_n ?_
        refine q_n ?_
        refine k_reg (r_gq [(1, .d false [.sl none (a1.map (eF eI))]), (5, .ov false [.sl (some 26) (x2.1.map (eO 3 eI))]), (8, .ov false [.sl (some 3) ((x16.1.set (Int.toNat x16.2) (w64 (v20 + (w64 (v14 * v19))))).map eI)]), (10, .p (iV v14)), (13, .d false [.sl none (a0.map (eF eI))]), (14, .p (iV (a0.length : Int))), (15, .p (iV x2.2)), (22, .d false [.sl none (v6.map eI)]), (23, .p (iV (v6.length : Int))), (24, .p (iV x10.2)), (32, .d false [.sl none (v15.map eI)]), (33, .p (iV (v15.length : Int))), (34, .p (iV (w64 (x16.2 + 1))))] [] trivial) ?_
        exact lqn ((x16.1.set (Int.toNat x16.2) (w64 (v20 + (w64 (v14 * v19))))), (w64 (x16.2 + 1))) h
       ·replace h := ite_f hc14_17 h
        refine k_exit ?_
        refine q_x ?_
        refine lq_x ?_
        refine b_x ?_
        refine b_n ?_
        have hyy := hy_x16 _ (oi h).symm
        subst hyy
        have h := hk_x16
        refine q_n ?_
        exact jx x16.1 h
     ·replace h := ite_f hc10_11 h
      refine k_exit ?_
      refine q_x ?_
      refine lq_x ?_
      refine b_x ?_
      have hyy := hy_x10 _ (oi h).symm
      subst hyy
      have h := hk_x10
      refine q_n ?_
      exact jx x10.1 h
  ·replace h := ite_f hc5_3 h
   refine k_exit ?_
   refine q_x ?_
   refine lq_x ?_
   refine b_x ?_
   have hyy := hy_x2 _ (oi h).symm
   subst hyy
   have h := hk_x2
   refine q_n ?_
   exact jx x2.1 h
theorem wk_spec_zeTrace {a0 : (List (List Int))}  {r : Int} (h : spec_zeTrace a0 = some r) : Meets Try.prog 71 [.d false [.sl none (a0.map (eF eI))]] { vals := [.p (iV r)] } := by
 refine mo Try.func71 [(0, .d false [.sl none (a0.map (eF eI))])] ?_
 unfold spec_zeTrace at h
 refine k_sreg (r_gq [(0, .d false [.sl none (a0.map (eF eI))])] [] trivial) ?_
 refine k_sreg (r_gq [(0, .d false [.sl none (a0.map (eF eI))]), (3, .p (iV 0))] [] trivial) ?_
 refine k_join (J := fun (x : Int) => [(3, .p (iV x))]) (K := fun x => spec_zeTrace_k1 x = some r) (fun x1 h => ?_) ?_
 ·unfold spec_zeTrace_k1 at h
  refine k_sreg (r_gq [(2, .p (iV x1))] [] trivial) ?_
  refine k_ret ?_
  obtain rfl := oi h
  exact er [(.p (iV x1), 2)]
 ·refine k_sreg (r_gq [(3, .p (iV 0)), (6, .d false [.sl none (a0.map (eF eI))]), (7, .p (iV (a0.length : Int))), (8, .p (iV 0))] [(1, {n := some a0.length})] (A1 (show (a0.map (eF eI)).length = a0.length from (List.length_map ..)))) ?_
  refine k_block ?_
  obtain ⟨y3, hl_x2, hk_x2⟩ := bs h
  clear h
  refine k_loop (J := fun (x : Qr) => [(3, .p (iV x.1)), (6, .d false [.sl none (a0.map (eF eI))]), (7, .p (iV (a0.length : Int))), (8, .p (iV x.2))]) hl_x2 (wk_of (by kernel_rfl) (by kernel_rfl)) (fun x2 o_x2 h hy_x2 => ?_)
  unfold spec_zeTrace_b1 at h
  refine k_sreg (r_gq [(3, .p (iV x2.1)), (6, .d false [.sl none (a0.map (eF eI))]), (7, .p (iV (a0.length : Int))), (8, .p (iV x2.2)), (9, .p (.bool (decide (x2.2 < (a0.length : Int)))))] [] trivial) ?_
  refine k_seq ?_
  refine kc (decide (x2.2 < (a0.length : Int))) (fun hc5_3 => ?_) (fun hc5_3 => ?_)
  ·replace h := ite_t hc5_3 h
   refine k_skip ?_
   refine q_n ?_
   refine k_seq ?_
   refine k_block ?_
   replace h := bs h
   obtain ⟨v5, hv5, h⟩ := h
   refine k_sreg (r_gq [(3, .p (iV x2.1)), (4, .p (iV x2.2)), (5, .d false [.sl none (v5.map eI)]), (6, .d false [.sl none (a0.map (eF eI))]), (7, .p (iV (a0.length : Int))), (8, .p (iV x2.2))] [(1, {row := some [.sl none (v5.map eI)]})] (A2 (yba hv5).1 (map_get (eF eI) (yba hv5).2))) ?_
   replace h := bs h
   obtain ⟨v6, hv6, h⟩ := h
   refine k_reg (r_gq [(3, .p (iV (w64 (x2.1 + v6)))), (6, .d false [.sl none (a0.map (eF eI))]), (7, .p (iV (a0.length : Int))), (8, .p (iV x2.2))] [(3, {row := some (eI v6)})] (A2 (yba hv6).1 (map_get eI (yba hv6).2))) ?_
   refine b_n ?_
   refine q_n ?_
   refine k_reg (r_gq [(3, .p (iV (w64 (x2.1 + v6)))), (6, .d false [.sl none (a0.map (eF eI))]), (7, .p (iV (a0.length : Int))), (8, .p (iV (w64 (x2.2 + 1))))] [] trivial) ?_
   exact lqn ((w64 (x2.1 + v6)), (w64 (x2.2 + 1))) h
  ·replace h := ite_f hc5_3 h
   refine k_exit ?_
   refine q_x ?_
   refine lq_x ?_
   refine b_x ?_
   have hyy := hy_x2 _ (oi h).symm
   subst hyy
   have h := hk_x2
   refine q_n ?_
   exact jx x2.1 h
theorem wk_spec_zeCoefficients {a0 : (List (List Int))}  {r : (List Int)} (h : spec_zeCoefficients a0 = some r) : Meets Try.prog 67 [.d false [.sl none (a0.map (eF eI))]] { vals := [.ov false [.sl (some 3) (r.map eI)]] } := by
 refine mo Try.func67 [(0, .d false [.sl none (a0.map (eF eI))])] ?_
 unfold spec_zeCoefficients at h
 refine k_sreg (r_gq [(0, .d false [.sl none (a0.map (eF eI))])] [] trivial) ?_
 refine k_sreg (r_gq [(0, .d false [.sl none (a0.map (eF eI))]), (3, .p (iV (a0.length : Int)))] [(1, {n := some a0.length})] (A1 (show (a0.map (eF eI)).length = a0.length from (List.length_map ..)))) ?_
 replace h := bs h
 obtain ⟨u1, hu1, h⟩ := h
 refine k_sreg (r_gq [(0, .d false [.sl none (a0.map (eF eI))]), (3, .p (iV (a0.length : Int))), (4, .ov false [.sl (some 3) ((List.replicate (Int.toNat (w64 ((a0.length : Int) + 1))) (0 : Int)).map eI)])] [(2, {fix := some (13, .ov false [.sl (some 3) ((List.replicate (Int.toNat (w64 ((a0.length : Int) + 1))) (0 : Int)).map eI)])})] (A4 (show (w64 ((a0.length : Int) + 1)) = (w64 ((a0.length : Int) + 1)) from rfl) (yca hu1).1 (yca hu1).2 (show (SV.ov false [.sl (some 3) (List.replicate (Int.toNat (w64 ((a0.length : Int) + 1))) [rI 0])] : SV) = .ov false [.sl (some 3) ((List.replicate (Int.toNat (w64 ((a0.length : Int) + 1))) (0 : Int)).map eI)] from (congrArg (fun z => SV.ov false [.sl (some 3) z]) (rep_fix eI (0 : Int)))))) ?_
 replace h := bs h
 obtain ⟨v2, hv2, h⟩ := h
 refine k_sreg (r_gq [(0, .d false [.sl none (a0.map (eF eI))]), (3, .p (iV (a0.length : Int))), (4, .ov false [.sl (some 3) (((List.replicate (Int.toNat (w64 ((a0.length : Int) + 1))) (0 : Int)).set (Int.toNat (a0.length : Int)) 1).map eI)])] [(2, {row := some (eI v2)}), (3, {row := some (eI v2), fix := some (4, .ov false [.sl (some 3) (((List.replicate (Int.toNat (w64 ((a0.length : Int) + 1))) (0 : Int)).set (Int.toNat (a0.length : Int)) 1).map eI)])})] (A4 (yba hv2).1 (map_get eI (yba hv2).2) (show getRow [[.sl (some 3) ((List.replicate (Int.toNat (w64 ((a0.length : Int) + 1))) (0 : Int)).map eI)]] [(0, 0), ((Int.toNat (a0.length : Int)), 0)] = some (eI v2) from ((gr0 rfl).trans (gre (map_get eI (yba hv2).2)))) (show (SV.ov false [.sl (some 3) (setL ((List.replicate (Int.toNat (w64 ((a0.length : Int) + 1))) (0 : Int)).map eI) [((Int.toNat (a0.length : Int)), 0)] [rI 1])] : SV) = .ov false [.sl (some 3) (((List.replicate (Int.toNat (w64 ((a0.length : Int) + 1))) (0 : Int)).set (Int.toNat (a0.length : Int)) 1).map eI)] from (congrArg (fun z => SV.ov false [.sl (some 3) z]) (set1 (f := eI) (y := 1) (yba hv2).2 rfl))))) ?_
 refine k_sreg (r_gq [(0, .d false [.sl none (a0.map (eF eI))]), (3, .p (iV (a0.length : Int))), (4, .ov false [.sl (some 3) (((List.replicate (Int.toNat (w64 ((a0.length : Int) + 1))) (0 : Int)).set (Int.toNat (a0.length : Int)) 1).map eI)]), (5, .ov false [.sl (some 26) []])] [] trivial) ?_
 refine k_join (J := fun (x : (List (List Int))) => [(0, .d false [.sl none (a0.map (eF eI))]), (3, .p (iV (a0.length : Int))), (4, .ov false [.sl (some 3) (((List.replicate (Int.toNat (w64 ((a0.length : Int) + 1))) (0 : Int)).set (Int.toNat (a0.length : Int)) 1).map eI)]), (5, .ov false [.sl (some 26) (x.map (eO 3 eI))])]) (K := fun x => spec_zeCoefficients_k1 a0 x = some r) (fun x3 h => ?_) ?_
 ·unfold spec_zeCoefficients_k1 at h
  refine k_join (J := fun (x : (List Int)) => [(4, .ov false [.sl (some 3) (x.map eI)])]) (K := fun x => spec_zeCoefficients_k2 x = some r) (fun x4 h => ?_) ?_
  ·unfold spec_zeCoefficients_k2 at h
   refine k_sreg (r_gq [(2, .ov false [.sl (some 3) (x4.map eI)])] [] trivial) ?_
   refine k_ret ?_
   obtain rfl := oi h
   exact er [(.ov false [.sl (some 3) (x4.map eI)], 2)]
  ·refine k_sreg (r_gq [(0, .d false [.sl none (a0.map (eF eI))]), (3, .p (iV (a0.length : Int))), (4, .ov false [.sl (some 3) (((List.replicate (Int.toNat (w64 ((a0.length : Int) + 1))) (0 : Int)).set (Int.toNat (a0.length : Int)) 1).map eI)]), (5, .ov false [.sl (some 26) (x3.map (eO 3 eI))]), (7, .p (iV 1))] [] trivial) ?_
   refine k_block ?_
   obtain ⟨y6, hl_x5, hk_x5⟩ := bs h
   clear h
   refine k_loop (J := fun (x : ((List Int) × (List (List Int)) × Int)) => [(0, .d false [.sl none (a0.map (eF eI))]), (3, .p (iV (a0.length : Int))), (4, .ov false [.sl (some 3) (x.1.map eI)]), (5, .ov false [.sl (some 26) (x.2.1.map (eO 3 eI))]), (7, .p (iV x.2.2))]) hl_x5 (wk_of (by kernel_rfl) (by kernel_rfl)) (fun x5 o_x5 h hy_x5 => ?_)
   unfold spec_zeCoefficients_b1 at h
   refine k_seq ?_
   refine k_sreg (r_gq [(0, .d false [.sl none (a0.map (eF eI))]), (3, .p (iV (a0.length : Int))), (4, .ov false [.sl (some 3) (x5.1.map eI)]), (5, .ov false [.sl (some 26) (x5.2.1.map (eO 3 eI))]), (7, .p (iV x5.2.2)), (36, .p (.bool (decide (x5.2.2 ≤ (a0.length : Int)))))] [] trivial) ?_
   refine kc (decide (x5.2.2 ≤ (a0.length : Int))) (fun hc5_6 => ?_) (fun hc5_6 => ?_)
   ·replace h := ite_t hc5_6 h
    refine k_skip ?_
    refine q_n ?_
    refine k_join (J := fun (x : ((List Int) × (List (List Int)))) => [(0, .d false [.sl none (a0.map (eF eI))]), (3, .p (iV (a0.length : Int))), (4, .ov false [.sl (some 3) (x.1.map eI)]), (5, .ov false [.sl (some 26) (x.2.map (eO 3 eI))]), (7, .p (iV x5.2.2))]) (K := fun x => spec_zeCoefficients_k3 x5 x = some o_x5) (fun x8 h => ?_) ?_
    ·unfold spec_zeCoefficients_k3 at h
     refine k_reg (r_gq [(0, .d false [.sl none (a0.map (eF eI))]), (3, .p (iV (a0.length : Int))), (4, .ov false [.sl (some 3) (x8.1.map eI)]), (5, .ov false [.sl (some 26) (x8.2.map (eO 3 eI))]), (7, .p (iV (w64 (x5.2.2 + 1))))] [] trivial) ?_
     exact lqn (x8.1, x8.2, (w64 (x5.2.2 + 1))) h
    ·refine k_block ?_
     replace h := bs h
     obtain ⟨v9, hv9, h⟩ := h
     refine k_sreg (r_gq [(0, .d false [.sl none (a0.map (eF eI))]), (3, .p (iV (a0.length : Int))), (4, .ov false [.sl (some 3) (x5.1.map eI)]), (5, .ov false [.sl (some 26) (v9.map (eO 3 eI))]), (7, .p (iV x5.2.2))] [(2, {call := some (some [.d false [.sl none (a0.map (eF eI))], .d false [.sl none (x5.2.1.map (eF eI))]], [.ov false [.sl (some 26) (v9.map (eO 3 eI))]], true)})] (A3 (show ([.d false [.sl none (a0.map (eF eI))], .d false [.sl none (eraL (x5.2.1.map (eO 3 eI)))]] : List Arg) = [.d false [.sl none (a0.map (eF eI))], .d false [.sl none (x5.2.1.map (eF eI))]] from (by simp only [yea (h := (eF eI)) (era_O er_I)])) (wk_spec_zeTimes hv9) (show List.all [.ov false [.sl (some 26) (v9.map (eO 3 eI))]] simpleR = true from (sa_o (wnR1 (wnL_enc (wn_O wn_I)) rfl) rfl)))) ?_
     replace h := bs h
     obtain ⟨v10, hv10, h⟩ := h
     replace h := bs h
     obtain ⟨u11, hu11, h⟩ := h
     replace h := bs h
     obtain ⟨v12, hv12, h⟩ := h
     refine k_sreg (r_gq [(0, .d false [.sl none (a0.map (eF eI))]), (3, .p (iV (a0.length : Int))), (4, .ov false [.sl (some 3) ((x5.1.set (Int.toNat (w64 ((a0.length : Int) - x5.2.2))) (w64 (Int.tdiv (w64 (0 - v10)) x5.2.2))).map eI)]), (5, .ov false [.sl (some 26) (v9.map (eO 3 eI))]), (7, .p (iV x5.2.2))] [(5, {call := some (some [.d false [.sl none (v9.map (eF eI))]], [.p (iV v10)], true)}), (9, {row := some (eI v12)}), (10, {row := some (eI v12), fix := some (4, .ov false [.sl (some 3) ((x5.1.set (Int.toNat (w64 ((a0.length : Int) - x5.2.2))) (w64 (Int.tdiv (w64 (0 - v10)) x5.2.2))).map eI)])})] (B6 (show ([.d false [.sl none (eraL (v9.map (eO 3 eI)))]] : List Arg) = [.d false [.sl none (v9.map (eF eI))]] from (by simp only [yea (h := (eF eI)) (era_O er_I)])) (wk_spec_zeTrace hv10) (yca hu11) (yba hv12).1 (map_get eI (yba hv12).2) (show getRow [[.sl (some 3) (x5.1.map eI)]] [(0, 0), ((Int.toNat (w64 ((a0.length : Int) - x5.2.2))), 0)] = some (eI v12) from ((gr0 rfl).trans (gre (map_get eI (yba hv12).2)))) (A1 (show (SV.ov false [.sl (some 3) (setL (x5.1.map eI) [((Int.toNat (w64 ((a0.length : Int) - x5.2.2))), 0)] [rI (w64 (Int.tdiv (w64 (0 - v10)) x5.2.2))])] : SV) = .ov false [.sl (some 3) ((x5.1.set (Int.toNat (w64 ((a0.length : Int) - x5.2.2))) (w64 (Int.tdiv (w64 (0 - v10)) x5.2.2))).map eI)] from (congrArg (fun z => SV.ov false [.sl (some 3) z]) (set1 (f := eI) (y := (w64 (Int.tdiv (w64 (0 - v10)) x5.2.2))) (yba hv12).2 rfl)))))) ?_
     refine k_sreg (r_gq [(0, .d false [.sl none (a0.map (eF eI))]), (3, .p (iV (a0.length : Int))), (4, .ov false [.sl (some 3) ((x5.1.set (Int.toNat (w64 ((a0.length : Int) - x5.2.2))) (w64 (Int.tdiv (w64 (0 - v10)) x5.2.2))).map eI)]), (5, .ov false [.sl (some 26) (v9.map (eO 3 eI))]), (7, .p (iV x5.2.2)), (53, .p (iV (v9.length : Int))), (54, .p (iV 0))] [(1, {n := some v9.length})] (A1 (show (v9.map (eO 3 eI)).length = v9.length from (List.length_map ..)))) ?_
     refine k_block ?_
     obtain ⟨y14, hl_x13, hk_x13⟩ := bs h
     clear h
     refine k_loop (J := fun (x : ((List (List Int)) × Int)) => [(0, .d false [.sl none (a0.map (eF eI))]), (3, .p (iV (a0.length : Int))), (4, .ov false [.sl (some 3) ((x5.1.set (Int.toNat (w64 ((a0.length : Int) - x5.2.2))) (w64 (Int.tdiv (w64 (0 - v10)) x5.2.2))).map eI)]), (5, .ov false [.sl (some 26) (x.1.map (eO 3 eI))]), (7, .p (iV x5.2.2)), (53, .p (iV (v9.length : Int))), (54, .p (iV x.2))]) hl_x13 (wk_of (by kernel_rfl) (by kernel_rfl)) (fun x13 o_x13 h hy_x13 => ?_)
     unfold spec_zeCoefficients_b2 at h
     refine k_sreg (r_gq [(0, .d false [.sl none (a0.map (eF eI))]), (3, .p (iV (a0.length : Int))), (4, .ov false [.sl (some 3) ((x5.1.set (Int.toNat (w64 ((a0.length : Int) - x5.2.2))) (w64 (Int.tdiv (w64 (0 - v10)) x5.2.2))).map eI)]), (5, .ov false [.sl (some 26) (x13.1.map (eO 3 eI))]), (7, .p (iV x5.2.2)), (53, .p (iV (v9.length : Int))), (54, .p (iV x13.2)), (55, .p (.bool (decide (x13.2 < (v9.length : Int)))))] [] trivial) ?_
     refine k_seq ?_
     refine kc (decide (x13.2 < (v9.length : Int))) (fun hc9_14 => ?_) (fun hc9_14 => ?_)
     ·replace h := ite_t hc9_14 h
      refine k_skip ?_
      refine q_n ?_
      refine k_seq ?_
      refine k_block ?_
      refine k_sreg (r_gq [(0, .d false [.sl none (a0.map (eF eI))]), (3, .p (iV (a0.length : Int))), (4, .ov false [.sl (some 3) ((x5.1.set (Int.toNat (w64 ((a0.length : Int) - x5.2.2))) (w64 (Int.tdiv (w64 (0 - v10)) x5.2.2))).map eI)]), (5, .ov false [.sl (some 26) (x13.1.map (eO 3 eI))]), (7, .p (iV x5.2.2)), (8, .p (iV x13.2)), (53, .p (iV (v9.length : Int))), (54, .p (iV x13.2))] [] trivial) ?_
      replace h := bs h
      obtain ⟨v16, hv16, h⟩ := h
      replace h := bs h
      obtain ⟨v17, hv17, h⟩ := h
      replace h := bs h
      obtain ⟨v18, hv18, h⟩ := h
      refine k_reg (r_dq Try_mixed 13 [] [(0, .d false [.sl none (a0.map (eF eI))]), (3, .p (iV (a0.length : Int))), (4, .ov false [.sl (some 3) ((x5.1.set (Int.toNat (w64 ((a0.length : Int) - x5.2.2))) (w64 (Int.tdiv (w64 (0 - v10)) x5.2.2))).map eI)]), (5, .ov false [.sl (some 26) ((x13.1.set (Int.toNat x13.2) (v16.set (Int.toNat x13.2) (w64 (v17 + v18)))).map (eO 3 eI))]), (7, .p (iV x5.2.2)), (53, .p (iV (v9.length : Int))), (54, .p (iV x13.2))] [(2, {row := some [.sl (some 3) (v16.map eI)]}), (3, {row := some [.sl (some 3) (v16.map eI)]}), (5, {deep := some [.sl (some 3) (v16.map eI)], row := some (eI v17)}), (6, {row := some (eI v17)}), (11, {row := some (eI v18)}), (12, {row := some (eI v18)}), (14, {deep := some [.sl (some 3) (v16.map eI)], row := some (eI v17)}), (15, {row := some (eI v17), fix := some (5, .ov false [.sl (some 26) ((x13.1.set (Int.toNat x13.2) (v16.set (Int.toNat x13.2) (w64 (v17 + v18)))).map (eO 3 eI))])})] (B6 (yba hv16).1 (map_get (eO 3 eI) (yba hv16).2) (show frR [.sl (some 3) (v16.map eI)] = false from rfl) (show getRow [[.sl (some 26) (x13.1.map (eO 3 eI))]] [(0, 0), ((Int.toNat x13.2), 0)] = some [.sl (some 3) (v16.map eI)] from ((gr0 rfl).trans (gre (map_get (eO 3 eI) (yba hv16).2)))) (yba hv17).1 (map_get eI (yba hv17).2) (B6 (show getRow [[.sl (some 26) (x13.1.map (eO 3 eI))]] [(0, 0), ((Int.toNat x13.2), 0)] = some [.sl (some 3) (v16.map eI)] from ((gr0 rfl).trans (gre (map_get (eO 3 eI) (yba hv16).2)))) (show getRow [[.sl (some 26) (x13.1.map (eO 3 eI))]] [(0, 0), ((Int.toNat x13.2), 0), ((Int.toNat x13.2), 0)] = some (eI v17) from ((gr0 rfl).trans ((grs (map_get (eO 3 eI) (yba hv16).2) rfl).trans (gre (map_get eI (yba hv17).2))))) (yba hv18).1 (map_get eI (yba hv18).2) (show getRow [[.sl (some 3) ((x5.1.set (Int.toNat (w64 ((a0.length : Int) - x5.2.2))) (w64 (Int.tdiv (w64 (0 - v10)) x5.2.2))).map eI)]] [(0, 0), ((Int.toNat (w64 ((a0.length : Int) - x5.2.2))), 0)] = some (eI v18) from ((gr0 rfl).trans (gre (map_get eI (yba hv18).2)))) (yba hv17).1 (A4 (map_get eI (yba hv17).2) (show getRow [[.sl (some 26) (x13.1.map (eO 3 eI))]] [(0, 0), ((Int.toNat x13.2), 0)] = some [.sl (some 3) (v16.map eI)] from ((gr0 rfl).trans (gre (map_get (eO 3 eI) (yba hv16).2)))) (show getRow [[.sl (some 26) (x13.1.map (eO 3 eI))]] [(0, 0), ((Int.toNat x13.2), 0), ((Int.toNat x13.2), 0)] = some (eI v17) from ((gr0 rfl).trans ((grs (map_get (eO 3 eI) (yba hv16).2) rfl).trans (gre (map_get eI (yba hv17).2))))) (show (SV.ov false [.sl (some 26) (setL (x13.1.map (eO 3 eI)) [((Int.toNat x13.2), 0), ((Int.toNat x13.2), 0)] [rI (w64 (v17 + v18))])] : SV) = .ov false [.sl (some 26) ((x13.1.set (Int.toNat x13.2) (v16.set (Int.toNat x13.2) (w64 (v17 + v18)))).map (eO 3 eI))] from (congrArg (fun z => SV.ov false [.sl (some 26) z]) (set2 (f := (eO 3 eI)) (y := (v16.set (Int.toNat x13.2) (w64 (v17 + v18)))) (yba hv16).2 rfl (set1 (f := eI) (y := (w64 (v17 + v18))) (yba hv17).2 rfl) rfl))))))) ?_
      refine b_n ?_
      refine q_n ?_
      refine k_reg (r_gq [(0, .d false [.sl none (a0.map (eF eI))]), (3, .p (iV (a0.length : Int))), (4, .ov false [.sl (some 3) ((x5.1.set (Int.toNat (w64 ((a0.length : Int) - x5.2.2))) (w64 (Int.tdiv (w64 (0 - v10)) x5.2.2))).map eI)]), (5, .ov false [.sl (some 26) ((x13.1.set (Int.toNat x13.2) (v16.set (Int.toNat x13.2) (w64 (v17 + v18)))).map (eO 3 eI))]), (7, .p (iV x5.2.2)), (53, .p (iV (v9.length : Int))), (54, .p (iV (w64 (x13.2 + 1))))] [] trivial) ?_
      exact lqn ((x13.1.set (Int.toNat x13.2) (v16.set (Int.toNat x13.2) (w64 (v17 + v18)))), (w64 (x13.2 + 1))) h
     ·replace h := ite_f hc9_14 h
      refine k_exit ?_
      refine q_x ?_
      refine lq_x ?_
      refine b_x ?_
      refine b_n ?_
      have hyy := hy_x13 _ (oi h).symm
      subst hyy
      have h := hk_x13
      refine q_n ?_
      exact jx ((x5.1.set (Int.toNat (w64 ((a0.length : Int) - x5.2.2))) (w64 (Int.tdiv (w64 (0 - v10)) x5.2.2))), x13.1) h
   ·replace h := ite_f hc5_6 h
    refine k_exit ?_
    refine q_x ?_
    refine lq_x ?_
    refine b_x ?_
    have hyy := hy_x5 _ (oi h).symm
    subst hyy
    have h := hk_x5
    refine q_n ?_
    exact jx x5.1 h
 ·refine k_sreg (r_gq [(0, .d false [.sl none (a0.map (eF eI))]), (3, .p (iV (a0.length : Int))), (4, .ov false [.sl (some 3) (((List.replicate (Int.toNat (w64 ((a0.length : Int) + 1))) (0 : Int)).set (Int.toNat (a0.length : Int)) 1).map eI)]), (5, .ov false [.sl (some 26) []]), (18, .p (iV (a0.length : Int))), (19, .p (iV 0))] [(1, {n := some a0.length})] (A1 (show (a0.map (eF eI)).length = a0.length from (List.length_map ..)))) ?_
  refine k_block ?_
  obtain ⟨y20, hl_x19, hk_x19⟩ := bs h
  clear h
  refine k_loop (J := fun (x : ((List (List Int)) × Int)) => [(0, .d false [.sl none (a0.map (eF eI))]), (3, .p (iV (a0.length : Int))), (4, .ov false [.sl (some 3) (((List.replicate (Int.toNat (w64 ((a0.length : Int) + 1))) (0 : Int)).set (Int.toNat (a0.length : Int)) 1).map eI)]), (5, .ov false [.sl (some 26) (x.1.map (eO 3 eI))]), (18, .p (iV (a0.length : Int))), (19, .p (iV x.2))]) hl_x19 (wk_of (by kernel_rfl) (by kernel_rfl)) (fun x19 o_x19 h hy_x19 => ?_)
  unfold spec_zeCoefficients_b3 at h
  refine k_sreg (r_gq [(0, .d false [.sl none (a0.map (eF eI))]), (3, .p (iV (a0.length : Int))), (4, .ov false [.sl (some 3) (((List.replicate (Int.toNat (w64 ((a0.length : Int) + 1))) (0 : Int)).set (Int.toNat (a0.length : Int)) 1).map eI)]), (5, .ov false [.sl (some 26) (x19.1.map (eO 3 eI))]), (18, .p (iV (a0.length : Int))), (19, .p (iV x19.2)), (20, .p (.bool (decide (x19.2 < (a0.length : Int)))))] [] trivial) ?_
  refine k_seq ?_
  refine kc (decide (x19.2 < (a0.length : Int))) (fun hc5_20 => ?_) (fun hc5_20 => ?_)
  ·replace h := ite_t hc5_20 h
   refine k_skip ?_
   refine q_n ?_
   refine k_seq ?_
   refine k_block ?_
   refine k_sreg (r_gq [(0, .d false [.sl none (a0.map (eF eI))]), (3, .p (iV (a0.length : Int))), (4, .ov false [.sl (some 3) (((List.replicate (Int.toNat (w64 ((a0.length : Int) + 1))) (0 : Int)).set (Int.toNat (a0.length : Int)) 1).map eI)]), (5, .ov false [.sl (some 26) (x19.1.map (eO 3 eI))]), (6, .p (iV x19.2)), (18, .p (iV (a0.length : Int))), (19, .p (iV x19.2))] [] trivial) ?_
   replace h := bs h
   obtain ⟨u22, hu22, h⟩ := h
   replace h := bs h
   obtain ⟨u23, hu23, h⟩ := h
   refine k_sreg (r_gq [(0, .d false [.sl none (a0.map (eF eI))]), (3, .p (iV (a0.length : Int))), (4, .ov false [.sl (some 3) (((List.replicate (Int.toNat (w64 ((a0.length : Int) + 1))) (0 : Int)).set (Int.toNat (a0.length : Int)) 1).map eI)]), (5, .ov false [.sl (some 26) ((x19.1 ++ [(List.replicate (Int.toNat (a0.length : Int)) (0 : Int))]).map (eO 3 eI))]), (6, .p (iV x19.2)), (18, .p (iV (a0.length : Int))), (19, .p (iV x19.2))] [(2, {fix := some (24, .ov false [.sl (some 3) ((List.replicate (Int.toNat (a0.length : Int)) (0 : Int)).map eI)])}), (4, {fix := some (26, .ov false [.sl (some 26) ((x19.1 ++ [(List.replicate (Int.toNat (a0.length : Int)) (0 : Int))]).map (eO 3 eI))])})] (B6 (show (a0.length : Int) = (a0.length : Int) from rfl) (yca hu22).1 (yca hu22).2 (show (SV.ov false [.sl (some 3) (List.replicate (Int.toNat (a0.length : Int)) [rI 0])] : SV) = .ov false [.sl (some 3) ((List.replicate (Int.toNat (a0.length : Int)) (0 : Int)).map eI)] from (congrArg (fun z => SV.ov false [.sl (some 3) z]) (rep_fix eI (0 : Int)))) (show List.length ((x19.1.map (eO 3 eI)) : List (List C)) + List.length ((([(List.replicate (Int.toNat (a0.length : Int)) (0 : Int))]).map (eO 3 eI)) : List (List C)) ≤ 1099511627776 from (by have hg := (yca hu23); simpa using hg)) (show ∀ row ∈ ((([(List.replicate (Int.toNat (a0.length : Int)) (0 : Int))]).map (eO 3 eI)) : List (List C)), row.length = 1 from (yua fun _ => rfl)) (A1 (show (SV.ov false [.sl (some 26) ((x19.1.map (eO 3 eI)) ++ (([(List.replicate (Int.toNat (a0.length : Int)) (0 : Int))]).map (eO 3 eI)))] : SV) = .ov false [.sl (some 26) ((x19.1 ++ [(List.replicate (Int.toNat (a0.length : Int)) (0 : Int))]).map (eO 3 eI))] from (congrArg (fun z => SV.ov false [.sl (some 26) z]) (List.map_append ..).symm))))) ?_
   replace h := bs h
   obtain ⟨v24, hv24, h⟩ := h
   replace h := bs h
   obtain ⟨v25, hv25, h⟩ := h
   refine k_reg (r_gq [(0, .d false [.sl none (a0.map (eF eI))]), (3, .p (iV (a0.length : Int))), (4, .ov false [.sl (some 3) (((List.replicate (Int.toNat (w64 ((a0.length : Int) + 1))) (0 : Int)).set (Int.toNat (a0.length : Int)) 1).map eI)]), (5, .ov false [.sl (some 26) (((x19.1 ++ [(List.replicate (Int.toNat (a0.length : Int)) (0 : Int))]).set (Int.toNat x19.2) (v24.set (Int.toNat x19.2) 1)).map (eO 3 eI))]), (18, .p (iV (a0.length : Int))), (19, .p (iV x19.2))] [(2, {row := some [.sl (some 3) (v24.map eI)]}), (3, {row := some [.sl (some 3) (v24.map eI)]}), (5, {deep := some [.sl (some 3) (v24.map eI)], row := some (eI v25)}), (6, {row := some (eI v25), fix := some (5, .ov false [.sl (some 26) (((x19.1 ++ [(List.replicate (Int.toNat (a0.length : Int)) (0 : Int))]).set (Int.toNat x19.2) (v24.set (Int.toNat x19.2) 1)).map (eO 3 eI))])})] (B6 (yba hv24).1 (map_get (eO 3 eI) (yba hv24).2) (show frR [.sl (some 3) (v24.map eI)] = false from rfl) (show getRow [[.sl (some 26) ((x19.1 ++ [(List.replicate (Int.toNat (a0.length : Int)) (0 : Int))]).map (eO 3 eI))]] [(0, 0), ((Int.toNat x19.2), 0)] = some [.sl (some 3) (v24.map eI)] from ((gr0 rfl).trans (gre (map_get (eO 3 eI) (yba hv24).2)))) (yba hv25).1 (map_get eI (yba hv25).2) (A3 (show getRow [[.sl (some 26) ((x19.1 ++ [(List.replicate (Int.toNat (a0.length : Int)) (0 : Int))]).map (eO 3 eI))]] [(0, 0), ((Int.toNat x19.2), 0)] = some [.sl (some 3) (v24.map eI)] from ((gr0 rfl).trans (gre (map_get (eO 3 eI) (yba hv24).2)))) (show getRow [[.sl (some 26) ((x19.1 ++ [(List.replicate (Int.toNat (a0.length : Int)) (0 : Int))]).map (eO 3 eI))]] [(0, 0), ((Int.toNat x19.2), 0), ((Int.toNat x19.2), 0)] = some (eI v25) from ((gr0 rfl).trans ((grs (map_get (eO 3 eI) (yba hv24).2) rfl).trans (gre (map_get eI (yba hv25).2))))) (show (SV.ov false [.sl (some 26) (setL ((x19.1 ++ [(List.replicate (Int.toNat (a0.length : Int)) (0 : Int))]).map (eO 3 eI)) [((Int.toNat x19.2), 0), ((Int.toNat x19.2), 0)] [rI 1])] : SV) = .ov false [.sl (some 26) (((x19.1 ++ [(List.replicate (Int.toNat (a0.length : Int)) (0 : Int))]).set (Int.toNat x19.2) (v24.set (Int.toNat x19.2) 1)).map (eO 3 eI))] from (congrArg (fun z => SV.ov false [.sl (some 26) z]) (set2 (f := (eO 3 eI)) (y := (v24.set (Int.toNat x19.2) 1)) (yba hv24).2 rfl (set1 (f := eI) (y := 1) (yba hv25).2 rfl) rfl)))))) ?_
   refine b_n ?_
   refine q_n ?_
   refine k_reg (r_gq [(0, .d false [.sl none (a0.map (eF eI))]), (3, .p (iV (a0.length : Int))), (4, .ov false [.sl (some 3) (((List.replicate (Int.toNat (w64 ((a0.length : Int) + 1))) (0 : Int)).set (Int.toNat (a0.length : Int)) 1).map eI)]), (5, .ov false [.sl (some 26) (((x19.1 ++ [(List.replicate (Int.toNat (a0.length : Int)) (0 : Int))]).set (Int.toNat x19.2) (v24.set (Int.toNat x19.2) 1)).map (eO 3 eI))]), (18, .p (iV (a0.length : Int))), (19, .p (iV (w64 (x19.2 + 1))))] [] trivial) ?_
   exact lqn (((x19.1 ++ [(List.replicate (Int.toNat (a0.length : Int)) (0 : Int))]).set (Int.toNat x19.2) (v24.set (Int.toNat x19.2) 1)), (w64 (x19.2 + 1))) h
  ·replace h := ite_f hc5_20 h
   refine k_exit ?_
   refine q_x ?_
   refine lq_x ?_
   refine b_x ?_
   have hyy := hy_x19 _ (oi h).symm
   subst hyy
   have h := hk_x19
   refine q_n ?_
   exact jx x19.1 h
theorem wk_spec_l1Own {a0 : (List Int)}  {r : (List Int)} (h : spec_l1Own a0 = some r) : Meets Try.prog 153 [.d false [.sl none (a0.map eI)]] { vals := [.ov false [.sl (some 3) (r.map eI)]] } := by
 refine mo Try.func153 [(0, .d false [.sl none (a0.map eI)])] ?_
 unfold spec_l1Own at h
 refine k_sreg (r_gq [(0, .d false [.sl none (a0.map eI)])] [] trivial) ?_
 replace h := bs h
 obtain ⟨u1, hu1, h⟩ := h
 refine k_sreg (r_gq [(2, .ov false [.sl (some 3) (a0.map eI)])] [] (A2 (show List.length ([] : List (List C)) + List.length ((a0.map eI) : List (List C)) ≤ 1099511627776 from (by have hg := (yca hu1); simpa using hg)) (show ∀ row ∈ ((a0.map eI) : List (List C)), row.length = 1 from (yua fun _ => rfl)))) ?_
 refine k_ret ?_
 obtain rfl := oi h
 exact er [(.ov false [.sl (some 3) (a0.map eI)], 2)]
theorem wk_spec_poTrim {a0 : (List Int)}  {r : (List Int)} (h : spec_poTrim a0 = some r) : Meets Try.prog 127 [.d false [.sl none (a0.map eI)]] { vals := [.ov false [.sl (some 3) (r.map eI)]] } := by
 refine mo Try.func127 [(0, .d false [.sl none (a0.map eI)])] ?_
 unfold spec_poTrim at h
 refine k_sreg (r_gq [(0, .d false [.sl none (a0.map eI)])] [] trivial) ?_
 refine k_join (J := fun (x : (List Int)) => [(0, .d false [.sl none (x.map eI)])]) (K := fun x => spec_poTrim_k1 x = some r) (fun x1 h => ?_) ?_
 ·unfold spec_poTrim_k1 at h
  replace h := bs h
  obtain ⟨v2, hv2, h⟩ := h
  refine k_sreg (r_gq [(2, .ov false [.sl (some 3) (v2.map eI)])] [(1, {call := some (none, [.ov false [.sl (some 3) (v2.map eI)]], true)})] (A2 (wk_spec_l1Own hv2) (show List.all [.ov false [.sl (some 3) (v2.map eI)]] simpleR = true from (sa_o (wnR1 (wnL_enc wn_I) rfl) rfl)))) ?_
  refine k_ret ?_
  obtain rfl := oi h
  exact er [(.ov false [.sl (some 3) (v2.map eI)], 2)]
 ·refine k_block ?_
  obtain ⟨y4, hl_x3, hk_x3⟩ := bs h
  clear h
  refine k_loop (J := fun (x : (List Int)) => [(0, .d false [.sl none (x.map eI)])]) hl_x3 (wk_of (by kernel_rfl) (by kernel_rfl)) (fun x3 o_x3 h hy_x3 => ?_)
  unfold spec_poTrim_b1 at h
  refine k_seq ?_
  replace h := bs h
  obtain ⟨w6, hw6, h⟩ := h
  refine k_sreg (l1 := [(0, .d false [.sl none (x3.map eI)]), (14, .p (.bool w6))]) ?_ ?_
  ·clear h
   rcases ft (decide ((x3.length : Int) > 0)) with ha0 | ha0
   ·replace hw6 := ite_t ha0 hw6
    replace hw6 := bs hw6
    obtain ⟨v5, hv5, hw6⟩ := hw6
    have hw6 := oi hw6
    subst hw6
    exact (r_gq [(0, .d false [.sl none (x3.map eI)]), (14, .p (.bool (v5 == 0)))] [(1, {n := some x3.length}), (4, gT), (5, gT), (6, {g := some true, n := some x3.length}), (7, gT), (8, {g := some true, row := some (eI v5)}), (9, gT), (10, gT), (11, bT)] (B6 (show (x3.map eI).length = x3.length from (List.length_map ..)) ha0 ha0 ha0 (show (x3.map eI).length = x3.length from (List.length_map ..)) ha0 (A6 ha0 (yba hv5).1 (map_get eI (yba hv5).2) ha0 ha0 ha0)))
   ·replace hw6 := ite_f ha0 hw6
    have hw6 := oi hw6
    subst hw6
    exact (r_gq [(0, .d false [.sl none (x3.map eI)]), (14, .p (.bool false))] [(1, {n := some x3.length}), (4, gF), (5, gF), (6, gF), (7, gF), (8, gF), (9, gF), (10, gF), (11, bF)] (B6 (show (x3.map eI).length = x3.length from (List.length_map ..)) ha0 ha0 ha0 ha0 ha0 (A3 ha0 ha0 ha0)))
  ·refine kc w6 (fun hc5_6 => ?_) (fun hc5_6 => ?_)
   ·replace h := ite_t hc5_6 h
    refine k_skip ?_
    refine q_n ?_
    refine k_block ?_
    replace h := bs h
    obtain ⟨u8, hu8, h⟩ := h
    refine k_reg (r_gq [(0, .d false [.sl none ((x3.take (Int.toNat (w64 ((x3.length : Int) - 1)))).map eI)])] [(2, {n := some x3.length}), (4, {fix := some (19, .d false [.sl none ((x3.take (Int.toNat (w64 ((x3.length : Int) - 1)))).map eI)])})] (A6 (show (x3.map eI).length = x3.length from (List.length_map ..)) (show 0 ≤ (Int.toNat (w64 ((x3.length : Int) - 1))) from (by have hg := (yca hu8); first | (simp only [List.length_map]; omega) | omega)) (show (Int.toNat (w64 ((x3.length : Int) - 1))) ≤ (x3.map eI).length from (by have hg := (yca hu8); first | (simp only [List.length_map]; omega) | omega)) (show ∀ row ∈ (x3.map eI), row.length = 1 from (yua fun _ => rfl)) (show (0 : Int) ≤ (w64 ((x3.length : Int) - 1)) from (by have hg := (yca hu8); omega)) (show (SV.d false [.sl none (((x3.map eI).take (Int.toNat (w64 ((x3.length : Int) - 1)))).drop 0)] : SV) = .d false [.sl none ((x3.take (Int.toNat (w64 ((x3.length : Int) - 1)))).map eI)] from (congrArg (fun z => SV.d false [.sl none z]) sl_hi)))) ?_
    refine b_n ?_
    exact lqn (x3.take (Int.toNat (w64 ((x3.length : Int) - 1)))) h
   ·replace h := ite_f hc5_6 h
    refine k_exit ?_
    refine q_x ?_
    refine lq_x ?_
    refine b_x ?_
    have hyy := hy_x3 _ (oi h).symm
    subst hyy
    have h := hk_x3
    refine q_n ?_
    exact jx x3 h
theorem wk_spec_poGood {a0 : (List Int)}  {r : Bool} (h : spec_poGood a0 = some r) : Meets Try.prog 75 [.d false [.sl none (a0.map eI)]] { vals := [.p (.bool r)] } := by
 refine mo Try.func75 [(0, .d false [.sl none (a0.map eI)])] ?_
 unfold spec_poGood at h
 refine k_sreg (r_gq [(0, .d false [.sl none (a0.map eI)])] [] trivial) ?_
 refine k_seq ?_
 replace h := bs h
 obtain ⟨w2, hw2, h⟩ := h
 refine k_sreg (l1 := [(0, .d false [.sl none (a0.map eI)]), (10, .p (.bool w2))]) ?_ ?_
 ·clear h
  rcases ft (decide ((a0.length : Int) > 9)) with ha0 | ha0
  ·replace hw2 := ite_t ha0 hw2
   have hw2 := oi hw2
   subst hw2
   exact (r_gq [(0, .d false [.sl none (a0.map eI)]), (10, .p (.bool true))] [(1, {n := some a0.length}), (4, gT), (5, gT), (6, gT), (7, bT)] (A5 (show (a0.map eI).length = a0.length from (List.length_map ..)) ha0 ha0 ha0 ha0))
  ·replace hw2 := ite_f ha0 hw2
   replace hw2 := bs hw2
   obtain ⟨v1, hv1, hw2⟩ := hw2
   have hw2 := oi hw2
   subst hw2
   exact (r_gq [(0, .d false [.sl none (a0.map eI)]), (10, .p (.bool (!v1)))] [(1, {n := some a0.length}), (4, gF), (5, {g := some false, call := some (none, [.p (.bool v1)], true)}), (6, gF), (7, bF)] (A6 (show (a0.map eI).length = a0.length from (List.length_map ..)) ha0 ha0 (wk_spec_l1All hv1) ha0 ha0))
 ·refine kc w2 (fun hc2_2 => ?_) (fun hc2_2 => ?_)
  ·replace h := ite_t hc2_2 h
   refine k_sreg (r_gq [(2, .p (.bool false))] [] trivial) ?_
   refine k_ret ?_
   refine q_r ?_
   obtain rfl := oi h
   exact er [(.p (.bool false), 2)]
  ·replace h := ite_f hc2_2 h
   refine k_skip ?_
   refine q_n ?_
   replace h := bs h
   obtain ⟨w5, hw5, h⟩ := h
   refine k_sreg (l1 := [(2, .p (.bool w5))]) ?_ ?_
   ·clear h
    rcases ft ((a0.length : Int) == 0) with ha1 | ha1
    ·replace hw5 := ite_t ha1 hw5
     have hw5 := oi hw5
     subst hw5
     exact (r_gq [(2, .p (.bool true))] [(1, {n := some a0.length}), (4, gT), (5, gT), (6, gT), (7, gT), (8, gT), (9, gT), (10, gT), (11, bT)] (B6 (show (a0.map eI).length = a0.length from (List.length_map ..)) ha1 ha1 ha1 ha1 ha1 (A3 ha1 ha1 ha1)))
    ·replace hw5 := ite_f ha1 hw5
     replace hw5 := bs hw5
     obtain ⟨v4, hv4, hw5⟩ := hw5
     have hw5 := oi hw5
     subst hw5
     exact (r_gq [(2, .p (.bool (v4 != 0)))] [(1, {n := some a0.length}), (4, gF), (5, gF), (6, {g := some false, n := some a0.length}), (7, gF), (8, {g := some false, row := some (eI v4)}), (9, gF), (10, gF), (11, bF)] (B6 (show (a0.map eI).length = a0.length from (List.length_map ..)) ha1 ha1 ha1 (show (a0.map eI).length = a0.length from (List.length_map ..)) ha1 (A6 ha1 (yba hv4).1 (map_get eI (yba hv4).2) ha1 ha1 ha1)))
   ·refine k_ret ?_
    obtain rfl := oi h
    exact er [(.p (.bool w5), 2)]
theorem wk_spec_poIf {a0 : (List Int)}  {r : ((List Int) × Bool)} (h : spec_poIf a0 = some r) : Meets Try.prog 66 [.d false [.sl none (a0.map eI)]] { vals := [.ov false [.sl (some 3) (r.1.map eI)], .p (.bool r.2)] } := by
 refine mo Try.func66 [(0, .d false [.sl none (a0.map eI)])] ?_
 unfold spec_poIf at h
 refine k_sreg (r_gq [(0, .d false [.sl none (a0.map eI)])] [] trivial) ?_
 replace h := bs h
 obtain ⟨v1, hv1, h⟩ := h
 refine k_sreg (r_gq [(0, .ov false [.sl (some 3) (v1.map eI)])] [(1, {call := some (none, [.ov false [.sl (some 3) (v1.map eI)]], true)})] (A2 (wk_spec_poTrim hv1) (show List.all [.ov false [.sl (some 3) (v1.map eI)]] simpleR = true from (sa_o (wnR1 (wnL_enc wn_I) rfl) rfl)))) ?_
 refine k_seq ?_
 replace h := bs h
 obtain ⟨v2, hv2, h⟩ := h
 refine k_sreg (r_gq [(0, .ov false [.sl (some 3) (v1.map eI)]), (8, .p (.bool (!v2)))] [(1, {call := some (some [.d false [.sl none (v1.map eI)]], [.p (.bool v2)], true)})] (A2 (show ([.d false [.sl none (eraL (v1.map eI))]] : List Arg) = [.d false [.sl none (v1.map eI)]] from (by simp only [yea (h := eI) er_I])) (wk_spec_poGood hv2))) ?_
 refine kc (!v2) (fun hc2_2 => ?_) (fun hc2_2 => ?_)
 ·replace h := ite_t hc2_2 h
  refine k_sreg (r_gq [(2, .ov false [.sl (some 3) []]), (3, .p (.bool false))] [] trivial) ?_
  refine k_ret ?_
  refine q_r ?_
  obtain rfl := oi h
  exact er [(.ov false [.sl (some 3) []], 2), (.p (.bool false), 3)]
 ·replace h := ite_f hc2_2 h
  refine k_skip ?_
  refine q_n ?_
  refine k_sreg (r_gq [(2, .ov false [.sl (some 3) (v1.map eI)]), (3, .p (.bool true))] [] trivial) ?_
  refine k_ret ?_
  obtain rfl := oi h
  exact er [(.ov false [.sl (some 3) (v1.map eI)], 2), (.p (.bool true), 3)]
theorem wk_spec_CharacteristicOf {a0 : (List (List Int))}  {r : ((List Int) × Bool)} (h : spec_CharacteristicOf a0 = some r) : Meets Try.prog 9 [.d false [.sl none (a0.map (eF eI))]] { vals := [.ov false [.sl (some 3) (r.1.map eI)], .p (.bool r.2)] } := by
 refine mo Try.func9 [(0, .d false [.sl none (a0.map (eF eI))])] ?_
 unfold spec_CharacteristicOf at h
 refine k_sreg (r_gq [(0, .d false [.sl none (a0.map (eF eI))])] [] trivial) ?_
 refine k_seq ?_
 replace h := bs h
 obtain ⟨v1, hv1, h⟩ := h
 refine k_sreg (r_gq [(0, .d false [.sl none (a0.map (eF eI))]), (6, .p (.bool (!v1)))] [(1, {call := some (none, [.p (.bool v1)], true)})] (A1 (wk_spec_grGood hv1))) ?_
 refine kc (!v1) (fun hc2_1 => ?_) (fun hc2_1 => ?_)
 ·replace h := ite_t hc2_1 h
  refine k_sreg (r_gq [(2, .ov false [.sl (some 3) []]), (3, .p (.bool false))] [] trivial) ?_
  refine k_ret ?_
  refine q_r ?_
  obtain rfl := oi h
  exact er [(.ov false [.sl (some 3) []], 2), (.p (.bool false), 3)]
 ·replace h := ite_f hc2_1 h
  refine k_skip ?_
  refine q_n ?_
  replace h := bs h
  obtain ⟨v3, hv3, h⟩ := h
  replace h := bs h
  obtain ⟨v4, hv4, h⟩ := h
  refine k_sreg (r_gq [(2, .ov false [.sl (some 3) (v4.1.map eI)]), (3, .p (.bool v4.2))] [(1, {call := some (none, [.ov false [.sl (some 3) (v3.map eI)]], true)}), (2, {call := some (some [.d false [.sl none (v3.map eI)]], [.ov false [.sl (some 3) (v4.1.map eI)], .p (.bool v4.2)], true)})] (A5 (wk_spec_zeCoefficients hv3) (show List.all [.ov false [.sl (some 3) (v3.map eI)]] simpleR = true from (sa_o (wnR1 (wnL_enc wn_I) rfl) rfl)) (show ([.d false [.sl none (eraL (v3.map eI))]] : List Arg) = [.d false [.sl none (v3.map eI)]] from (by simp only [yea (h := eI) er_I])) (wk_spec_poIf hv4) (show List.all [.ov false [.sl (some 3) (v4.1.map eI)], .p (.bool v4.2)] simpleR = true from (sa_o (wnR1 (wnL_enc wn_I) rfl) (sa_p rfl))))) ?_
  refine k_ret ?_
  obtain rfl := oi h
  exact er [(.ov false [.sl (some 3) (v4.1.map eI)], 2), (.p (.bool v4.2), 3)]
theorem wk_slices_Reverse_Lint_int {a0 : (List Int)}  {r : (List Int)} (h : slices_Reverse_Lint_int a0 = some r) : MeetsB Try.prog 68 (.ov false [.sl (some 3) (a0.map eI)]) [] [] (.ov false [.sl (some 3) (r.map eI)]) := by
 refine mob Try.func68 [(0, .ov false [.sl (some 3) (a0.map eI)])] ?_
 unfold slices_Reverse_Lint_int at h
 refine k_sreg (r_gq [(0, .ov false [.sl (some 3) (a0.map eI)]), (2, .p (iV 0)), (3, .p (iV (w64 ((a0.length : Int) - 1))))] [(1, {n := some a0.length})] (A1 (show (a0.map eI).length = a0.length from (List.length_map ..)))) ?_
 refine k_block ?_
 obtain ⟨y2, hl_x1, hk_x1⟩ := bs h
 clear h
 refine k_loop (J := fun (x : Cu) => [(0, .ov false [.sl (some 3) (x.1.map eI)]), (2, .p (iV x.2.1)), (3, .p (iV x.2.2))]) hl_x1 (wk_of (by kernel_rfl) (by kernel_rfl)) (fun x1 o_x1 h hy_x1 => ?_)
 unfold slices_Reverse_Lint_int_b1 at h
 refine k_seq ?_
 refine k_sreg (r_gq [(0, .ov false [.sl (some 3) (x1.1.map eI)]), (2, .p (iV x1.2.1)), (3, .p (iV x1.2.2)), (9, .p (.bool (decide (x1.2.1 < x1.2.2))))] [] trivial) ?_
 refine kc (decide (x1.2.1 < x1.2.2)) (fun hc4_2 => ?_) (fun hc4_2 => ?_)
 ·replace h := ite_t hc4_2 h
  refine k_skip ?_
  refine q_n ?_
  refine k_seq ?_
  refine k_block ?_
  replace h := bs h
  obtain ⟨v4, hv4, h⟩ := h
  replace h := bs h
  obtain ⟨v5, hv5, h⟩ := h
  replace h := bs h
  obtain ⟨u6, hu6, h⟩ := h
  refine k_reg (r_swap (t := 26) (e := 3) (g := false) (sz := 1) (rows := (x1.1.map eI)) (rows' := (((x1.1.set (Int.toNat x1.2.1) v5).set (Int.toNat x1.2.2) v4).map eI)) (i := x1.2.1) (j := x1.2.2) (ri := eI v4) (rj := eI v5) [(0, .ov false [.sl (some 3) (((x1.1.set (Int.toNat x1.2.1) v5).set (Int.toNat x1.2.2) v4).map eI)]), (2, .p (iV x1.2.1)), (3, .p (iV x1.2.2))] Try_mixed ⟨rfl, rfl⟩ ⟨rfl, rfl⟩ ⟨rfl, rfl⟩ ⟨rfl, rfl⟩ ⟨rfl, rfl⟩ ⟨rfl, rfl⟩ ⟨rfl, rfl⟩ ⟨rfl, rfl⟩ ⟨rfl, rfl⟩ ⟨rfl, rfl⟩ ⟨rfl, rfl⟩ ⟨rfl, rfl⟩ ⟨rfl, rfl⟩ ⟨rfl, rfl⟩ ⟨rfl, rfl⟩ ⟨rfl, rfl⟩ (by kernel_rfl) (by kernel_rfl) (by kernel_rfl) (by decide) (by kernel_rfl) (by kernel_rfl) (by kernel_rfl) (by kernel_rfl) (by kernel_rfl) (raw_map fun _ => rfl) (yba hv4).1 (yba hv5).1 (map_get eI (yba hv4).2) (map_get eI (yba hv5).2) (yca hu6) (by simp only [List.map_set])) ?_
  refine b_n ?_
  refine q_n ?_
  refine k_reg (r_gq [(0, .ov false [.sl (some 3) (((x1.1.set (Int.toNat x1.2.1) v5).set (Int.toNat x1.2.2) v4).map eI)]), (2, .p (iV (w64 (x1.2.1 + 1)))), (3, .p (iV (w64 (x1.2.2 - 1))))] [] trivial) ?_
  exact lqn (((x1.1.set (Int.toNat x1.2.1) v5).set (Int.toNat x1.2.2) v4), (w64 (x1.2.1 + 1)), (w64 (x1.2.2 - 1))) h
 ·replace h := ite_f hc4_2 h
  refine k_exit ?_
  refine q_x ?_
  refine lq_x ?_
  refine b_x ?_
  have hyy := hy_x1 _ (oi h).symm
  subst hyy
  have h := hk_x1
  obtain rfl := oi h
  exact ebe []
theorem wk_impl_ZetaDenominator {a0 : (List (List Int))}  {r : ((List Int) × Bool)} (h : impl_ZetaDenominator a0 = some r) : Meets Try.prog 10 [.d false [.sl none (a0.map (eF eI))]] { vals := [.ov false [.sl (some 3) (r.1.map eI)], .p (.bool r.2)] } := by
 refine mo Try.func10 [(0, .d false [.sl none (a0.map (eF eI))])] ?_
 unfold impl_ZetaDenominator at h
 refine k_sreg (r_gq [(0, .d false [.sl none (a0.map (eF eI))])] [] trivial) ?_
 refine k_seq ?_
 replace h := bs h
 obtain ⟨v1, hv1, h⟩ := h
 refine k_sreg (r_gq [(0, .d false [.sl none (a0.map (eF eI))]), (7, .p (.bool (!v1)))] [(1, {call := some (none, [.p (.bool v1)], true)})] (A1 (wk_impl_isGraph hv1))) ?_
 refine kc (!v1) (fun hc2_1 => ?_) (fun hc2_1 => ?_)
 ·replace h := ite_t hc2_1 h
  refine k_sreg (r_gq [(2, .ov false [.sl (some 3) []]), (3, .p (.bool false))] [] trivial) ?_
  refine k_ret ?_
  refine q_r ?_
  obtain rfl := oi h
  exact er [(.ov false [.sl (some 3) []], 2), (.p (.bool false), 3)]
 ·replace h := ite_f hc2_1 h
  refine k_skip ?_
  refine q_n ?_
  replace h := bs h
  obtain ⟨v3, hv3, h⟩ := h
  refine k_sreg (r_gq [(4, .ov false [.sl (some 3) (v3.map eI)])] [(1, {call := some (none, [.ov false [.sl (some 3) (v3.map eI)]], true)})] (A2 (wk_impl_characteristic hv3) (show List.all [.ov false [.sl (some 3) (v3.map eI)]] simpleR = true from (sa_o (wnR1 (wnL_enc wn_I) rfl) rfl)))) ?_
  replace h := bs h
  obtain ⟨v4, hv4, h⟩ := h
  refine k_sreg (r_gq [(4, .ov false [.sl (some 3) (v4.map eI)])] [(1, {lend := some (none, [], .ov false [.sl (some 3) (v4.map eI)], true)})] (A2 (wk_slices_Reverse_Lint_int hv4) (show (List.all [] simpleR && wnS (.ov false [.sl (some 3) (v4.map eI)])) = true from (ls_t rfl (wnR1 (wnL_enc wn_I) rfl))))) ?_
  replace h := bs h
  obtain ⟨v5, hv5, h⟩ := h
  refine k_sreg (r_gq [(2, .ov false [.sl (some 3) (v5.1.map eI)]), (3, .p (.bool v5.2))] [(1, {call := some (some [.d false [.sl none (v4.map eI)]], [.ov false [.sl (some 3) (v5.1.map eI)], .p (.bool v5.2)], true)})] (A3 (show ([.d false [.sl none (eraL (v4.map eI))]] : List Arg) = [.d false [.sl none (v4.map eI)]] from (by simp only [yea (h := eI) er_I])) (wk_impl_polynomial hv5) (show List.all [.ov false [.sl (some 3) (v5.1.map eI)], .p (.bool v5.2)] simpleR = true from (sa_o (wnR1 (wnL_enc wn_I) rfl) (sa_p rfl))))) ?_
  refine k_ret ?_
  obtain rfl := oi h
  exact er [(.ov false [.sl (some 3) (v5.1.map eI)], 2), (.p (.bool v5.2), 3)]
theorem wk_spec_zeBack {a0 : (List Int)}  {r : (List Int)} (h : spec_zeBack a0 = some r) : Meets Try.prog 69 [.d false [.sl none (a0.map eI)]] { vals := [.ov false [.sl (some 3) (r.map eI)]] } := by
 refine mo Try.func69 [(0, .d false [.sl none (a0.map eI)])] ?_
 unfold spec_zeBack at h
 refine k_sreg (r_gq [(0, .d false [.sl none (a0.map eI)])] [] trivial) ?_
 refine k_sreg (r_gq [(0, .d false [.sl none (a0.map eI)]), (3, .ov false [.sl (some 3) []])] [] trivial) ?_
 refine k_join (J := fun (x : (List Int)) => [(3, .ov false [.sl (some 3) (x.map eI)])]) (K := fun x => spec_zeBack_k1 x = some r) (fun x1 h => ?_) ?_
 ·unfold spec_zeBack_k1 at h
  refine k_sreg (r_gq [(2, .ov false [.sl (some 3) (x1.map eI)])] [] trivial) ?_
  refine k_ret ?_
  obtain rfl := oi h
  exact er [(.ov false [.sl (some 3) (x1.map eI)], 2)]
 ·refine k_sreg (r_gq [(0, .d false [.sl none (a0.map eI)]), (3, .ov false [.sl (some 3) []]), (4, .p (iV (w64 ((a0.length : Int) - 1))))] [(1, {n := some a0.length})] (A1 (show (a0.map eI).length = a0.length from (List.length_map ..)))) ?_
  refine k_block ?_
  obtain ⟨y3, hl_x2, hk_x2⟩ := bs h
  clear h
  refine k_loop (J := fun (x : ((List Int) × Int)) => [(0, .d false [.sl none (a0.map eI)]), (3, .ov false [.sl (some 3) (x.1.map eI)]), (4, .p (iV x.2))]) hl_x2 (wk_of (by kernel_rfl) (by kernel_rfl)) (fun x2 o_x2 h hy_x2 => ?_)
  unfold spec_zeBack_b1 at h
  refine k_seq ?_
  refine k_sreg (r_gq [(0, .d false [.sl none (a0.map eI)]), (3, .ov false [.sl (some 3) (x2.1.map eI)]), (4, .p (iV x2.2)), (9, .p (.bool (decide (x2.2 ≥ 0))))] [] trivial) ?_
  refine kc (decide (x2.2 ≥ 0)) (fun hc5_3 => ?_) (fun hc5_3 => ?_)
  ·replace h := ite_t hc5_3 h
   refine k_skip ?_
   refine q_n ?_
   refine k_seq ?_
   refine k_block ?_
   replace h := bs h
   obtain ⟨v5, hv5, h⟩ := h
   replace h := bs h
   obtain ⟨u6, hu6, h⟩ := h
   refine k_reg (r_gq [(0, .d false [.sl none (a0.map eI)]), (3, .ov false [.sl (some 3) ((x2.1 ++ [v5]).map eI)]), (4, .p (iV x2.2))] [(3, {row := some (eI v5)}), (6, {fix := some (18, .ov false [.sl (some 3) ((x2.1 ++ [v5]).map eI)])})] (A5 (yba hv5).1 (map_get eI (yba hv5).2) (show List.length ((x2.1.map eI) : List (List C)) + List.length ((([v5]).map eI) : List (List C)) ≤ 1099511627776 from (by have hg := (yca hu6); simpa using hg)) (show ∀ row ∈ ((([v5]).map eI) : List (List C)), row.length = 1 from (yua fun _ => rfl)) (show (SV.ov false [.sl (some 3) ((x2.1.map eI) ++ (([v5]).map eI))] : SV) = .ov false [.sl (some 3) ((x2.1 ++ [v5]).map eI)] from (congrArg (fun z => SV.ov false [.sl (some 3) z]) (List.map_append ..).symm)))) ?_
   refine b_n ?_
   refine q_n ?_
   refine k_reg (r_gq [(0, .d false [.sl none (a0.map eI)]), (3, .ov false [.sl (some 3) ((x2.1 ++ [v5]).map eI)]), (4, .p (iV (w64 (x2.2 - 1))))] [] trivial) ?_
   exact lqn ((x2.1 ++ [v5]), (w64 (x2.2 - 1))) h
  ·replace h := ite_f hc5_3 h
   refine k_exit ?_
   refine q_x ?_
   refine lq_x ?_
   refine b_x ?_
   have hyy := hy_x2 _ (oi h).symm
   subst hyy
   have h := hk_x2
   refine q_n ?_
   exact jx x2.1 h
theorem wk_spec_ZetaDenominator {a0 : (List (List Int))}  {r : ((List Int) × Bool)} (h : spec_ZetaDenominator a0 = some r) : Meets Try.prog 11 [.d false [.sl none (a0.map (eF eI))]] { vals := [.ov false [.sl (some 3) (r.1.map eI)], .p (.bool r.2)] } := by
 refine mo Try.func11 [(0, .d false [.sl none (a0.map (eF eI))])] ?_
 unfold spec_ZetaDenominator at h
 refine k_sreg (r_gq [(0, .d false [.sl none (a0.map (eF eI))])] [] trivial) ?_
 refine k_seq ?_
 replace h := bs h
 obtain ⟨v1, hv1, h⟩ := h
 refine k_sreg (r_gq [(0, .d false [.sl none (a0.map (eF eI))]), (6, .p (.bool (!v1)))] [(1, {call := some (none, [.p (.bool v1)], true)})] (A1 (wk_spec_grGood hv1))) ?_
 refine kc (!v1) (fun hc2_1 => ?_) (fun hc2_1 => ?_)
 ·replace h := ite_t hc2_1 h
  refine k_sreg (r_gq [(2, .ov false [.sl (some 3) []]), (3, .p (.bool false))] [] trivial) ?_
  refine k_ret ?_
  refine q_r ?_
  obtain rfl := oi h
  exact er [(.ov false [.sl (some 3) []], 2), (.p (.bool false), 3)]
 ·replace h := ite_f hc2_1 h
  refine k_skip ?_
  refine q_n ?_
  replace h := bs h
  obtain ⟨v3, hv3, h⟩ := h
  replace h := bs h
  obtain ⟨v4, hv4, h⟩ := h
  replace h := bs h
  obtain ⟨v5, hv5, h⟩ := h
  refine k_sreg (r_gq [(2, .ov false [.sl (some 3) (v5.1.map eI)]), (3, .p (.bool v5.2))] [(1, {call := some (none, [.ov false [.sl (some 3) (v3.map eI)]], true)}), (2, {call := some (some [.d false [.sl none (v3.map eI)]], [.ov false [.sl (some 3) (v4.map eI)]], true)}), (3, {call := some (some [.d false [.sl none (v4.map eI)]], [.ov false [.sl (some 3) (v5.1.map eI)], .p (.bool v5.2)], true)})] (B6 (wk_spec_zeCoefficients hv3) (show List.all [.ov false [.sl (some 3) (v3.map eI)]] simpleR = true from (sa_o (wnR1 (wnL_enc wn_I) rfl) rfl)) (show ([.d false [.sl none (eraL (v3.map eI))]] : List Arg) = [.d false [.sl none (v3.map eI)]] from (by simp only [yea (h := eI) er_I])) (wk_spec_zeBack hv4) (show List.all [.ov false [.sl (some 3) (v4.map eI)]] simpleR = true from (sa_o (wnR1 (wnL_enc wn_I) rfl) rfl)) (show ([.d false [.sl none (eraL (v4.map eI))]] : List Arg) = [.d false [.sl none (v4.map eI)]] from (by simp only [yea (h := eI) er_I])) (A2 (wk_spec_poIf hv5) (show List.all [.ov false [.sl (some 3) (v5.1.map eI)], .p (.bool v5.2)] simpleR = true from (sa_o (wnR1 (wnL_enc wn_I) rfl) (sa_p rfl)))))) ?_
  refine k_ret ?_
  obtain rfl := oi h
  exact er [(.ov false [.sl (some 3) (v5.1.map eI)], 2), (.p (.bool v5.2), 3)]
theorem wk_impl_DeterminantOf {a0 : (List (List Int))}  {r : (Int × Bool)} (h : impl_DeterminantOf a0 = some r) : Meets Try.prog 12 [.d false [.sl none (a0.map (eF eI))]] { vals := [.p (iV r.1), .p (.bool r.2)] } := by
 refine mo Try.func12 [(0, .d false [.sl none (a0.map (eF eI))])] ?_
 unfold impl_DeterminantOf at h
 refine k_sreg (r_gq [(0, .d false [.sl none (a0.map (eF eI))])] [] trivial) ?_
 refine k_seq ?_
 replace h := bs h
 obtain ⟨v1, hv1, h⟩ := h
 refine k_sreg (r_gq [(0, .d false [.sl none (a0.map (eF eI))]), (7, .p (.bool (!v1)))] [(1, {call := some (none, [.p (.bool v1)], true)})] (A1 (wk_impl_isGraph hv1))) ?_
 refine kc (!v1) (fun hc2_1 => ?_) (fun hc2_1 => ?_)
 ·replace h := ite_t hc2_1 h
  refine k_sreg (r_gq [(2, .p (iV 0)), (3, .p (.bool false))] [] trivial) ?_
  refine k_ret ?_
  refine q_r ?_
  obtain rfl := oi h
  exact er [(.p (iV 0), 2), (.p (.bool false), 3)]
 ·replace h := ite_f hc2_1 h
  refine k_skip ?_
  refine q_n ?_
  replace h := bs h
  obtain ⟨v3, hv3, h⟩ := h
  replace h := bs h
  obtain ⟨v4, hv4, h⟩ := h
  refine k_sreg (r_gq [(0, .d false [.sl none (a0.map (eF eI))]), (4, .p (iV v4))] [(1, {call := some (none, [.ov false [.sl (some 3) (v3.map eI)]], true)}), (2, {row := some (eI v4)}), (3, {row := some (eI v4)})] (A5 (wk_impl_characteristic hv3) (show List.all [.ov false [.sl (some 3) (v3.map eI)]] simpleR = true from (sa_o (wnR1 (wnL_enc wn_I) rfl) rfl)) (yba hv4).1 (map_get eI (yba hv4).2) (show getRow [[.sl (some 3) (v3.map eI)]] [(0, 0), ((Int.toNat 0), 0)] = some (eI v4) from ((gr0 rfl).trans (gre (map_get eI (yba hv4).2)))))) ?_
  refine k_seq ?_
  refine k_sreg (r_gq [(4, .p (iV v4)), (15, .p (.bool ((Int.tmod (a0.length : Int) 2) == 1)))] [(1, {n := some a0.length})] (A2 (show (a0.map (eF eI)).length = a0.length from (List.length_map ..)) (show 2 ≠ (0 : Int) from (by decide)))) ?_
  refine kc ((Int.tmod (a0.length : Int) 2) == 1) (fun hc2_4 => ?_) (fun hc2_4 => ?_)
  ·replace h := ite_t hc2_4 h
   refine k_reg (r_gq [(4, .p (iV (w64 (0 - v4))))] [] trivial) ?_
   refine q_n ?_
   refine k_sreg (r_gq [(2, .p (iV (w64 (0 - v4)))), (3, .p (.bool true))] [] trivial) ?_
   refine k_ret ?_
   obtain rfl := oi h
   exact er [(.p (iV (w64 (0 - v4))), 2), (.p (.bool true), 3)]
  ·replace h := ite_f hc2_4 h
   refine k_skip ?_
   refine q_n ?_
   refine k_sreg (r_gq [(2, .p (iV v4)), (3, .p (.bool true))] [] trivial) ?_
   refine k_ret ?_
   obtain rfl := oi h
   exact er [(.p (iV v4), 2), (.p (.bool true), 3)]
theorem wk_spec_DeterminantOf {a0 : (List (List Int))}  {r : (Int × Bool)} (h : spec_DeterminantOf a0 = some r) : Meets Try.prog 13 [.d false [.sl none (a0.map (eF eI))]] { vals := [.p (iV r.1), .p (.bool r.2)] } := by
 refine mo Try.func13 [(0, .d false [.sl none (a0.map (eF eI))])] ?_
 unfold spec_DeterminantOf at h
 refine k_sreg (r_gq [(0, .d false [.sl none (a0.map (eF eI))])] [] trivial) ?_
 refine k_seq ?_
 replace h := bs h
 obtain ⟨v1, hv1, h⟩ := h
 refine k_sreg (r_gq [(0, .d false [.sl none (a0.map (eF eI))]), (7, .p (.bool (!v1)))] [(1, {call := some (none, [.p (.bool v1)], true)})] (A1 (wk_spec_grGood hv1))) ?_
 refine kc (!v1) (fun hc2_1 => ?_) (fun hc2_1 => ?_)
 ·replace h := ite_t hc2_1 h
  refine k_sreg (r_gq [(2, .p (iV 0)), (3, .p (.bool false))] [] trivial) ?_
  refine k_ret ?_
  refine q_r ?_
  obtain rfl := oi h
  exact er [(.p (iV 0), 2), (.p (.bool false), 3)]
 ·replace h := ite_f hc2_1 h
  refine k_skip ?_
  refine q_n ?_
  replace h := bs h
  obtain ⟨v3, hv3, h⟩ := h
  replace h := bs h
  obtain ⟨v4, hv4, h⟩ := h
  refine k_sreg (r_gq [(0, .d false [.sl none (a0.map (eF eI))]), (4, .p (iV v4))] [(1, {call := some (none, [.ov false [.sl (some 3) (v3.map eI)]], true)}), (2, {row := some (eI v4)}), (3, {row := some (eI v4)})] (A5 (wk_spec_zeCoefficients hv3) (show List.all [.ov false [.sl (some 3) (v3.map eI)]] simpleR = true from (sa_o (wnR1 (wnL_enc wn_I) rfl) rfl)) (yba hv4).1 (map_get eI (yba hv4).2) (show getRow [[.sl (some 3) (v3.map eI)]] [(0, 0), ((Int.toNat 0), 0)] = some (eI v4) from ((gr0 rfl).trans (gre (map_get eI (yba hv4).2)))))) ?_
  refine k_seq ?_
  refine k_sreg (r_gq [(4, .p (iV v4)), (15, .p (.bool ((Int.tmod (a0.length : Int) 2) == 1)))] [(1, {n := some a0.length})] (A2 (show (a0.map (eF eI)).length = a0.length from (List.length_map ..)) (show 2 ≠ (0 : Int) from (by decide)))) ?_
  refine kc ((Int.tmod (a0.length : Int) 2) == 1) (fun hc2_4 => ?_) (fun hc2_4 => ?_)
  ·replace h := ite_t hc2_4 h
   refine k_reg (r_gq [(4, .p (iV (w64 (0 - v4))))] [] trivial) ?_
   refine q_n ?_
   refine k_sreg (r_gq [(2, .p (iV (w64 (0 - v4)))), (3, .p (.bool true))] [] trivial) ?_
   refine k_ret ?_
   obtain rfl := oi h
   exact er [(.p (iV (w64 (0 - v4))), 2), (.p (.bool true), 3)]
  ·replace h := ite_f hc2_4 h
   refine k_skip ?_
   refine q_n ?_
   refine k_sreg (r_gq [(2, .p (iV v4)), (3, .p (.bool true))] [] trivial) ?_
   refine k_ret ?_
   obtain rfl := oi h
   exact er [(.p (iV v4), 2), (.p (.bool true), 3)]
theorem wk_impl_powerUpTo {a0 : (List (List Int))} {a1 : Int} {a2 : Int}  {r : (List (List Int))} (h : impl_powerUpTo a0 a1 a2 = some r) : Meets Try.prog 151 [.d false [.sl none (a0.map (eF eI))], wI a1, wI a2] { vals := [.ov false [.sl (some 26) (r.map (eO 3 eI))]] } := by
 refine mo Try.func151 [(0, .d false [.sl none (a0.map (eF eI))]), (1, .p (iV a1)), (2, .p (iV a2))] ?_
 unfold impl_powerUpTo at h
 refine k_sreg (r_gq [(0, .d false [.sl none (a0.map (eF eI))]), (1, .p (iV a1)), (2, .p (iV a2))] [] trivial) ?_
 replace h := bs h
 obtain ⟨v1, hv1, h⟩ := h
 refine k_sreg (r_gq [(0, .d false [.sl none (a0.map (eF eI))]), (1, .p (iV a1)), (2, .p (iV a2)), (7, .ov false [.sl (some 26) (v1.map (eO 3 eI))])] [(1, {n := some a0.length}), (2, {call := some (none, [.ov false [.sl (some 26) (v1.map (eO 3 eI))]], true)})] (A3 (show (a0.map (eF eI)).length = a0.length from (List.length_map ..)) (wk_impl_emptyGraph hv1) (show List.all [.ov false [.sl (some 26) (v1.map (eO 3 eI))]] simpleR = true from (sa_o (wnR1 (wnL_enc (wn_O wn_I)) rfl) rfl)))) ?_
 refine k_join (J := fun (x : (List (List Int))) => [(0, .d false [.sl none (a0.map (eF eI))]), (1, .p (iV a1)), (2, .p (iV a2)), (7, .ov false [.sl (some 26) (x.map (eO 3 eI))])]) (K := fun x => impl_powerUpTo_k1 a0 a1 a2 x = some r) (fun x2 h => ?_) ?_
 ·unfold impl_powerUpTo_k1 at h
  refine k_join (J := fun (x : (List (List Int))) => [(7, .ov false [.sl (some 26) (x.map (eO 3 eI))])]) (K := fun x => impl_powerUpTo_k2 x = some r) (fun x3 h => ?_) ?_
  ·unfold impl_powerUpTo_k2 at h
   refine k_sreg (r_gq [(6, .ov false [.sl (some 26) (x3.map (eO 3 eI))])] [] trivial) ?_
   refine k_ret ?_
   obtain rfl := oi h
   exact er [(.ov false [.sl (some 26) (x3.map (eO 3 eI))], 6)]
  ·refine k_sreg (r_gq [(0, .d false [.sl none (a0.map (eF eI))]), (2, .p (iV a2)), (7, .ov false [.sl (some 26) (x2.map (eO 3 eI))]), (31, .p (iV a1)), (32, .p (iV 0))] [] trivial) ?_
   refine k_block ?_
   obtain ⟨y5, hl_x4, hk_x4⟩ := bs h
   clear h
   refine k_loop (J := fun (x : ((List (List Int)) × Int)) => [(0, .d false [.sl none (a0.map (eF eI))]), (2, .p (iV a2)), (7, .ov false [.sl (some 26) (x.1.map (eO 3 eI))]), (31, .p (iV a1)), (32, .p (iV x.2))]) hl_x4 (wk_of (by kernel_rfl) (by kernel_rfl)) (fun x4 o_x4 h hy_x4 => ?_)
   unfold impl_powerUpTo_b1 at h
   refine k_sreg (r_gq [(0, .d false [.sl none (a0.map (eF eI))]), (2, .p (iV a2)), (7, .ov false [.sl (some 26) (x4.1.map (eO 3 eI))]), (31, .p (iV a1)), (32, .p (iV x4.2)), (33, .p (.bool (decide (x4.2 < a1))))] [] trivial) ?_
   refine k_seq ?_
   refine kc (decide (x4.2 < a1)) (fun hc5_5 => ?_) (fun hc5_5 => ?_)
   ·replace h := ite_t hc5_5 h
    refine k_skip ?_
    refine q_n ?_
    refine k_join (J := fun (x : (List (List Int))) => [(0, .d false [.sl none (a0.map (eF eI))]), (2, .p (iV a2)), (7, .ov false [.sl (some 26) (x.map (eO 3 eI))]), (31, .p (iV a1)), (32, .p (iV x4.2))]) (K := fun x => impl_powerUpTo_k3 x4 x = some o_x4) (fun x7 h => ?_) ?_
    ·unfold impl_powerUpTo_k3 at h
     refine k_reg (r_gq [(0, .d false [.sl none (a0.map (eF eI))]), (2, .p (iV a2)), (7, .ov false [.sl (some 26) (x7.map (eO 3 eI))]), (31, .p (iV a1)), (32, .p (iV (w64 (x4.2 + 1))))] [] trivial) ?_
     exact lqn (x7, (w64 (x4.2 + 1))) h
    ·refine k_block ?_
     replace h := bs h
     obtain ⟨v8, hv8, h⟩ := h
     refine k_sreg (r_gq [(0, .d false [.sl none (a0.map (eF eI))]), (2, .p (iV a2)), (7, .ov false [.sl (some 26) (x4.1.map (eO 3 eI))]), (9, .ov false [.sl (some 26) (v8.map (eO 3 eI))]), (31, .p (iV a1)), (32, .p (iV x4.2))] [(1, {n := some a0.length}), (2, {call := some (none, [.ov false [.sl (some 26) (v8.map (eO 3 eI))]], true)})] (A3 (show (a0.map (eF eI)).length = a0.length from (List.length_map ..)) (wk_impl_emptyGraph hv8) (show List.all [.ov false [.sl (some 26) (v8.map (eO 3 eI))]] simpleR = true from (sa_o (wnR1 (wnL_enc (wn_O wn_I)) rfl) rfl)))) ?_
     refine k_join (J := fun (x : (List (List Int))) => [(0, .d false [.sl none (a0.map (eF eI))]), (2, .p (iV a2)), (9, .ov false [.sl (some 26) (x.map (eO 3 eI))]), (31, .p (iV a1)), (32, .p (iV x4.2))]) (K := fun x => impl_powerUpTo_k4 x4 x = some o_x4) (fun x9 h => ?_) ?_
     ·unfold impl_powerUpTo_k4 at h
      refine k_reg (r_gq [(0, .d false [.sl none (a0.map (eF eI))]), (2, .p (iV a2)), (7, .ov false [.sl (some 26) (x9.map (eO 3 eI))]), (31, .p (iV a1)), (32, .p (iV x4.2))] [] trivial) ?_
      refine b_n ?_
      refine q_n ?_
      exact jx x9 h
     ·refine k_sreg (r_gq [(0, .d false [.sl none (a0.map (eF eI))]), (2, .p (iV a2)), (7, .ov false [.sl (some 26) (x4.1.map (eO 3 eI))]), (9, .ov false [.sl (some 26) (v8.map (eO 3 eI))]), (31, .p (iV a1)), (32, .p (iV x4.2)), (37, .ref 7 [(0, 0)] none), (38, .p (iV (x4.1.length : Int))), (39, .p (iV 0))] [(1, {n := some x4.1.length})] (A1 (show (x4.1.map (eO 3 eI)).length = x4.1.length from (List.length_map ..)))) ?_
      refine k_block ?_
      obtain ⟨y11, hl_x10, hk_x10⟩ := bs h
      clear h
      refine k_loop (J := fun (x : ((List (List Int)) × Int)) => [(0, .d false [.sl none (a0.map (eF eI))]), (2, .p (iV a2)), (7, .ov false [.sl (some 26) (x4.1.map (eO 3 eI))]), (9, .ov false [.sl (some 26) (x.1.map (eO 3 eI))]), (31, .p (iV a1)), (32, .p (iV x4.2)), (37, .ref 7 [(0, 0)] none), (38, .p (iV (x4.1.length : Int))), (39, .p (iV x.2))]) hl_x10 (wk_of (by kernel_rfl) (by kernel_rfl)) (fun x10 o_x10 h hy_x10 => ?_)
      unfold impl_powerUpTo_b2 at h
      refine k_sreg (r_gq [(0, .d false [.sl none (a0.map (eF eI))]), (2, .p (iV a2)), (7, .ov false [.sl (some 26) (x4.1.map (eO 3 eI))]), (9, .ov false [.sl (some 26) (x10.1.map (eO 3 eI))]), (31, .p (iV a1)), (32, .p (iV x4.2)), (37, .ref 7 [(0, 0)] none), (38, .p (iV (x4.1.length : Int))), (39, .p (iV x10.2)), (40, .p (.bool (decide (x10.2 < (x4.1.length : Int)))))] [] trivial) ?_
      refine k_seq ?_
      refine kc (decide (x10.2 < (x4.1.length : Int))) (fun hc10_11 => ?_) (fun hc10_11 => ?_)
      ·replace h := ite_t hc10_11 h
       refine k_skip ?_
       refine q_n ?_
       refine k_join (J := fun (x : (List (List Int))) => [(0, .d false [.sl none (a0.map (eF eI))]), (2, .p (iV a2)), (7, .ov false [.sl (some 26) (x4.1.map (eO 3 eI))]), (9, .ov false [.sl (some 26) (x.map (eO 3 eI))]), (31, .p (iV a1)), (32, .p (iV x4.2)), (37, .ref 7 [(0, 0)] none), (38, .p (iV (x4.1.length : Int))), (39, .p (iV x10.2))]) (K := fun x => impl_powerUpTo_k5 x10 x = some o_x10) (fun x13 h => ?_) ?_
       ·unfold impl_powerUpTo_k5 at h
        refine k_reg (r_gq [(0, .d false [.sl none (a0.map (eF eI))]), (2, .p (iV a2)), (7, .ov false [.sl (some 26) (x4.1.map (eO 3 eI))]), (9, .ov false [.sl (some 26) (x13.map (eO 3 eI))]), (31, .p (iV a1)), (32, .p (iV x4.2)), (37, .ref 7 [(0, 0)] none), (38, .p (iV (x4.1.length : Int))), (39, .p (iV (w64 (x10.2 + 1))))] [] trivial) ?_
        exact lqn (x13, (w64 (x10.2 + 1))) h
       ·refine k_block ?_
        replace h := bs h
        obtain ⟨v14, hv14, h⟩ := h
        refine k_sreg (r_gq [(0, .d false [.sl none (a0.map (eF eI))]), (2, .p (iV a2)), (7, .ov false [.sl (some 26) (x4.1.map (eO 3 eI))]), (9, .ov false [.sl (some 26) (x10.1.map (eO 3 eI))]), (10, .p (iV x10.2)), (11, .ref 7 [(0, 0), ((Int.toNat x10.2), 0)] none), (31, .p (iV a1)), (32, .p (iV x4.2)), (37, .ref 7 [(0, 0)] none), (38, .p (iV (x4.1.length : Int))), (39, .p (iV x10.2))] [(1, {row := some [.sl (some 3) (v14.map eI)]}), (2, {row := some [.sl (some 3) (v14.map eI)]})] (A4 (yba hv14).1 (map_get (eO 3 eI) (yba hv14).2) (show frR [.sl (some 3) (v14.map eI)] = false from rfl) (show getRow [[.sl (some 26) (x4.1.map (eO 3 eI))]] [(0, 0), ((Int.toNat x10.2), 0)] = some [.sl (some 3) (v14.map eI)] from ((gr0 rfl).trans (gre (map_get (eO 3 eI) (yba hv14).2)))))) ?_
        refine k_sreg (r_gq [(0, .d false [.sl none (a0.map (eF eI))]), (2, .p (iV a2)), (7, .ov false [.sl (some 26) (x4.1.map (eO 3 eI))]), (9, .ov false [.sl (some 26) (x10.1.map (eO 3 eI))]), (10, .p (iV x10.2)), (31, .p (iV a1)), (32, .p (iV x4.2)), (37, .ref 7 [(0, 0)] none), (38, .p (iV (x4.1.length : Int))), (39, .p (iV x10.2)), (44, .ref 7 [(0, 0), ((Int.toNat x10.2), 0)] none), (45, .p (iV (v14.length : Int))), (46, .p (iV 0))] [(1, {deep := some [.sl (some 3) (v14.map eI)], n := some v14.length})] (A2 (show (v14.map eI).length = v14.length from (List.length_map ..)) (show getRow [[.sl (some 26) (x4.1.map (eO 3 eI))]] [(0, 0), ((Int.toNat x10.2), 0)] = some [.sl (some 3) (v14.map eI)] from ((gr0 rfl).trans (gre (map_get (eO 3 eI) (yba hv14).2)))))) ?_
        refine k_block ?_
        obtain ⟨y16, hl_x15, hk_x15⟩ := bs h
        clear h
        refine k_loop (J := fun (x : ((List (List Int)) × Int)) => [(0, .d false [.sl none (a0.map (eF eI))]), (2, .p (iV a2)), (7, .ov false [.sl (some 26) (x4.1.map (eO 3 eI))]), (9, .ov false [.sl (some 26) (x.1.map (eO 3 eI))]), (10, .p (iV x10.2)), (31, .p (iV a1)), (32, .p (iV x4.2)), (37, .ref 7 [(0, 0)] none), (38, .p (iV (x4.1.length : Int))), (39, .p (iV x10.2)), (44, .ref 7 [(0, 0), ((Int.toNat x10.2), 0)] none), (45, .p (iV (v14.length : Int))), (46, .p (iV x.2))]) hl_x15 (wk_of (by kernel_rfl) (by kernel_rfl)) (fun x15 o_x15 h hy_x15 => ?_)
        unfold impl_powerUpTo_b3 at h
        refine k_sreg (r_gq [(0, .d false [.sl none (a0.map (eF eI))]), (2, .p (iV a2)), (7, .ov false [.sl (some 26) (x4.1.map (eO 3 eI))]), (9, .ov false [.sl (some 26) (x15.1.map (eO 3 eI))]), (10, .p (iV x10.2)), (31, .p (iV a1)), (32, .p (iV x4.2)), (37, .ref 7 [(0, 0)] none), (38, .p (iV (x4.1.length : Int))), (39, .p (iV x10.2)), (44, .ref 7 [(0, 0), ((Int.toNat x10.2), 0)] none), (45, .p (iV (v14.length : Int))), (46, .p (iV x15.2)), (47, .p (.bool (decide (x15.2 < (v14.length : Int)))))] [] trivial) ?_
        refine k_seq ?_
        refine kc (decide (x15.2 < (v14.length : Int))) (fun hc14_16 => ?_) (fun hc14_16 => ?_)
        ·replace h := ite_t hc14_16 h
         refine k_skip ?_
         refine q_n ?_
         refine k_join (J := fun (x : (List (List Int))) => [(0, .d false [.sl none (a0.map (eF eI))]), (2, .p (iV a2)), (7, .ov false [.sl (some 26) (x4.1.map (eO 3 eI))]), (9, .ov false [.sl (some 26) (x.map (eO 3 eI))]), (10, .p (iV x10.2)), (31, .p (iV a1)), (32, .p (iV x4.2)), (37, .ref 7 [(0, 0)] none), (38, .p (iV (x4.1.length : Int))), (39, .p (iV x10.2)), (44, .ref 7 [(0, 0), ((Int.toNat x10.2), 0)] none), (45, .p (iV (v14.length : Int))), (46, .p (iV x15.2))]) (K := fun x => impl_powerUpTo_k6 x15 x = some o_x15) (fun x18 h => ?_) ?_
         ·unfold impl_powerUpTo_k6 at h
          refine k_reg (r_gq [(0, .d false [.sl none (a0.map (eF eI))]), (2, .p (iV a2)), (7, .ov false [.sl (some 26) (x4.1.map (eO 3 eI))]), (9, .ov false [.sl (some 26) (x18.map (eO 3 eI))]), (10, .p (iV x10.2)), (31, .p (iV a1)), (32, .p (iV x4.2)), (37, .ref 7 [(0, 0)] none), (38, .p (iV (x4.1.length : Int))), (39, .p (iV x10.2)), (44, .ref 7 [(0, 0), ((Int.toNat x10.2), 0)] none), (45, .p (iV (v14.length : Int))), (46, .p (iV (w64 (x15.2 + 1))))] [] trivial) ?_
          exact lqn (x18, (w64 (x15.2 + 1))) h
         ·refine k_block ?_
          replace h := bs h
          obtain ⟨v19, hv19, h⟩ := h
          refine k_sreg (r_gq [(0, .d false [.sl none (a0.map (eF eI))]), (2, .p (iV a2)), (7, .ov false [.sl (some 26) (x4.1.map (eO 3 eI))]), (9, .ov false [.sl (some 26) (x15.1.map (eO 3 eI))]), (10, .p (iV x10.2)), (12, .p (iV x15.2)), (13, .p (iV v19)), (31, .p (iV a1)), (32, .p (iV x4.2)), (37, .ref 7 [(0, 0)] none), (38, .p (iV (x4.1.length : Int))), (39, .p (iV x10.2)), (44, .ref 7 [(0, 0), ((Int.toNat x10.2), 0)] none), (45, .p (iV (v14.length : Int))), (46, .p (iV x15.2))] [(1, {deep := some [.sl (some 3) (v14.map eI)], row := some (eI v19)}), (2, {row := some (eI v19)})] (A4 (yba hv19).1 (map_get eI (yba hv19).2) (show getRow [[.sl (some 26) (x4.1.map (eO 3 eI))]] [(0, 0), ((Int.toNat x10.2), 0)] = some [.sl (some 3) (v14.map eI)] from ((gr0 rfl).trans (gre (map_get (eO 3 eI) (yba hv14).2)))) (show getRow [[.sl (some 26) (x4.1.map (eO 3 eI))]] [(0, 0), ((Int.toNat x10.2), 0), ((Int.toNat x15.2), 0)] = some (eI v19) from ((gr0 rfl).trans ((grs (map_get (eO 3 eI) (yba hv14).2) rfl).trans (gre (map_get eI (yba hv19).2))))))) ?_
          replace h := bs h
          obtain ⟨v20, hv20, h⟩ := h
          refine k_sreg (r_gq [(0, .d false [.sl none (a0.map (eF eI))]), (2, .p (iV a2)), (7, .ov false [.sl (some 26) (x4.1.map (eO 3 eI))]), (9, .ov false [.sl (some 26) (x15.1.map (eO 3 eI))]), (10, .p (iV x10.2)), (13, .p (iV v19)), (31, .p (iV a1)), (32, .p (iV x4.2)), (37, .ref 7 [(0, 0)] none), (38, .p (iV (x4.1.length : Int))), (39, .p (iV x10.2)), (44, .ref 7 [(0, 0), ((Int.toNat x10.2), 0)] none), (45, .p (iV (v14.length : Int))), (46, .p (iV x15.2)), (54, .d false [.sl none (v20.map eI)]), (55, .p (iV (v20.length : Int))), (56, .p (iV 0))] [(2, {row := some [.sl none (v20.map eI)]}), (4, {n := some v20.length})] (A3 (yba hv20).1 (map_get (eF eI) (yba hv20).2) (show (v20.map eI).length = v20.length from (List.length_map ..)))) ?_
          refine k_block ?_
          obtain ⟨y22, hl_x21, hk_x21⟩ := bs h
          clear h
          refine k_loop (J := fun (x : ((List (List Int)) × Int)) => [(0, .d false [.sl none (a0.map (eF eI))]), (2, .p (iV a2)), (7, .ov false [.sl (some 26) (x4.1.map (eO 3 eI))]), (9, .ov false [.sl (some 26) (x.1.map (eO 3 eI))]), (10, .p (iV x10.2)), (13, .p (iV v19)), (31, .p (iV a1)), (32, .p (iV x4.2)), (37, .ref 7 [(0, 0)] none), (38, .p (iV (x4.1.length : Int))), (39, .p (iV x10.2)), (44, .ref 7 [(0, 0), ((Int.toNat x10.2), 0)] none), (45, .p (iV (v14.length : Int))), (46, .p (iV x15.2)), (54, .d false [.sl none (v20.map eI)]), (55, .p (iV (v20.length : Int))), (56, .p (iV x.2))]) hl_x21 (wk_of (by kernel_rfl) (by kernel_rfl)) (fun x21 o_x21 h hy_x21 => ?_)
          unfold impl_powerUpTo_b4 at h
          refine k_sreg (r_gq [(0, .d false [.sl none (a0.map (eF eI))]), (2, .p (iV a2)), (7, .ov false [.sl (some 26) (x4.1.map (eO 3 eI))]), (9, .ov false [.sl (some 26) (x21.1.map (eO 3 eI))]), (10, .p (iV x10.2)), (13, .p (iV v19)), (31, .p (iV a1)), (32, .p (iV x4.2)), (37, .ref 7 [(0, 0)] none), (38, .p (iV (x4.1.length : Int))), (39, .p (iV x10.2)), (44, .ref 7 [(0, 0), ((Int.toNat x10.2), 0)] none), (45, .p (iV (v14.length : Int))), (46, .p (iV x15.2)), (54, .d false [.sl none (v20.map eI)]), (55, .p (iV (v20.length : Int))), (56, .p (iV x21.2)), (57, .p (.bool (decide (x21.2 < (v20.length : Int)))))] [] trivial) ?_
          refine k_seq ?_
          refine kc (decide (x21.2 < (v20.length : Int))) (fun hc18_22 => ?_) (fun hc18_22 => ?_)
          ·replace h := ite_t hc18_22 h
           refine k_skip ?_
           refine q_n ?_
           refine k_seq ?_
           refine k_block ?_
           replace h := bs h
           obtain ⟨v24, hv24, h⟩ := h
           refine k_sreg (r_gq [(0, .d false [.sl none (a0.map (eF eI))]), (2, .p (iV a2)), (7, .ov false [.sl (some 26) (x4.1.map (eO 3 eI))]), (9, .ov false [.sl (some 26) (x21.1.map (eO 3 eI))]), (10, .p (iV x10.2)), (13, .p (iV v19)), (14, .p (iV x21.2)), (15, .p (iV v24)), (31, .p (iV a1)), (32, .p (iV x4.2)), (37, .ref 7 [(0, 0)] none), (38, .p (iV (x4.1.length : Int))), (39, .p (iV x10.2)), (44, .ref 7 [(0, 0), ((Int.toNat x10.2), 0)] none), (45, .p (iV (v14.length : Int))), (46, .p (iV x15.2)), (54, .d false [.sl none (v20.map eI)]), (55, .p (iV (v20.length : Int))), (56, .p (iV x21.2))] [(1, {row := some (eI v24)})] (A2 (yba hv24).1 (map_get eI (yba hv24).2))) ?_
           replace h := bs h
           obtain ⟨v25, hv25, h⟩ := h
           replace h := bs h
           obtain ⟨v26, hv26, h⟩ := h
           refine k_reg (r_dq Try_mixed 18 [] [(0, .d false [.sl none (a0.map (eF eI))]), (2, .p (iV a2)), (7, .ov false [.sl (some 26) (x4.1.map (eO 3 eI))]), (9, .ov false [.sl (some 26) ((x21.1.set (Int.toNat x10.2) (v25.set (Int.toNat x21.2) (if a2 < (w64 (v26 + (w64 (v19 * v24)))) then a2 else (w64 (v26 + (w64 (v19 * v24))))))).map (eO 3 eI))]), (10, .p (iV x10.2)), (13, .p (iV v19)), (31, .p (iV a1)), (32, .p (iV x4.2)), (37, .ref 7 [(0, 0)] none), (38, .p (iV (x4.1.length : Int))), (39, .p (iV x10.2)), (44, .ref 7 [(0, 0), ((Int.toNat x10.2), 0)] none), (45, .p (iV (v14.length : Int))), (46, .p (iV x15.2)), (54, .d false [.sl none (v20.map eI)]), (55, .p (iV (v20.length : Int))), (56, .p (iV x21.2))] [(2, {row := some [.sl (some 3) (v25.map eI)]}), (3, {row := some [.sl (some 3) (v25.map eI)]}), (7, {row := some [.sl (some 3) (v25.map eI)]}), (8, {row := some [.sl (some 3) (v25.map eI)]}), (10, {deep := some [.sl (some 3) (v25.map eI)], row := some (eI v26)}), (11, {row := some (eI v26)}), (18, {deep := some [.sl (some 3) (v25.map eI)], row := some (eI v26)}), (19, {row := some (eI v26), fix := some (9, .ov false [.sl (some 26) ((x21.1.set (Int.toNat x10.2) (v25.set (Int.toNat x21.2) (if a2 < (w64 (v26 + (w64 (v19 * v24)))) then a2 else (w64 (v26 + (w64 (v19 * v24))))))).map (eO 3 eI))])})] (B6 (yba hv25).1 (map_get (eO 3 eI) (yba hv25).2) (show frR [.sl (some 3) (v25.map eI)] = false from rfl) (show getRow [[.sl (some 26) (x21.1.map (eO 3 eI))]] [(0, 0), ((Int.toNat x10.2), 0)] = some [.sl (some 3) (v25.map eI)] from ((gr0 rfl).trans (gre (map_get (eO 3 eI) (yba hv25).2)))) (yba hv25).1 (map_get (eO 3 eI) (yba hv25).2) (B6 (show frR [.sl (some 3) (v25.map eI)] = false from rfl) (show getRow [[.sl (some 26) (x21.1.map (eO 3 eI))]] [(0, 0), ((Int.toNat x10.2), 0)] = some [.sl (some 3) (v25.map eI)] from ((gr0 rfl).trans (gre (map_get (eO 3 eI) (yba hv25).2)))) (yba hv26).1 (map_get eI (yba hv26).2) (show getRow [[.sl (some 26) (x21.1.map (eO 3 eI))]] [(0, 0), ((Int.toNat x10.2), 0)] = some [.sl (some 3) (v25.map eI)] from ((gr0 rfl).trans (gre (map_get (eO 3 eI) (yba hv25).2)))) (show getRow [[.sl (some 26) (x21.1.map (eO 3 eI))]] [(0, 0), ((Int.toNat x10.2), 0), ((Int.toNat x21.2), 0)] = some (eI v26) from ((gr0 rfl).trans ((grs (map_get (eO 3 eI) (yba hv25).2) rfl).trans (gre (map_get eI (yba hv26).2))))) (A5 (yba hv26).1 (map_get eI (yba hv26).2) (show getRow [[.sl (some 26) (x21.1.map (eO 3 eI))]] [(0, 0), ((Int.toNat x10.2), 0)] = some [.sl (some 3) (v25.map eI)] from ((gr0 rfl).trans (gre (map_get (eO 3 eI) (yba hv25).2)))) (show getRow [[.sl (some 26) (x21.1.map (eO 3 eI))]] [(0, 0), ((Int.toNat x10.2), 0), ((Int.toNat x21.2), 0)] = some (eI v26) from ((gr0 rfl).trans ((grs (map_get (eO 3 eI) (yba hv25).2) rfl).trans (gre (map_get eI (yba hv26).2))))) (show (SV.ov false [.sl (some 26) (setL (x21.1.map (eO 3 eI)) [((Int.toNat x10.2), 0), ((Int.toNat x21.2), 0)] [rI (if a2 < (w64 (v26 + (w64 (v19 * v24)))) then a2 else (w64 (v26 + (w64 (v19 * v24)))))])] : SV) = .ov false [.sl (some 26) ((x21.1.set (Int.toNat x10.2) (v25.set (Int.toNat x21.2) (if a2 < (w64 (v26 + (w64 (v19 * v24)))) then a2 else (w64 (v26 + (w64 (v19 * v24))))))).map (eO 3 eI))] from (congrArg (fun z => SV.ov false [.sl (some 26) z]) (set2 (f := (eO 3 eI)) (y := (v25.set (Int.toNat x21.2) (if a2 < (w64 (v26 + (w64 (v19 * v24)))) then a2 else (w64 (v26 + (w64 (v19 * v24))))))) (yba hv25).2 rfl (set1 (f := eI) (y := (if a2 < (w64 (v26 + (w64 (v19 * v24)))) then a2 else (w64 (v26 + (w64 (v19 * v24)))))) (yba hv26).2 rfl) rfl))))))) ?_
           refine b_n ?_
           refine q_n ?_
           refine k_reg (r_gq [(0, .d false [.sl none (a0.map (eF eI))]), (2, .p (iV a2)), (7, .ov false [.sl (some 26) (x4.1.map (eO 3 eI))]), (9, .ov false [.sl (some 26) ((x21.1.set (Int.toNat x10.2) (v25.set (Int.toNat x21.2) (if a2 < (w64 (v26 + (w64 (v19 * v24)))) then a2 else (w64 (v26 + (w64 (v19 * v24))))))).map (eO 3 eI))]), (10, .p (iV x10.2)), (13, .p (iV v19)), (31, .p (iV a1)), (32, .p (iV x4.2)), (37, .ref 7 [(0, 0)] none), (38, .p (iV (x4.1.length : Int))), (39, .p (iV x10.2)), (44, .ref 7 [(0, 0), ((Int.toNat x10.2), 0)] none), (45, .p (iV (v14.length : Int))), (46, .p (iV x15.2)), (54, .d false [.sl none (v20.map eI)]), (55, .p (iV (v20.length : Int))), (56, .p (iV (w64 (x21.2 + 1))))] [] trivial) ?_
           exact lqn ((x21.1.set (Int.toNat x10.2) (v25.set (Int.toNat x21.2) (if a2 < (w64 (v26 + (w64 (v19 * v24)))) then a2 else (w64 (v26 + (w64 (v19 * v24))))))), (w64 (x21.2 + 1))) h
          ·replace h := ite_f hc18_22 h
           refine k_exit ?_
           refine q_x ?_
           refine lq_x ?_
           refine b_x ?_
           refine b_n ?_
           have hyy := hy_x21 _ (oi h).symm
           subst hyy
           have h := hk_x21
           refine q_n ?_
           exact jx x21.1 h
        ·replace h := ite_f hc14_16 h
         refine k_exit ?_
         refine q_x ?_
         refine lq_x ?_
         refine b_x ?_
         refine b_n ?_
         have hyy := hy_x15 _ (oi h).symm
         subst hyy
         have h := hk_x15
         refine q_n ?_
         exact jx x15.1 h
      ·replace h := ite_f hc10_11 h
       refine k_exit ?_
       refine q_x ?_
       refine lq_x ?_
       refine b_x ?_
       have hyy := hy_x10 _ (oi h).symm
       subst hyy
       have h := hk_x10
       refine q_n ?_
       exact jx x10.1 h
   ·replace h := ite_f hc5_5 h
    refine k_exit ?_
    refine q_x ?_
    refine lq_x ?_
    refine b_x ?_
    have hyy := hy_x4 _ (oi h).symm
    subst hyy
    have h := hk_x4
    refine q_n ?_
    exact jx x4.1 h
 ·refine k_sreg (r_gq [(0, .d false [.sl none (a0.map (eF eI))]), (1, .p (iV a1)), (2, .p (iV a2)), (7, .ov false [.sl (some 26) (v1.map (eO 3 eI))]), (20, .p (iV (v1.length : Int))), (21, .p (iV 0))] [(1, {n := some v1.length})] (A1 (show (v1.map (eO 3 eI)).length = v1.length from (List.length_map ..)))) ?_
  refine k_block ?_
  obtain ⟨y28, hl_x27, hk_x27⟩ := bs h
  clear h
  refine k_loop (J := fun (x : ((List (List Int)) × Int)) => [(0, .d false [.sl none (a0.map (eF eI))]), (1, .p (iV a1)), (2, .p (iV a2)), (7, .ov false [.sl (some 26) (x.1.map (eO 3 eI))]), (20, .p (iV (v1.length : Int))), (21, .p (iV x.2))]) hl_x27 (wk_of (by kernel_rfl) (by kernel_rfl)) (fun x27 o_x27 h hy_x27 => ?_)
  unfold impl_powerUpTo_b5 at h
  refine k_sreg (r_gq [(0, .d false [.sl none (a0.map (eF eI))]), (1, .p (iV a1)), (2, .p (iV a2)), (7, .ov false [.sl (some 26) (x27.1.map (eO 3 eI))]), (20, .p (iV (v1.length : Int))), (21, .p (iV x27.2)), (22, .p (.bool (decide (x27.2 < (v1.length : Int)))))] [] trivial) ?_
  refine k_seq ?_
  refine kc (decide (x27.2 < (v1.length : Int))) (fun hc5_28 => ?_) (fun hc5_28 => ?_)
  ·replace h := ite_t hc5_28 h
   refine k_skip ?_
   refine q_n ?_
   refine k_seq ?_
   refine k_block ?_
   refine k_sreg (r_gq [(0, .d false [.sl none (a0.map (eF eI))]), (1, .p (iV a1)), (2, .p (iV a2)), (7, .ov false [.sl (some 26) (x27.1.map (eO 3 eI))]), (8, .p (iV x27.2)), (20, .p (iV (v1.length : Int))), (21, .p (iV x27.2))] [] trivial) ?_
   replace h := bs h
   obtain ⟨v30, hv30, h⟩ := h
   replace h := bs h
   obtain ⟨v31, hv31, h⟩ := h
   refine k_reg (r_gq [(0, .d false [.sl none (a0.map (eF eI))]), (1, .p (iV a1)), (2, .p (iV a2)), (7, .ov false [.sl (some 26) ((x27.1.set (Int.toNat x27.2) (v30.set (Int.toNat x27.2) 1)).map (eO 3 eI))]), (20, .p (iV (v1.length : Int))), (21, .p (iV x27.2))] [(2, {row := some [.sl (some 3) (v30.map eI)]}), (3, {row := some [.sl (some 3) (v30.map eI)]}), (5, {deep := some [.sl (some 3) (v30.map eI)], row := some (eI v31)}), (6, {row := some (eI v31), fix := some (7, .ov false [.sl (some 26) ((x27.1.set (Int.toNat x27.2) (v30.set (Int.toNat x27.2) 1)).map (eO 3 eI))])})] (B6 (yba hv30).1 (map_get (eO 3 eI) (yba hv30).2) (show frR [.sl (some 3) (v30.map eI)] = false from rfl) (show getRow [[.sl (some 26) (x27.1.map (eO 3 eI))]] [(0, 0), ((Int.toNat x27.2), 0)] = some [.sl (some 3) (v30.map eI)] from ((gr0 rfl).trans (gre (map_get (eO 3 eI) (yba hv30).2)))) (yba hv31).1 (map_get eI (yba hv31).2) (A3 (show getRow [[.sl (some 26) (x27.1.map (eO 3 eI))]] [(0, 0), ((Int.toNat x27.2), 0)] = some [.sl (some 3) (v30.map eI)] from ((gr0 rfl).trans (gre (map_get (eO 3 eI) (yba hv30).2)))) (show getRow [[.sl (some 26) (x27.1.map (eO 3 eI))]] [(0, 0), ((Int.toNat x27.2), 0), ((Int.toNat x27.2), 0)] = some (eI v31) from ((gr0 rfl).trans ((grs (map_get (eO 3 eI) (yba hv30).2) rfl).trans (gre (map_get eI (yba hv31).2))))) (show (SV.ov false [.sl (some 26) (setL (x27.1.map (eO 3 eI)) [((Int.toNat x27.2), 0), ((Int.toNat x27.2), 0)] [rI 1])] : SV) = .ov false [.sl (some 26) ((x27.1.set (Int.toNat x27.2) (v30.set (Int.toNat x27.2) 1)).map (eO 3 eI))] from (congrArg (fun z => SV.ov false [.sl (some 26) z]) (set2 (f := (eO 3 eI)) (y := (v30.set (Int.toNat x27.2) 1)) (yba hv30).2 rfl (set1 (f := eI) (y := 1) (yba hv31).2 rfl) rfl)))))) ?_
   refine b_n ?_
   refine q_n ?_
   refine k_reg (r_gq [(0, .d false [.sl none (a0.map (eF eI))]), (1, .p (iV a1)), (2, .p (iV a2)), (7, .ov false [.sl (some 26) ((x27.1.set (Int.toNat x27.2) (v30.set (Int.toNat x27.2) 1)).map (eO 3 eI))]), (20, .p (iV (v1.length : Int))), (21, .p (iV (w64 (x27.2 + 1))))] [] trivial) ?_
   exact lqn ((x27.1.set (Int.toNat x27.2) (v30.set (Int.toNat x27.2) 1)), (w64 (x27.2 + 1))) h
  ·replace h := ite_f hc5_28 h
   refine k_exit ?_
   refine q_x ?_
   refine lq_x ?_
   refine b_x ?_
   have hyy := hy_x27 _ (oi h).symm
   subst hyy
   have h := hk_x27
   refine q_n ?_
   exact jx x27.1 h
theorem wk_impl_power {a0 : (List (List Int))} {a1 : Int}  {r : (List (List Int))} (h : impl_power a0 a1 = some r) : Meets Try.prog 120 [.d false [.sl none (a0.map (eF eI))], wI a1] { vals := [.ov false [.sl (some 26) (r.map (eO 3 eI))]] } := by
 refine mo Try.func120 [(0, .d false [.sl none (a0.map (eF eI))]), (1, .p (iV a1))] ?_
 unfold impl_power at h
 refine k_sreg (r_gq [(0, .d false [.sl none (a0.map (eF eI))]), (1, .p (iV a1))] [] trivial) ?_
 replace h := bs h
 obtain ⟨v1, hv1, h⟩ := h
 refine k_sreg (r_gq [(4, .ov false [.sl (some 26) (v1.map (eO 3 eI))])] [(2, {call := some (none, [.ov false [.sl (some 26) (v1.map (eO 3 eI))]], true)})] (A2 (wk_impl_powerUpTo hv1) (show List.all [.ov false [.sl (some 26) (v1.map (eO 3 eI))]] simpleR = true from (sa_o (wnR1 (wnL_enc (wn_O wn_I)) rfl) rfl)))) ?_
 refine k_ret ?_
 obtain rfl := oi h
 exact er [(.ov false [.sl (some 26) (v1.map (eO 3 eI))], 4)]
theorem wk_impl_closedWalks {a0 : (List (List Int))} {a1 : Int}  {r : (Int × Bool)} (h : impl_closedWalks a0 a1 = some r) : Meets Try.prog 70 [.d false [.sl none (a0.map (eF eI))], wI a1] { vals := [.p (iV r.1), .p (.bool r.2)] } := by
 refine mo Try.func70 [(0, .d false [.sl none (a0.map (eF eI))]), (1, .p (iV a1))] ?_
 unfold impl_closedWalks at h
 refine k_sreg (r_gq [(0, .d false [.sl none (a0.map (eF eI))]), (1, .p (iV a1))] [] trivial) ?_
 refine k_sreg (r_gq [(0, .d false [.sl none (a0.map (eF eI))]), (1, .p (iV a1)), (6, .p (iV 0))] [] trivial) ?_
 refine k_join (J := fun (x : Int) => [(6, .p (iV x))]) (K := fun x => impl_closedWalks_k1 x = some r) (fun x1 h => ?_) ?_
 ·unfold impl_closedWalks_k1 at h
  refine k_seq ?_
  refine k_sreg (r_gq [(6, .p (iV x1)), (26, .p (.bool (decide (x1 > 1000000000))))] [] trivial) ?_
  refine kc (decide (x1 > 1000000000)) (fun hc2_1 => ?_) (fun hc2_1 => ?_)
  ·replace h := ite_t hc2_1 h
   refine k_sreg (r_gq [(4, .p (iV 0)), (5, .p (.bool false))] [] trivial) ?_
   refine k_ret ?_
   refine q_r ?_
   obtain rfl := oi h
   exact er [(.p (iV 0), 4), (.p (.bool false), 5)]
  ·replace h := ite_f hc2_1 h
   refine k_skip ?_
   refine q_n ?_
   refine k_sreg (r_gq [(4, .p (iV x1)), (5, .p (.bool true))] [] trivial) ?_
   refine k_ret ?_
   obtain rfl := oi h
   exact er [(.p (iV x1), 4), (.p (.bool true), 5)]
 ·replace h := bs h
  obtain ⟨v3, hv3, h⟩ := h
  refine k_sreg (r_gq [(6, .p (iV 0)), (11, .ov false [.sl (some 26) (v3.map (eO 3 eI))]), (12, .p (iV (v3.length : Int))), (13, .p (iV 0))] [(2, {call := some (none, [.ov false [.sl (some 26) (v3.map (eO 3 eI))]], true)}), (3, {n := some v3.length})] (A3 (wk_impl_power hv3) (show List.all [.ov false [.sl (some 26) (v3.map (eO 3 eI))]] simpleR = true from (sa_o (wnR1 (wnL_enc (wn_O wn_I)) rfl) rfl)) (show (v3.map (eO 3 eI)).length = v3.length from (List.length_map ..)))) ?_
  refine k_block ?_
  obtain ⟨y5, hl_x4, hk_x4⟩ := bs h
  clear h
  refine k_loop (J := fun (x : Qr) => [(6, .p (iV x.1)), (11, .ov false [.sl (some 26) (v3.map (eO 3 eI))]), (12, .p (iV (v3.length : Int))), (13, .p (iV x.2))]) hl_x4 (wk_of (by kernel_rfl) (by kernel_rfl)) (fun x4 o_x4 h hy_x4 => ?_)
  unfold impl_closedWalks_b1 at h
  refine k_sreg (r_gq [(6, .p (iV x4.1)), (11, .ov false [.sl (some 26) (v3.map (eO 3 eI))]), (12, .p (iV (v3.length : Int))), (13, .p (iV x4.2)), (14, .p (.bool (decide (x4.2 < (v3.length : Int)))))] [] trivial) ?_
  refine k_seq ?_
  refine kc (decide (x4.2 < (v3.length : Int))) (fun hc5_5 => ?_) (fun hc5_5 => ?_)
  ·replace h := ite_t hc5_5 h
   refine k_skip ?_
   refine q_n ?_
   refine k_seq ?_
   refine k_block ?_
   replace h := bs h
   obtain ⟨v7, hv7, h⟩ := h
   refine k_sreg (r_gq [(6, .p (iV x4.1)), (7, .p (iV x4.2)), (8, .ref 11 [(0, 0), ((Int.toNat x4.2), 0)] none), (11, .ov false [.sl (some 26) (v3.map (eO 3 eI))]), (12, .p (iV (v3.length : Int))), (13, .p (iV x4.2))] [(1, {row := some [.sl (some 3) (v7.map eI)]}), (2, {row := some [.sl (some 3) (v7.map eI)]})] (A4 (yba hv7).1 (map_get (eO 3 eI) (yba hv7).2) (show frR [.sl (some 3) (v7.map eI)] = false from rfl) (show getRow [[.sl (some 26) (v3.map (eO 3 eI))]] [(0, 0), ((Int.toNat x4.2), 0)] = some [.sl (some 3) (v7.map eI)] from ((gr0 rfl).trans (gre (map_get (eO 3 eI) (yba hv7).2)))))) ?_
   replace h := bs h
   obtain ⟨v8, hv8, h⟩ := h
   refine k_reg (r_gq [(6, .p (iV (w64 (x4.1 + v8)))), (11, .ov false [.sl (some 26) (v3.map (eO 3 eI))]), (12, .p (iV (v3.length : Int))), (13, .p (iV x4.2))] [(3, {deep := some [.sl (some 3) (v7.map eI)], row := some (eI v8)}), (4, {row := some (eI v8)})] (A4 (yba hv8).1 (map_get eI (yba hv8).2) (show getRow [[.sl (some 26) (v3.map (eO 3 eI))]] [(0, 0), ((Int.toNat x4.2), 0)] = some [.sl (some 3) (v7.map eI)] from ((gr0 rfl).trans (gre (map_get (eO 3 eI) (yba hv7).2)))) (show getRow [[.sl (some 26) (v3.map (eO 3 eI))]] [(0, 0), ((Int.toNat x4.2), 0), ((Int.toNat x4.2), 0)] = some (eI v8) from ((gr0 rfl).trans ((grs (map_get (eO 3 eI) (yba hv7).2) rfl).trans (gre (map_get eI (yba hv8).2))))))) ?_
   refine b_n ?_
   refine q_n ?_
   refine k_reg (r_gq [(6, .p (iV (w64 (x4.1 + v8)))), (11, .ov false [.sl (some 26) (v3.map (eO 3 eI))]), (12, .p (iV (v3.length : Int))), (13, .p (iV (w64 (x4.2 + 1))))] [] trivial) ?_
   exact lqn ((w64 (x4.1 + v8)), (w64 (x4.2 + 1))) h
  ·replace h := ite_f hc5_5 h
   refine k_exit ?_
   refine q_x ?_
   refine lq_x ?_
   refine b_x ?_
   have hyy := hy_x4 _ (oi h).symm
   subst hyy
   have h := hk_x4
   refine q_n ?_
   exact jx x4.1 h
theorem wk_impl_TraceOf {a0 : (List (List Int))}  {r : (Int × Bool)} (h : impl_TraceOf a0 = some r) : Meets Try.prog 14 [.d false [.sl none (a0.map (eF eI))]] { vals := [.p (iV r.1), .p (.bool r.2)] } := by
 refine mo Try.func14 [(0, .d false [.sl none (a0.map (eF eI))])] ?_
 unfold impl_TraceOf at h
 refine k_sreg (r_gq [(0, .d false [.sl none (a0.map (eF eI))])] [] trivial) ?_
 refine k_seq ?_
 replace h := bs h
 obtain ⟨v1, hv1, h⟩ := h
 refine k_sreg (r_gq [(0, .d false [.sl none (a0.map (eF eI))]), (6, .p (.bool (!v1)))] [(1, {call := some (none, [.p (.bool v1)], true)})] (A1 (wk_impl_isGraph hv1))) ?_
 refine kc (!v1) (fun hc2_1 => ?_) (fun hc2_1 => ?_)
 ·replace h := ite_t hc2_1 h
  refine k_sreg (r_gq [(2, .p (iV 0)), (3, .p (.bool false))] [] trivial) ?_
  refine k_ret ?_
  refine q_r ?_
  obtain rfl := oi h
  exact er [(.p (iV 0), 2), (.p (.bool false), 3)]
 ·replace h := ite_f hc2_1 h
  refine k_skip ?_
  refine q_n ?_
  replace h := bs h
  obtain ⟨v3, hv3, h⟩ := h
  refine k_sreg (r_gq [(2, .p (iV v3.1)), (3, .p (.bool v3.2))] [(1, {call := some (none, [.p (iV v3.1), .p (.bool v3.2)], true)})] (A1 (wk_impl_closedWalks hv3))) ?_
  refine k_ret ?_
  obtain rfl := oi h
  exact er [(.p (iV v3.1), 2), (.p (.bool v3.2), 3)]
theorem wk_spec_TraceOf {a0 : (List (List Int))}  {r : (Int × Bool)} (h : spec_TraceOf a0 = some r) : Meets Try.prog 15 [.d false [.sl none (a0.map (eF eI))]] { vals := [.p (iV r.1), .p (.bool r.2)] } := by
 refine mo Try.func15 [(0, .d false [.sl none (a0.map (eF eI))])] ?_
 unfold spec_TraceOf at h
 refine k_sreg (r_gq [(0, .d false [.sl none (a0.map (eF eI))])] [] trivial) ?_
 refine k_seq ?_
 replace h := bs h
 obtain ⟨v1, hv1, h⟩ := h
 refine k_sreg (r_gq [(0, .d false [.sl none (a0.map (eF eI))]), (6, .p (.bool (!v1)))] [(1, {call := some (none, [.p (.bool v1)], true)})] (A1 (wk_spec_grGood hv1))) ?_
 refine kc (!v1) (fun hc2_1 => ?_) (fun hc2_1 => ?_)
 ·replace h := ite_t hc2_1 h
  refine k_sreg (r_gq [(2, .p (iV 0)), (3, .p (.bool false))] [] trivial) ?_
  refine k_ret ?_
  refine q_r ?_
  obtain rfl := oi h
  exact er [(.p (iV 0), 2), (.p (.bool false), 3)]
 ·replace h := ite_f hc2_1 h
  refine k_skip ?_
  refine q_n ?_
  replace h := bs h
  obtain ⟨v3, hv3, h⟩ := h
  refine k_sreg (r_gq [(2, .p (iV v3)), (3, .p (.bool true))] [(1, {call := some (none, [.p (iV v3)], true)})] (A1 (wk_spec_zeTrace hv3))) ?_
  refine k_ret ?_
  obtain rfl := oi h
  exact er [(.p (iV v3), 2), (.p (.bool true), 3)]
theorem wk_laws_sameInts {a0 : (List Int)} {a1 : (List Int)}  {r : Bool} (h : laws_sameInts a0 a1 = some r) : Meets Try.prog 16 [.d false [.sl none (a0.map eI)], .d false [.sl none (a1.map eI)]] { vals := [.p (.bool r)] } := by
 refine mo Try.func16 [(0, .d false [.sl none (a0.map eI)]), (1, .d false [.sl none (a1.map eI)])] ?_
 unfold laws_sameInts at h
 refine k_sreg (r_gq [(0, .d false [.sl none (a0.map eI)]), (1, .d false [.sl none (a1.map eI)])] [] trivial) ?_
 refine k_seq ?_
 refine k_sreg (r_gq [(0, .d false [.sl none (a0.map eI)]), (1, .d false [.sl none (a1.map eI)]), (10, .p (.bool ((a0.length : Int) != (a1.length : Int))))] [(1, {n := some a0.length}), (3, {n := some a1.length})] (A2 (show (a0.map eI).length = a0.length from (List.length_map ..)) (show (a1.map eI).length = a1.length from (List.length_map ..)))) ?_
 refine kc ((a0.length : Int) != (a1.length : Int)) (fun hc2_0 => ?_) (fun hc2_0 => ?_)
 ·replace h := ite_t hc2_0 h
  refine k_sreg (r_gq [(4, .p (.bool false))] [] trivial) ?_
  refine k_ret ?_
  refine q_r ?_
  obtain rfl := oi h
  exact er [(.p (.bool false), 4)]
 ·replace h := ite_f hc2_0 h
  refine k_skip ?_
  refine q_n ?_
  refine k_join (J := fun (x : Unit) => []) (K := fun x => laws_sameInts_k1 x = some r) (fun x2 h => ?_) ?_
  ·unfold laws_sameInts_k1 at h
   refine k_sreg (r_gq [(4, .p (.bool true))] [] trivial) ?_
   refine k_ret ?_
   obtain rfl := oi h
   exact er [(.p (.bool true), 4)]
  ·refine k_sreg (r_gq [(0, .d false [.sl none (a0.map eI)]), (1, .d false [.sl none (a1.map eI)]), (12, .p (iV (a0.length : Int))), (13, .p (iV 0))] [(1, {n := some a0.length})] (A1 (show (a0.map eI).length = a0.length from (List.length_map ..)))) ?_
   refine k_block ?_
   obtain ⟨y4, hl_x3, hk_x3⟩ := bs h
   clear h
   refine k_loop (J := fun (x : Int) => [(0, .d false [.sl none (a0.map eI)]), (1, .d false [.sl none (a1.map eI)]), (12, .p (iV (a0.length : Int))), (13, .p (iV x))]) hl_x3 (wk_of (by kernel_rfl) (by kernel_rfl)) (fun x3 o_x3 h hy_x3 => ?_)
   unfold laws_sameInts_b1 at h
   refine k_sreg (r_gq [(0, .d false [.sl none (a0.map eI)]), (1, .d false [.sl none (a1.map eI)]), (12, .p (iV (a0.length : Int))), (13, .p (iV x3)), (14, .p (.bool (decide (x3 < (a0.length : Int)))))] [] trivial) ?_
   refine k_seq ?_
   refine kc (decide (x3 < (a0.length : Int))) (fun hc5_4 => ?_) (fun hc5_4 => ?_)
   ·replace h := ite_t hc5_4 h
    refine k_skip ?_
    refine q_n ?_
    refine k_seq ?_
    refine k_block ?_
    refine k_sreg (r_gq [(0, .d false [.sl none (a0.map eI)]), (1, .d false [.sl none (a1.map eI)]), (5, .p (iV x3)), (12, .p (iV (a0.length : Int))), (13, .p (iV x3))] [] trivial) ?_
    replace h := bs h
    obtain ⟨v6, hv6, h⟩ := h
    replace h := bs h
    obtain ⟨v7, hv7, h⟩ := h
    refine k_sreg (r_dq Try_mixed 8 [] [(0, .d false [.sl none (a0.map eI)]), (1, .d false [.sl none (a1.map eI)]), (12, .p (iV (a0.length : Int))), (13, .p (iV x3)), (24, .p (.bool (v6 != v7)))] [(2, {row := some (eI v6)}), (6, {row := some (eI v7)})] (A4 (yba hv6).1 (map_get eI (yba hv6).2) (yba hv7).1 (map_get eI (yba hv7).2))) ?_
    refine kc (v6 != v7) (fun hc6_7 => ?_) (fun hc6_7 => ?_)
    ·replace h := ite_t hc6_7 h
     refine k_sreg (r_gq [(4, .p (.bool false))] [] trivial) ?_
     refine k_ret ?_
     refine b_r ?_
     refine q_r ?_
     refine lq_r ?_
     refine b_r ?_
     refine q_r ?_
     have hyy := hy_x3 _ (oi h).symm
     subst hyy
     have h := hk_x3
     dsimp only [Sum.elim] at h
     obtain rfl := oi h
     exact er [(.p (.bool false), 4)]
    ·replace h := ite_f hc6_7 h
     refine k_skip ?_
     refine b_n ?_
     refine q_n ?_
     refine k_reg (r_gq [(0, .d false [.sl none (a0.map eI)]), (1, .d false [.sl none (a1.map eI)]), (12, .p (iV (a0.length : Int))), (13, .p (iV (w64 (x3 + 1))))] [] trivial) ?_
     exact lqn (w64 (x3 + 1)) h
   ·replace h := ite_f hc5_4 h
    refine k_exit ?_
    refine q_x ?_
    refine lq_x ?_
    refine b_x ?_
    have hyy := hy_x3 _ (oi h).symm
    subst hyy
    have h := hk_x3
    dsimp only [Sum.elim] at h
    refine q_n ?_
    exact jx () h
theorem wk_impl_isMonic {a0 : (List Int)}  {r : Bool} (h : impl_isMonic a0 = some r) : Meets Try.prog 73 [.d false [.sl none (a0.map eI)]] { vals := [.p (.bool r)] } := by
 refine mo Try.func73 [(0, .d false [.sl none (a0.map eI)])] ?_
 unfold impl_isMonic at h
 refine k_sreg (r_gq [(0, .d false [.sl none (a0.map eI)])] [] trivial) ?_
 replace h := bs h
 obtain ⟨w2, hw2, h⟩ := h
 refine k_sreg (l1 := [(2, .p (.bool w2))]) ?_ ?_
 ·clear h
  rcases ft (decide ((a0.length : Int) > 0)) with ha0 | ha0
  ·replace hw2 := ite_t ha0 hw2
   replace hw2 := bs hw2
   obtain ⟨v1, hv1, hw2⟩ := hw2
   have hw2 := oi hw2
   subst hw2
   exact (r_gq [(2, .p (.bool (v1 == 1)))] [(1, {n := some a0.length}), (4, gT), (5, gT), (6, {g := some true, n := some a0.length}), (7, gT), (8, {g := some true, row := some (eI v1)}), (9, gT), (10, gT), (11, bT)] (B6 (show (a0.map eI).length = a0.length from (List.length_map ..)) ha0 ha0 ha0 (show (a0.map eI).length = a0.length from (List.length_map ..)) ha0 (A6 ha0 (yba hv1).1 (map_get eI (yba hv1).2) ha0 ha0 ha0)))
  ·replace hw2 := ite_f ha0 hw2
   have hw2 := oi hw2
   subst hw2
   exact (r_gq [(2, .p (.bool false))] [(1, {n := some a0.length}), (4, gF), (5, gF), (6, gF), (7, gF), (8, gF), (9, gF), (10, gF), (11, bF)] (B6 (show (a0.map eI).length = a0.length from (List.length_map ..)) ha0 ha0 ha0 ha0 ha0 (A3 ha0 ha0 ha0)))
 ·refine k_ret ?_
  obtain rfl := oi h
  exact er [(.p (.bool w2), 2)]
end Go.PV

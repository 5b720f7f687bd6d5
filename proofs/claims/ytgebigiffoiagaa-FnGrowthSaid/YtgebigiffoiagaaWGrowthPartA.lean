/-
  Walks through the functions that the law reaches: each answers as its plain definition does.
  Conditions: none.
-/
import Derived.KernelRfl
import Derived.Test.YtgebigiffoiagaaDf
import Derived.Test.YtgebigiffoiagaaProg
open Go Go.PV Go.Proofs
set_option linter.all false
namespace Go.PV
attribute [local irreducible] pvC pvL pvD sOp seqQ blockQ Meets MeetsB Ok OkL RegOk agree endQ seqL blockL loopQ endL endLB
theorem Try_mixed : Try.prog.follows .mixedOrders = true := by kernel_rfl
theorem Try_und5 : Try.prog.underlying 5 = some (.int .u8) := by kernel_rfl
theorem Try_und3 : Try.prog.underlying 3 = some (.int .i64) := by kernel_rfl
theorem Try_und76 : Try.prog.underlying 76 = some (.int .u64) := by kernel_rfl
theorem Try_und108 : Try.prog.underlying 108 = some (.int .u64) := by kernel_rfl
theorem wk_spec_l1Cur_next {a0 : ((List Int) × Int × Int)}  {r : (Int × ((List Int) × Int × Int))} (h : spec_l1Cur_next a0 = some r) : MeetsB Try.prog 142 (.box (eCu a0)) [] [.p (iV r.1)] (.box (eCu r.2)) := by
 refine MeetsB_ofL (by kernel_rfl) Try.func142 rfl (by kernel_rfl) rfl (l0 := [(0, .box (eCu a0))]) (by kernel_rfl) ?_
 unfold spec_l1Cur_next at h
 refine k_sreg (r_go [(0, .box (eCu a0))] [] [] (by kernel_rfl) trivial) ?_
 refine k_sreg (r_go [(0, .box (eCu a0)), (3, .p (iV 0))] [] [] (by kernel_rfl) trivial) ?_
 refine k_join (J := fun (x : Int) => [(0, .box (eCu a0)), (3, .p (iV x))]) (K := fun x => spec_l1Cur_next_k1 a0 x = some r) (fun x1 h => ?_) ?_
 ·unfold spec_l1Cur_next_k1 at h
  refine k_sreg (r_go [(0, .box [.sl none (a0.1.map (eU .u8)), rI (w64 (a0.2.1 + 1)), .raw (.int .u64 a0.2.2)]), (3, .p (iV x1))] [] [] (by kernel_rfl) trivial) ?_
  refine k_sreg (r_go [(0, .box [.sl none (a0.1.map (eU .u8)), rI (w64 (a0.2.1 + 1)), .raw (.int .u64 (IntKind.wrap .u64 ((IntKind.wrap .u64 ((IntKind.wrap .u64 (a0.2.2 * 6364136223846793005)) + (IntKind.wrap .u64 x1))) + 1442695040888963407)))]), (3, .p (iV x1))] [(7, {pv := some (.int .u64 (IntKind.wrap .u64 x1))})] [PureAt Try.prog (.convert 3 76 (.tmp 38)) [.int .i64 x1] (.int .u64 (IntKind.wrap .u64 x1))] (by kernel_rfl) ⟨(pure_conv Try_und3 Try_und76), trivial⟩) ?_
  refine k_seq ?_
  refine k_sreg (r_draw Try_mixed 9 [] [(0, .box [.sl none (a0.1.map (eU .u8)), rI (w64 (a0.2.1 + 1)), .raw (.int .u64 (IntKind.wrap .u64 ((IntKind.wrap .u64 ((IntKind.wrap .u64 (a0.2.2 * 6364136223846793005)) + (IntKind.wrap .u64 x1))) + 1442695040888963407)))]), (3, .p (iV x1)), (53, .p (.bool (decide ((w64 (a0.2.1 + 1)) ≤ (a0.1.length : Int)))))] [(7, {b := some true}), (8, {n := some a0.1.length})] [frR [.sl none (a0.1.map (eU .u8))] = true, (a0.1.map (eU .u8)).length = a0.1.length] (by kernel_rfl) ⟨(frR1 (frL_enc (fr_U .u8)) rfl), (List.length_map ..), trivial⟩) ?_
  refine k_cond (b := (decide ((w64 (a0.2.1 + 1)) ≤ (a0.1.length : Int)))) (by kernel_rfl) (fun hc2_1 => ?_) (fun hc2_1 => ?_)
  ·replace h := ite_t hc2_1 h
   refine k_sreg (r_go [(0, .box [.sl none (a0.1.map (eU .u8)), rI (w64 (a0.2.1 + 1)), .raw (.int .u64 (IntKind.wrap .u64 ((IntKind.wrap .u64 ((IntKind.wrap .u64 (a0.2.2 * 6364136223846793005)) + (IntKind.wrap .u64 x1))) + 1442695040888963407)))]), (2, .p (iV x1))] [] [] (by kernel_rfl) trivial) ?_
   refine k_ret ?_
   refine q_r ?_
   obtain rfl := oi h
   exact eb_ret (ls := [(.p (iV x1), 2)]) (by kernel_rfl) rfl rfl (by kernel_rfl) (by kernel_rfl)
  ·replace h := ite_f hc2_1 h
   refine k_skip ?_
   refine q_n ?_
   refine k_sreg (r_go [(0, .box [.sl none (a0.1.map (eU .u8)), rI (w64 (a0.2.1 + 1)), .raw (.int .u64 (IntKind.wrap .u64 ((IntKind.wrap .u64 ((IntKind.wrap .u64 (a0.2.2 * 6364136223846793005)) + (IntKind.wrap .u64 x1))) + 1442695040888963407)))]), (2, .p (iV (IntKind.wrap .i64 (iand .u64 (ishr .u64 (IntKind.wrap .u64 ((IntKind.wrap .u64 ((IntKind.wrap .u64 (a0.2.2 * 6364136223846793005)) + (IntKind.wrap .u64 x1))) + 1442695040888963407)) 40) 255))))] [(4, {pv := some (.int .u64 (ishr .u64 (IntKind.wrap .u64 ((IntKind.wrap .u64 ((IntKind.wrap .u64 (a0.2.2 * 6364136223846793005)) + (IntKind.wrap .u64 x1))) + 1442695040888963407)) 40))}), (5, {pv := some (.int .u64 (iand .u64 (ishr .u64 (IntKind.wrap .u64 ((IntKind.wrap .u64 ((IntKind.wrap .u64 (a0.2.2 * 6364136223846793005)) + (IntKind.wrap .u64 x1))) + 1442695040888963407)) 40) 255))}), (6, {pv := some (iV (IntKind.wrap .i64 (iand .u64 (ishr .u64 (IntKind.wrap .u64 ((IntKind.wrap .u64 ((IntKind.wrap .u64 (a0.2.2 * 6364136223846793005)) + (IntKind.wrap .u64 x1))) + 1442695040888963407)) 40) 255)))})] [PureAt Try.prog (.binOp .shr 76 (.tmp 58) (.const (.int .u64 40)) 108) [.int .u64 (IntKind.wrap .u64 ((IntKind.wrap .u64 ((IntKind.wrap .u64 (a0.2.2 * 6364136223846793005)) + (IntKind.wrap .u64 x1))) + 1442695040888963407)), .int .u64 40] (.int .u64 (ishr .u64 (IntKind.wrap .u64 ((IntKind.wrap .u64 ((IntKind.wrap .u64 (a0.2.2 * 6364136223846793005)) + (IntKind.wrap .u64 x1))) + 1442695040888963407)) 40)), PureAt Try.prog (.binOp .and 76 (.tmp 59) (.const (.int .u64 255)) 76) [.int .u64 (ishr .u64 (IntKind.wrap .u64 ((IntKind.wrap .u64 ((IntKind.wrap .u64 (a0.2.2 * 6364136223846793005)) + (IntKind.wrap .u64 x1))) + 1442695040888963407)) 40), .int .u64 255] (.int .u64 (iand .u64 (ishr .u64 (IntKind.wrap .u64 ((IntKind.wrap .u64 ((IntKind.wrap .u64 (a0.2.2 * 6364136223846793005)) + (IntKind.wrap .u64 x1))) + 1442695040888963407)) 40) 255)), PureAt Try.prog (.convert 76 3 (.tmp 60)) [.int .u64 (iand .u64 (ishr .u64 (IntKind.wrap .u64 ((IntKind.wrap .u64 ((IntKind.wrap .u64 (a0.2.2 * 6364136223846793005)) + (IntKind.wrap .u64 x1))) + 1442695040888963407)) 40) 255)] (iV (IntKind.wrap .i64 (iand .u64 (ishr .u64 (IntKind.wrap .u64 ((IntKind.wrap .u64 ((IntKind.wrap .u64 (a0.2.2 * 6364136223846793005)) + (IntKind.wrap .u64 x1))) + 1442695040888963407)) 40) 255)))] (by kernel_rfl) ⟨(pure_shr (by decide)), (pure_and), (pure_conv Try_und76 Try_und3), trivial⟩) ?_
   refine k_ret ?_
   obtain rfl := oi h
   exact eb_ret (ls := [(.p (iV (IntKind.wrap .i64 (iand .u64 (ishr .u64 (IntKind.wrap .u64 ((IntKind.wrap .u64 ((IntKind.wrap .u64 (a0.2.2 * 6364136223846793005)) + (IntKind.wrap .u64 x1))) + 1442695040888963407)) 40) 255))), 2)]) (by kernel_rfl) rfl rfl (by kernel_rfl) (by kernel_rfl)
 ·refine k_sreg (r_draw Try_mixed 9 [] [(0, .box (eCu a0)), (3, .p (iV 0)), (13, .p (.bool (decide (a0.2.1 < (a0.1.length : Int)))))] [(7, {b := some true}), (8, {n := some a0.1.length})] [frR [.sl none (a0.1.map (eU .u8))] = true, (a0.1.map (eU .u8)).length = a0.1.length] (by kernel_rfl) ⟨(frR1 (frL_enc (fr_U .u8)) rfl), (List.length_map ..), trivial⟩) ?_
  refine k_cond (b := (decide (a0.2.1 < (a0.1.length : Int)))) (by kernel_rfl) (fun hc2_2 => ?_) (fun hc2_2 => ?_)
  ·replace h := ite_t hc2_2 h
   replace h := bs' h
   obtain ⟨v4, hv4, h⟩ := h
   refine k_reg (r_draw Try_mixed 8 [] [(0, .box (eCu a0)), (3, .p (iV (IntKind.wrap .i64 v4)))] [(3, {b := some true}), (8, {row := some [.raw (.int .u8 v4)]}), (10, {pv := some (iV (IntKind.wrap .i64 v4))})] [frR [.sl none (a0.1.map (eU .u8))] = true, 0 ≤ a0.2.1, (a0.1.map (eU .u8))[(Int.toNat a0.2.1)]? = some [.raw (.int .u8 v4)], PureAt Try.prog (.convert 5 3 (.tmp 23)) [.int .u8 v4] (iV (IntKind.wrap .i64 v4))] (by kernel_rfl) ⟨(frR1 (frL_enc (fr_U .u8)) rfl), (idxO_some hv4).1, (map_get (eU .u8) (idxO_some hv4).2), (pure_conv Try_und5 Try_und3), trivial⟩) ?_
   refine q_n ?_
   exact ⟨(IntKind.wrap .i64 v4), h, (wk_of (by kernel_rfl) (by kernel_rfl))⟩
  ·replace h := ite_f hc2_2 h
   refine k_skip ?_
   refine q_n ?_
   exact ⟨0, h, (wk_of (by kernel_rfl) (by kernel_rfl))⟩
theorem wk_spec_l1Cur_pick {a0 : ((List Int) × Int × Int)} {a1 : Int}  {r : (Int × ((List Int) × Int × Int))} (h : spec_l1Cur_pick a0 a1 = some r) : MeetsB Try.prog 101 (.box (eCu a0)) [wI a1] [.p (iV r.1)] (.box (eCu r.2)) := by
 refine MeetsB_ofL (by kernel_rfl) Try.func101 rfl (by kernel_rfl) rfl (l0 := [(0, .box (eCu a0)), (1, .p (iV a1))]) (by kernel_rfl) ?_
 unfold spec_l1Cur_pick at h
 refine k_sreg (r_go [(0, .box (eCu a0)), (1, .p (iV a1))] [] [] (by kernel_rfl) trivial) ?_
 refine k_seq ?_
 refine k_sreg (r_go [(0, .box (eCu a0)), (1, .p (iV a1)), (7, .p (.bool (decide (a1 ≤ 1))))] [] [] (by kernel_rfl) trivial) ?_
 refine k_cond (b := (decide (a1 ≤ 1))) (by kernel_rfl) (fun hc2_0 => ?_) (fun hc2_0 => ?_)
 ·replace h := ite_t hc2_0 h
  refine k_sreg (r_go [(0, .box (eCu a0)), (4, .p (iV 0))] [] [] (by kernel_rfl) trivial) ?_
  refine k_ret ?_
  refine q_r ?_
  obtain rfl := oi h
  exact eb_ret (ls := [(.p (iV 0), 4)]) (by kernel_rfl) rfl rfl (by kernel_rfl) (by kernel_rfl)
 ·replace h := ite_f hc2_0 h
  refine k_skip ?_
  refine q_n ?_
  replace h := bs' h
  obtain ⟨v2, hv2, h⟩ := h
  refine k_sreg (r_go [(0, .box (eCu v2.2)), (1, .p (iV a1)), (5, .p (iV v2.1))] [(1, {lend := some ([], [.p (iV v2.1)], .box (eCu v2.2), false)})] [([] : List Arg) = [], MeetsB Try.prog 142 (.box (eCu a0)) [] [.p (iV v2.1)] (.box (eCu v2.2)), (!false || (List.all [.p (iV v2.1)] simpleR && wnS (.box (eCu v2.2)))) = true] (by kernel_rfl) ⟨rfl, (wk_spec_l1Cur_next hv2), rfl, trivial⟩) ?_
  refine k_join (J := fun (x : ((List Int) × Int × Int × Int)) => [(0, .box (eCu (x.1, x.2.1, x.2.2.1))), (1, .p (iV a1)), (5, .p (iV x.2.2.2))]) (K := fun x => spec_l1Cur_pick_k1 a1 x = some r) (fun x3 h => ?_) ?_
  ·unfold spec_l1Cur_pick_k1 at h
   replace h := bs' h
   obtain ⟨u4, hu4, h⟩ := h
   refine k_sreg (r_go [(0, .box (eCu (x3.1, x3.2.1, x3.2.2.1))), (4, .p (iV (Int.tmod x3.2.2.2 a1)))] [] [a1 ≠ (0 : Int)] (by kernel_rfl) ⟨(guardO_some hu4), trivial⟩) ?_
   refine k_ret ?_
   obtain rfl := oi h
   exact eb_ret (ls := [(.p (iV (Int.tmod x3.2.2.2 a1)), 4)]) (by kernel_rfl) rfl rfl (by kernel_rfl) (by kernel_rfl)
  ·refine k_sreg (r_go [(0, .box (eCu v2.2)), (1, .p (iV a1)), (5, .p (iV v2.1)), (11, .p (.bool (decide (a1 > 200))))] [] [] (by kernel_rfl) trivial) ?_
   refine k_cond (b := (decide (a1 > 200))) (by kernel_rfl) (fun hc2_4 => ?_) (fun hc2_4 => ?_)
   ·replace h := ite_t hc2_4 h
    replace h := bs' h
    obtain ⟨v6, hv6, h⟩ := h
    refine k_reg (r_go [(0, .box (eCu v6.2)), (1, .p (iV a1)), (5, .p (iV (w64 ((w64 (v2.1 * 256)) + v6.1))))] [(3, {lend := some ([], [.p (iV v6.1)], .box (eCu v6.2), false)})] [([] : List Arg) = [], MeetsB Try.prog 142 (.box (eCu v2.2)) [] [.p (iV v6.1)] (.box (eCu v6.2)), (!false || (List.all [.p (iV v6.1)] simpleR && wnS (.box (eCu v6.2)))) = true] (by kernel_rfl) ⟨rfl, (wk_spec_l1Cur_next hv6), rfl, trivial⟩) ?_
    refine q_n ?_
    exact ⟨(v6.2.1, v6.2.2.1, v6.2.2.2, (w64 ((w64 (v2.1 * 256)) + v6.1))), h, (wk_of (by kernel_rfl) (by kernel_rfl))⟩
   ·replace h := ite_f hc2_4 h
    refine k_skip ?_
    refine q_n ?_
    exact ⟨(v2.2.1, v2.2.2.1, v2.2.2.2, v2.1), h, (wk_of (by kernel_rfl) (by kernel_rfl))⟩
theorem wk_spec_l1Cur_one {a0 : ((List Int) × Int × Int)} {a1 : Int}  {r : (Bool × ((List Int) × Int × Int))} (h : spec_l1Cur_one a0 a1 = some r) : MeetsB Try.prog 100 (.box (eCu a0)) [wI a1] [.p (.bool r.1)] (.box (eCu r.2)) := by
 refine MeetsB_ofL (by kernel_rfl) Try.func100 rfl (by kernel_rfl) rfl (l0 := [(0, .box (eCu a0)), (1, .p (iV a1))]) (by kernel_rfl) ?_
 unfold spec_l1Cur_one at h
 refine k_sreg (r_go [(0, .box (eCu a0)), (1, .p (iV a1))] [] [] (by kernel_rfl) trivial) ?_
 replace h := bs' h
 obtain ⟨v1, hv1, h⟩ := h
 refine k_sreg (r_go [(0, .box (eCu v1.2)), (4, .p (.bool (v1.1 == 0)))] [(2, {lend := some ([wI a1], [.p (iV v1.1)], .box (eCu v1.2), false)})] [([wI a1] : List Arg) = [wI a1], MeetsB Try.prog 101 (.box (eCu a0)) [wI a1] [.p (iV v1.1)] (.box (eCu v1.2)), (!false || (List.all [.p (iV v1.1)] simpleR && wnS (.box (eCu v1.2)))) = true] (by kernel_rfl) ⟨rfl, (wk_spec_l1Cur_pick hv1), rfl, trivial⟩) ?_
 refine k_ret ?_
 obtain rfl := oi h
 exact eb_ret (ls := [(.p (.bool (v1.1 == 0)), 4)]) (by kernel_rfl) rfl rfl (by kernel_rfl) (by kernel_rfl)
theorem wk_spec_l1Cur_among {a0 : ((List Int) × Int × Int)} {a1 : (List Int)}  {r : (Int × ((List Int) × Int × Int))} (h : spec_l1Cur_among a0 a1 = some r) : MeetsB Try.prog 121 (.box (eCu a0)) [.d false [.sl none (a1.map eI)]] [.p (iV r.1)] (.box (eCu r.2)) := by
 refine MeetsB_ofL (by kernel_rfl) Try.func121 rfl (by kernel_rfl) rfl (l0 := [(0, .box (eCu a0)), (1, .d false [.sl none (a1.map eI)])]) (by kernel_rfl) ?_
 unfold spec_l1Cur_among at h
 refine k_sreg (r_go [(0, .box (eCu a0)), (1, .d false [.sl none (a1.map eI)])] [] [] (by kernel_rfl) trivial) ?_
 replace h := bs' h
 obtain ⟨v1, hv1, h⟩ := h
 replace h := bs' h
 obtain ⟨v2, hv2, h⟩ := h
 refine k_sreg (r_go [(0, .box (eCu v1.2)), (4, .p (iV v2))] [(3, {n := some a1.length}), (4, {lend := some ([wI (a1.length : Int)], [.p (iV v1.1)], .box (eCu v1.2), false)}), (5, {row := some (eI v2)})] [(a1.map eI).length = a1.length, ([wI (a1.length : Int)] : List Arg) = [wI (a1.length : Int)], MeetsB Try.prog 101 (.box (eCu a0)) [wI (a1.length : Int)] [.p (iV v1.1)] (.box (eCu v1.2)), (!false || (List.all [.p (iV v1.1)] simpleR && wnS (.box (eCu v1.2)))) = true, 0 ≤ v1.1, (a1.map eI)[(Int.toNat v1.1)]? = some (eI v2)] (by kernel_rfl) ⟨(List.length_map ..), rfl, (wk_spec_l1Cur_pick hv1), rfl, (idxO_some hv2).1, (map_get eI (idxO_some hv2).2), trivial⟩) ?_
 refine k_ret ?_
 obtain rfl := oi h
 exact eb_ret (ls := [(.p (iV v2), 4)]) (by kernel_rfl) rfl rfl (by kernel_rfl) (by kernel_rfl)
theorem wk_spec_l1Cur_graph {a0 : ((List Int) × Int × Int)}  {r : ((List (List Int)) × ((List Int) × Int × Int))} (h : spec_l1Cur_graph a0 = some r) : MeetsB Try.prog 122 (.box (eCu a0)) [] [.ov false [.sl (some 26) (r.1.map (eO 3 eI))]] (.box (eCu r.2)) := by
 refine MeetsB_ofL (by kernel_rfl) Try.func122 rfl (by kernel_rfl) rfl (l0 := [(0, .box (eCu a0))]) (by kernel_rfl) ?_
 unfold spec_l1Cur_graph at h
 refine k_sreg (r_go [(0, .box (eCu a0))] [] [] (by kernel_rfl) trivial) ?_
 replace h := bs' h
 obtain ⟨v1, hv1, h⟩ := h
 refine k_sreg (r_go [(0, .box (eCu v1.2)), (3, .p (iV (w64 (1 + v1.1))))] [(1, {lend := some ([wI 4], [.p (iV v1.1)], .box (eCu v1.2), false)})] [([wI 4] : List Arg) = [wI 4], MeetsB Try.prog 101 (.box (eCu a0)) [wI 4] [.p (iV v1.1)] (.box (eCu v1.2)), (!false || (List.all [.p (iV v1.1)] simpleR && wnS (.box (eCu v1.2)))) = true] (by kernel_rfl) ⟨rfl, (wk_spec_l1Cur_pick hv1), rfl, trivial⟩) ?_
 refine k_join (J := fun (x : ((List Int) × Int × Int × Int)) => [(0, .box (eCu (x.1, x.2.1, x.2.2.1))), (3, .p (iV x.2.2.2))]) (K := fun x => spec_l1Cur_graph_k1 x = some r) (fun x2 h => ?_) ?_
 ·unfold spec_l1Cur_graph_k1 at h
  replace h := bs' h
  obtain ⟨v3, hv3, h⟩ := h
  refine k_sreg (r_go [(0, .box (eCu v3.2)), (3, .p (iV x2.2.2.2)), (4, .p (iV v3.1))] [(2, {lend := some ([.d false [.sl none (([2, 2, 3]).map eI)]], [.p (iV v3.1)], .box (eCu v3.2), false), fix := some (21, .d false [.sl none (([2, 2, 3]).map eI)])})] [([.d false [.sl none (eraL (([2, 2, 3]).map eI))]] : List Arg) = [.d false [.sl none (([2, 2, 3]).map eI)]], MeetsB Try.prog 121 (.box (eCu (x2.1, x2.2.1, x2.2.2.1))) [.d false [.sl none (([2, 2, 3]).map eI)]] [.p (iV v3.1)] (.box (eCu v3.2)), (!false || (List.all [.p (iV v3.1)] simpleR && wnS (.box (eCu v3.2)))) = true, (SV.d false (eraR [.sl (some 3) (([2, 2, 3]).map eI)]) : SV) = .d false [.sl none (([2, 2, 3]).map eI)]] (by kernel_rfl) ⟨(by simp only [eraL_enc (h := eI) er_I]), (wk_spec_l1Cur_among hv3), rfl, (congrArg (fun z => SV.d false z) (erc_sl (eraL_enc er_I) rfl)), trivial⟩) ?_
  refine k_sreg (r_go [(0, .box (eCu v3.2)), (3, .p (iV x2.2.2.2)), (4, .p (iV v3.1)), (5, .ov false [.sl (some 26) []])] [] [] (by kernel_rfl) trivial) ?_
  refine k_join (J := fun (x : ((List Int) × Int × Int × (List (List Int)))) => [(0, .box (eCu (x.1, x.2.1, x.2.2.1))), (3, .p (iV x2.2.2.2)), (5, .ov false [.sl (some 26) (x.2.2.2.map (eO 3 eI))])]) (K := fun x => spec_l1Cur_graph_k2 x2 x = some r) (fun x4 h => ?_) ?_
  ·unfold spec_l1Cur_graph_k2 at h
   refine k_join (J := fun (x : ((List Int) × Int × Int × (List (List Int)))) => [(0, .box (eCu (x.1, x.2.1, x.2.2.1))), (5, .ov false [.sl (some 26) (x.2.2.2.map (eO 3 eI))])]) (K := fun x => spec_l1Cur_graph_k3 x = some r) (fun x5 h => ?_) ?_
   ·unfold spec_l1Cur_graph_k3 at h
    refine k_join (J := fun (x : ((List Int) × Int × Int × (List (List Int)))) => [(0, .box (eCu (x.1, x.2.1, x.2.2.1))), (5, .ov false [.sl (some 26) (x.2.2.2.map (eO 3 eI))])]) (K := fun x => spec_l1Cur_graph_k4 x = some r) (fun x6 h => ?_) ?_
    ·unfold spec_l1Cur_graph_k4 at h
     refine k_sreg (r_go [(0, .box (eCu (x6.1, x6.2.1, x6.2.2.1))), (2, .ov false [.sl (some 26) (x6.2.2.2.map (eO 3 eI))])] [] [] (by kernel_rfl) trivial) ?_
     refine k_ret ?_
     obtain rfl := oi h
     exact eb_ret (ls := [(.ov false [.sl (some 26) (x6.2.2.2.map (eO 3 eI))], 2)]) (by kernel_rfl) rfl rfl (by kernel_rfl) (by kernel_rfl)
    ·replace h := bs' h
     obtain ⟨v7, hv7, h⟩ := h
     refine k_sreg (r_go [(0, .box (eCu v7.2)), (5, .ov false [.sl (some 26) (x5.2.2.2.map (eO 3 eI))]), (75, .p (.bool v7.1))] [(1, {lend := some ([wI 16], [.p (.bool v7.1)], .box (eCu v7.2), false)})] [([wI 16] : List Arg) = [wI 16], MeetsB Try.prog 100 (.box (eCu (x5.1, x5.2.1, x5.2.2.1))) [wI 16] [.p (.bool v7.1)] (.box (eCu v7.2)), (!false || (List.all [.p (.bool v7.1)] simpleR && wnS (.box (eCu v7.2)))) = true] (by kernel_rfl) ⟨rfl, (wk_spec_l1Cur_one hv7), rfl, trivial⟩) ?_
     refine k_cond (b := v7.1) (by kernel_rfl) (fun hc2_7 => ?_) (fun hc2_7 => ?_)
     ·replace h := ite_t hc2_7 h
      refine k_sreg (r_go [(0, .box (eCu v7.2)), (5, .ov false [.sl (some 26) (x5.2.2.2.map (eO 3 eI))]), (77, .p (iV (x5.2.2.2.length : Int))), (78, .p (iV 0))] [(1, {n := some x5.2.2.2.length})] [(x5.2.2.2.map (eO 3 eI)).length = x5.2.2.2.length] (by kernel_rfl) ⟨(List.length_map ..), trivial⟩) ?_
      refine k_block ?_
      obtain ⟨y10, hl_x9, hk_x9⟩ := bs' h
      clear h
      refine k_loop (J := fun (x : ((List (List Int)) × Int)) => [(0, .box (eCu v7.2)), (5, .ov false [.sl (some 26) (x.1.map (eO 3 eI))]), (77, .p (iV (x5.2.2.2.length : Int))), (78, .p (iV x.2))]) hl_x9 (wk_of (by kernel_rfl) (by kernel_rfl)) (fun x9 o_x9 h hy_x9 => ?_)
      unfold spec_l1Cur_graph_b1 at h
      refine k_sreg (r_go [(0, .box (eCu v7.2)), (5, .ov false [.sl (some 26) (x9.1.map (eO 3 eI))]), (77, .p (iV (x5.2.2.2.length : Int))), (78, .p (iV x9.2)), (79, .p (.bool (decide (x9.2 < (x5.2.2.2.length : Int)))))] [] [] (by kernel_rfl) trivial) ?_
      refine k_seq ?_
      refine k_cond (b := (decide (x9.2 < (x5.2.2.2.length : Int)))) (by kernel_rfl) (fun hc5_10 => ?_) (fun hc5_10 => ?_)
      ·replace h := ite_t hc5_10 h
       refine k_skip ?_
       refine q_n ?_
       refine k_join (J := fun (x : (List (List Int))) => [(0, .box (eCu v7.2)), (5, .ov false [.sl (some 26) (x.map (eO 3 eI))]), (77, .p (iV (x5.2.2.2.length : Int))), (78, .p (iV x9.2))]) (K := fun x => spec_l1Cur_graph_k5 x9 x = some o_x9) (fun x12 h => ?_) ?_
       ·unfold spec_l1Cur_graph_k5 at h
        refine k_reg (r_go [(0, .box (eCu v7.2)), (5, .ov false [.sl (some 26) (x12.map (eO 3 eI))]), (77, .p (iV (x5.2.2.2.length : Int))), (78, .p (iV (w64 (x9.2 + 1))))] [] [] (by kernel_rfl) trivial) ?_
        exact lq_n (x12, (w64 (x9.2 + 1))) (oi h).symm (wk_of (by kernel_rfl) (by kernel_rfl))
       ·refine k_block ?_
        refine k_sreg (r_go [(0, .box (eCu v7.2)), (5, .ov false [.sl (some 26) (x9.1.map (eO 3 eI))]), (10, .p (iV x9.2)), (77, .p (iV (x5.2.2.2.length : Int))), (78, .p (iV x9.2))] [] [] (by kernel_rfl) trivial) ?_
        replace h := bs' h
        obtain ⟨v13, hv13, h⟩ := h
        refine k_sreg (r_go [(0, .box (eCu v7.2)), (5, .ov false [.sl (some 26) (x9.1.map (eO 3 eI))]), (10, .p (iV x9.2)), (77, .p (iV (x5.2.2.2.length : Int))), (78, .p (iV x9.2)), (85, .p (iV (v13.length : Int))), (86, .p (iV 0))] [(2, {row := some [.sl (some 3) (v13.map eI)]}), (3, {row := some [.sl (some 3) (v13.map eI)]}), (4, {deep := some [.sl (some 3) (v13.map eI)], n := some v13.length})] [0 ≤ x9.2, (x9.1.map (eO 3 eI))[(Int.toNat x9.2)]? = some [.sl (some 3) (v13.map eI)], frR [.sl (some 3) (v13.map eI)] = false, getRow [[.sl (some 26) (x9.1.map (eO 3 eI))]] [(0, 0), ((Int.toNat x9.2), 0)] = some [.sl (some 3) (v13.map eI)], (v13.map eI).length = v13.length, getRow [[.sl (some 26) (x9.1.map (eO 3 eI))]] [(0, 0), ((Int.toNat x9.2), 0)] = some [.sl (some 3) (v13.map eI)]] (by kernel_rfl) ⟨(idxO_some hv13).1, (map_get (eO 3 eI) (idxO_some hv13).2), rfl, ((gr0 rfl).trans (gre (map_get (eO 3 eI) (idxO_some hv13).2))), (List.length_map ..), ((gr0 rfl).trans (gre (map_get (eO 3 eI) (idxO_some hv13).2))), trivial⟩) ?_
        refine k_block ?_
        obtain ⟨y15, hl_x14, hk_x14⟩ := bs' h
        clear h
        refine k_loop (J := fun (x : ((List (List Int)) × Int)) => [(0, .box (eCu v7.2)), (5, .ov false [.sl (some 26) (x.1.map (eO 3 eI))]), (10, .p (iV x9.2)), (77, .p (iV (x5.2.2.2.length : Int))), (78, .p (iV x9.2)), (85, .p (iV (v13.length : Int))), (86, .p (iV x.2))]) hl_x14 (wk_of (by kernel_rfl) (by kernel_rfl)) (fun x14 o_x14 h hy_x14 => ?_)
        unfold spec_l1Cur_graph_b2 at h
        refine k_sreg (r_go [(0, .box (eCu v7.2)), (5, .ov false [.sl (some 26) (x14.1.map (eO 3 eI))]), (10, .p (iV x9.2)), (77, .p (iV (x5.2.2.2.length : Int))), (78, .p (iV x9.2)), (85, .p (iV (v13.length : Int))), (86, .p (iV x14.2)), (87, .p (.bool (decide (x14.2 < (v13.length : Int)))))] [] [] (by kernel_rfl) trivial) ?_
        refine k_seq ?_
        refine k_cond (b := (decide (x14.2 < (v13.length : Int)))) (by kernel_rfl) (fun hc9_15 => ?_) (fun hc9_15 => ?_)
        ·replace h := ite_t hc9_15 h
         refine k_skip ?_
         refine q_n ?_
         refine k_seq ?_
         refine k_block ?_
         refine k_sreg (r_go [(0, .box (eCu v7.2)), (5, .ov false [.sl (some 26) (x14.1.map (eO 3 eI))]), (10, .p (iV x9.2)), (11, .p (iV x14.2)), (77, .p (iV (x5.2.2.2.length : Int))), (78, .p (iV x9.2)), (85, .p (iV (v13.length : Int))), (86, .p (iV x14.2))] [] [] (by kernel_rfl) trivial) ?_
         replace h := bs' h
         obtain ⟨v17, hv17, h⟩ := h
         replace h := bs' h
         obtain ⟨v18, hv18, h⟩ := h
         refine k_reg (r_go [(0, .box (eCu v7.2)), (5, .ov false [.sl (some 26) ((x14.1.set (Int.toNat x9.2) (v17.set (Int.toNat x14.2) 9)).map (eO 3 eI))]), (10, .p (iV x9.2)), (77, .p (iV (x5.2.2.2.length : Int))), (78, .p (iV x9.2)), (85, .p (iV (v13.length : Int))), (86, .p (iV x14.2))] [(2, {row := some [.sl (some 3) (v17.map eI)]}), (3, {row := some [.sl (some 3) (v17.map eI)]}), (5, {deep := some [.sl (some 3) (v17.map eI)], row := some (eI v18)}), (6, {row := some (eI v18), fix := some (5, .ov false [.sl (some 26) ((x14.1.set (Int.toNat x9.2) (v17.set (Int.toNat x14.2) 9)).map (eO 3 eI))])})] [0 ≤ x9.2, (x14.1.map (eO 3 eI))[(Int.toNat x9.2)]? = some [.sl (some 3) (v17.map eI)], frR [.sl (some 3) (v17.map eI)] = false, getRow [[.sl (some 26) (x14.1.map (eO 3 eI))]] [(0, 0), ((Int.toNat x9.2), 0)] = some [.sl (some 3) (v17.map eI)], 0 ≤ x14.2, (v17.map eI)[(Int.toNat x14.2)]? = some (eI v18), getRow [[.sl (some 26) (x14.1.map (eO 3 eI))]] [(0, 0), ((Int.toNat x9.2), 0)] = some [.sl (some 3) (v17.map eI)], getRow [[.sl (some 26) (x14.1.map (eO 3 eI))]] [(0, 0), ((Int.toNat x9.2), 0), ((Int.toNat x14.2), 0)] = some (eI v18), (SV.ov false [.sl (some 26) (setL (x14.1.map (eO 3 eI)) [((Int.toNat x9.2), 0), ((Int.toNat x14.2), 0)] [rI 9])] : SV) = .ov false [.sl (some 26) ((x14.1.set (Int.toNat x9.2) (v17.set (Int.toNat x14.2) 9)).map (eO 3 eI))]] (by kernel_rfl) ⟨(idxO_some hv17).1, (map_get (eO 3 eI) (idxO_some hv17).2), rfl, ((gr0 rfl).trans (gre (map_get (eO 3 eI) (idxO_some hv17).2))), (idxO_some hv18).1, (map_get eI (idxO_some hv18).2), ((gr0 rfl).trans (gre (map_get (eO 3 eI) (idxO_some hv17).2))), ((gr0 rfl).trans ((grs (map_get (eO 3 eI) (idxO_some hv17).2) rfl).trans (gre (map_get eI (idxO_some hv18).2)))), (congrArg (fun z => SV.ov false [.sl (some 26) z]) (set2 (f := (eO 3 eI)) (y := (v17.set (Int.toNat x14.2) 9)) (idxO_some hv17).2 rfl (set1 (f := eI) (y := 9) (idxO_some hv18).2 rfl) rfl)), trivial⟩) ?_
         refine b_n ?_
         refine q_n ?_
         refine k_reg (r_go [(0, .box (eCu v7.2)), (5, .ov false [.sl (some 26) ((x14.1.set (Int.toNat x9.2) (v17.set (Int.toNat x14.2) 9)).map (eO 3 eI))]), (10, .p (iV x9.2)), (77, .p (iV (x5.2.2.2.length : Int))), (78, .p (iV x9.2)), (85, .p (iV (v13.length : Int))), (86, .p (iV (w64 (x14.2 + 1))))] [] [] (by kernel_rfl) trivial) ?_
         exact lq_n ((x14.1.set (Int.toNat x9.2) (v17.set (Int.toNat x14.2) 9)), (w64 (x14.2 + 1))) (oi h).symm (wk_of (by kernel_rfl) (by kernel_rfl))
        ·replace h := ite_f hc9_15 h
         refine k_exit ?_
         refine q_x ?_
         refine lq_x ?_
         refine b_x ?_
         refine b_n ?_
         have hyy := hy_x14 _ (oi h).symm
         subst hyy
         have h := hk_x14
         refine q_n ?_
         exact ⟨x14.1, h, (wk_of (by kernel_rfl) (by kernel_rfl))⟩
      ·replace h := ite_f hc5_10 h
       refine k_exit ?_
       refine q_x ?_
       refine lq_x ?_
       refine b_x ?_
       have hyy := hy_x9 _ (oi h).symm
       subst hyy
       have h := hk_x9
       refine q_n ?_
       exact ⟨(v7.2.1, v7.2.2.1, v7.2.2.2, x9.1), h, (wk_of (by kernel_rfl) (by kernel_rfl))⟩
     ·replace h := ite_f hc2_7 h
      refine k_skip ?_
      refine q_n ?_
      exact ⟨(v7.2.1, v7.2.2.1, v7.2.2.2, x5.2.2.2), h, (wk_of (by kernel_rfl) (by kernel_rfl))⟩
   ·replace h := bs' h
    obtain ⟨v19, hv19, h⟩ := h
    refine k_sreg (r_go [(0, .box (eCu v19.2)), (3, .p (iV x2.2.2.2)), (5, .ov false [.sl (some 26) (x4.2.2.2.map (eO 3 eI))]), (60, .p (.bool v19.1))] [(1, {lend := some ([wI 12], [.p (.bool v19.1)], .box (eCu v19.2), false)})] [([wI 12] : List Arg) = [wI 12], MeetsB Try.prog 100 (.box (eCu (x4.1, x4.2.1, x4.2.2.1))) [wI 12] [.p (.bool v19.1)] (.box (eCu v19.2)), (!false || (List.all [.p (.bool v19.1)] simpleR && wnS (.box (eCu v19.2)))) = true] (by kernel_rfl) ⟨rfl, (wk_spec_l1Cur_one hv19), rfl, trivial⟩) ?_
    refine k_cond (b := v19.1) (by kernel_rfl) (fun hc2_19 => ?_) (fun hc2_19 => ?_)
    ·replace h := ite_t hc2_19 h
     replace h := bs' h
     obtain ⟨v21, hv21, h⟩ := h
     replace h := bs' h
     obtain ⟨v22, hv22, h⟩ := h
     replace h := bs' h
     obtain ⟨v23, hv23, h⟩ := h
     replace h := bs' h
     obtain ⟨v24, hv24, h⟩ := h
     replace h := bs' h
     obtain ⟨v25, hv25, h⟩ := h
     refine k_reg (r_draw Try_mixed 12 [(3, 0), (8, 0), (11, 0)] [(0, .box (eCu v24.2)), (5, .ov false [.sl (some 26) ((x4.2.2.2.set (Int.toNat v21.1) (v22.set (Int.toNat v23.1) v24.1)).map (eO 3 eI))])] [(3, {lend := some ([wI x2.2.2.2], [.p (iV v21.1)], .box (eCu v21.2), false)}), (4, {row := some [.sl (some 3) (v22.map eI)]}), (5, {row := some [.sl (some 3) (v22.map eI)]}), (8, {lend := some ([wI x2.2.2.2], [.p (iV v23.1)], .box (eCu v23.2), false)}), (10, {pre := some (0, .u), fix := some (71, .d false [.sl none (([3, 9]).map eI)])}), (11, {lend := some ([.d false [.sl none (([3, 9]).map eI)]], [.p (iV v24.1)], .box (eCu v24.2), false)}), (12, {deep := some [.sl (some 3) (v22.map eI)], row := some (eI v25)}), (13, {row := some (eI v25), fix := some (5, .ov false [.sl (some 26) ((x4.2.2.2.set (Int.toNat v21.1) (v22.set (Int.toNat v23.1) v24.1)).map (eO 3 eI))])})] [([wI x2.2.2.2] : List Arg) = [wI x2.2.2.2], MeetsB Try.prog 101 (.box (eCu v19.2)) [wI x2.2.2.2] [.p (iV v21.1)] (.box (eCu v21.2)), List.all [.p (iV v21.1)] simpleR = true, 0 ≤ v21.1, (x4.2.2.2.map (eO 3 eI))[(Int.toNat v21.1)]? = some [.sl (some 3) (v22.map eI)], frR [.sl (some 3) (v22.map eI)] = false, getRow [[.sl (some 26) (x4.2.2.2.map (eO 3 eI))]] [(0, 0), ((Int.toNat v21.1), 0)] = some [.sl (some 3) (v22.map eI)], ([wI x2.2.2.2] : List Arg) = [wI x2.2.2.2], MeetsB Try.prog 101 (.box (eCu v21.2)) [wI x2.2.2.2] [.p (iV v23.1)] (.box (eCu v23.2)), List.all [.p (iV v23.1)] simpleR = true, (SV.d false (eraR [.sl (some 3) (([3, 9]).map eI)]) : SV) = .d false [.sl none (([3, 9]).map eI)], ([.d false [.sl none (([3, 9]).map eI)]] : List Arg) = [.d false [.sl none (([3, 9]).map eI)]], MeetsB Try.prog 121 (.box (eCu v23.2)) [.d false [.sl none (([3, 9]).map eI)]] [.p (iV v24.1)] (.box (eCu v24.2)), List.all [.p (iV v24.1)] simpleR = true, 0 ≤ v23.1, (v22.map eI)[(Int.toNat v23.1)]? = some (eI v25), getRow [[.sl (some 26) (x4.2.2.2.map (eO 3 eI))]] [(0, 0), ((Int.toNat v21.1), 0)] = some [.sl (some 3) (v22.map eI)], getRow [[.sl (some 26) (x4.2.2.2.map (eO 3 eI))]] [(0, 0), ((Int.toNat v21.1), 0), ((Int.toNat v23.1), 0)] = some (eI v25), (SV.ov false [.sl (some 26) (setL (x4.2.2.2.map (eO 3 eI)) [((Int.toNat v21.1), 0), ((Int.toNat v23.1), 0)] (eI v24.1))] : SV) = .ov false [.sl (some 26) ((x4.2.2.2.set (Int.toNat v21.1) (v22.set (Int.toNat v23.1) v24.1)).map (eO 3 eI))]] (by kernel_rfl) ⟨rfl, (wk_spec_l1Cur_pick hv21), rfl, (idxO_some hv22).1, (map_get (eO 3 eI) (idxO_some hv22).2), rfl, ((gr0 rfl).trans (gre (map_get (eO 3 eI) (idxO_some hv22).2))), rfl, (wk_spec_l1Cur_pick hv23), rfl, (congrArg (fun z => SV.d false z) (erc_sl (eraL_enc er_I) rfl)), rfl, (wk_spec_l1Cur_among hv24), rfl, (idxO_some hv25).1, (map_get eI (idxO_some hv25).2), ((gr0 rfl).trans (gre (map_get (eO 3 eI) (idxO_some hv22).2))), ((gr0 rfl).trans ((grs (map_get (eO 3 eI) (idxO_some hv22).2) rfl).trans (gre (map_get eI (idxO_some hv25).2)))), (congrArg (fun z => SV.ov false [.sl (some 26) z]) (set2 (f := (eO 3 eI)) (y := (v22.set (Int.toNat v23.1) v24.1)) (idxO_some hv22).2 rfl (set1 (f := eI) (y := v24.1) (idxO_some hv25).2 rfl) rfl)), trivial⟩) ?_
     refine q_n ?_
     exact ⟨(v24.2.1, v24.2.2.1, v24.2.2.2, (x4.2.2.2.set (Int.toNat v21.1) (v22.set (Int.toNat v23.1) v24.1))), h, (wk_of (by kernel_rfl) (by kernel_rfl))⟩
    ·replace h := ite_f hc2_19 h
     refine k_skip ?_
     refine q_n ?_
     exact ⟨(v19.2.1, v19.2.2.1, v19.2.2.2, x4.2.2.2), h, (wk_of (by kernel_rfl) (by kernel_rfl))⟩
  ·refine k_sreg (r_go [(0, .box (eCu v3.2)), (3, .p (iV x2.2.2.2)), (4, .p (iV v3.1)), (5, .ov false [.sl (some 26) []]), (6, .p (iV 0))] [] [] (by kernel_rfl) trivial) ?_
   refine k_block ?_
   obtain ⟨y27, hl_x26, hk_x26⟩ := bs' h
   clear h
   refine k_loop (J := fun (x : ((List Int) × Int × Int × (List (List Int)) × Int)) => [(0, .box (eCu (x.1, x.2.1, x.2.2.1))), (3, .p (iV x2.2.2.2)), (4, .p (iV v3.1)), (5, .ov false [.sl (some 26) (x.2.2.2.1.map (eO 3 eI))]), (6, .p (iV x.2.2.2.2))]) hl_x26 (wk_of (by kernel_rfl) (by kernel_rfl)) (fun x26 o_x26 h hy_x26 => ?_)
   unfold spec_l1Cur_graph_b3 at h
   refine k_seq ?_
   refine k_sreg (r_go [(0, .box (eCu (x26.1, x26.2.1, x26.2.2.1))), (3, .p (iV x2.2.2.2)), (4, .p (iV v3.1)), (5, .ov false [.sl (some 26) (x26.2.2.2.1.map (eO 3 eI))]), (6, .p (iV x26.2.2.2.2)), (25, .p (.bool (decide (x26.2.2.2.2 < x2.2.2.2))))] [] [] (by kernel_rfl) trivial) ?_
   refine k_cond (b := (decide (x26.2.2.2.2 < x2.2.2.2))) (by kernel_rfl) (fun hc5_27 => ?_) (fun hc5_27 => ?_)
   ·replace h := ite_t hc5_27 h
    refine k_skip ?_
    refine q_n ?_
    refine k_join (J := fun (x : ((List Int) × Int × Int × (List (List Int)))) => [(0, .box (eCu (x.1, x.2.1, x.2.2.1))), (3, .p (iV x2.2.2.2)), (4, .p (iV v3.1)), (5, .ov false [.sl (some 26) (x.2.2.2.map (eO 3 eI))]), (6, .p (iV x26.2.2.2.2))]) (K := fun x => spec_l1Cur_graph_k6 x26 x = some o_x26) (fun x29 h => ?_) ?_
    ·unfold spec_l1Cur_graph_k6 at h
     refine k_reg (r_go [(0, .box (eCu (x29.1, x29.2.1, x29.2.2.1))), (3, .p (iV x2.2.2.2)), (4, .p (iV v3.1)), (5, .ov false [.sl (some 26) (x29.2.2.2.map (eO 3 eI))]), (6, .p (iV (w64 (x26.2.2.2.2 + 1))))] [] [] (by kernel_rfl) trivial) ?_
     exact lq_n (x29.1, x29.2.1, x29.2.2.1, x29.2.2.2, (w64 (x26.2.2.2.2 + 1))) (oi h).symm (wk_of (by kernel_rfl) (by kernel_rfl))
    ·refine k_block ?_
     refine k_sreg (r_go [(0, .box (eCu (x26.1, x26.2.1, x26.2.2.1))), (3, .p (iV x2.2.2.2)), (4, .p (iV v3.1)), (5, .ov false [.sl (some 26) (x26.2.2.2.1.map (eO 3 eI))]), (6, .p (iV x26.2.2.2.2)), (7, .ov false [.sl (some 3) []])] [] [] (by kernel_rfl) trivial) ?_
     refine k_join (J := fun (x : ((List Int) × Int × Int × (List Int))) => [(0, .box (eCu (x.1, x.2.1, x.2.2.1))), (3, .p (iV x2.2.2.2)), (4, .p (iV v3.1)), (5, .ov false [.sl (some 26) (x26.2.2.2.1.map (eO 3 eI))]), (6, .p (iV x26.2.2.2.2)), (7, .ov false [.sl (some 3) (x.2.2.2.map eI)])]) (K := fun x => spec_l1Cur_graph_k7 x26 x = some o_x26) (fun x30 h => ?_) ?_
     ·unfold spec_l1Cur_graph_k7 at h
      replace h := bs' h
      obtain ⟨u31, hu31, h⟩ := h
      refine k_reg (r_go [(0, .box (eCu (x30.1, x30.2.1, x30.2.2.1))), (3, .p (iV x2.2.2.2)), (4, .p (iV v3.1)), (5, .ov false [.sl (some 26) ((x26.2.2.2.1 ++ [x30.2.2.2]).map (eO 3 eI))]), (6, .p (iV x26.2.2.2.2))] [(3, {fix := some (58, .ov false [.sl (some 26) ((x26.2.2.2.1 ++ [x30.2.2.2]).map (eO 3 eI))])})] [List.length ((x26.2.2.2.1.map (eO 3 eI)) : List (List C)) + List.length ((([x30.2.2.2]).map (eO 3 eI)) : List (List C)) ≤ 1099511627776, ∀ row ∈ ((([x30.2.2.2]).map (eO 3 eI)) : List (List C)), row.length = 1, (SV.ov false [.sl (some 26) ((x26.2.2.2.1.map (eO 3 eI)) ++ (([x30.2.2.2]).map (eO 3 eI)))] : SV) = .ov false [.sl (some 26) ((x26.2.2.2.1 ++ [x30.2.2.2]).map (eO 3 eI))]] (by kernel_rfl) ⟨(by have hg := (guardO_some hu31); simpa using hg), (rows_len fun _ => rfl), (congrArg (fun z => SV.ov false [.sl (some 26) z]) (List.map_append ..).symm), trivial⟩) ?_
      refine b_n ?_
      refine q_n ?_
      exact ⟨(x30.1, x30.2.1, x30.2.2.1, (x26.2.2.2.1 ++ [x30.2.2.2])), h, (wk_of (by kernel_rfl) (by kernel_rfl))⟩
     ·refine k_sreg (r_go [(0, .box (eCu (x26.1, x26.2.1, x26.2.2.1))), (3, .p (iV x2.2.2.2)), (4, .p (iV v3.1)), (5, .ov false [.sl (some 26) (x26.2.2.2.1.map (eO 3 eI))]), (6, .p (iV x26.2.2.2.2)), (7, .ov false [.sl (some 3) []]), (8, .p (iV 0))] [] [] (by kernel_rfl) trivial) ?_
      refine k_block ?_
      obtain ⟨y33, hl_x32, hk_x32⟩ := bs' h
      clear h
      refine k_loop (J := fun (x : ((List Int) × Int × Int × (List Int) × Int)) => [(0, .box (eCu (x.1, x.2.1, x.2.2.1))), (3, .p (iV x2.2.2.2)), (4, .p (iV v3.1)), (5, .ov false [.sl (some 26) (x26.2.2.2.1.map (eO 3 eI))]), (6, .p (iV x26.2.2.2.2)), (7, .ov false [.sl (some 3) (x.2.2.2.1.map eI)]), (8, .p (iV x.2.2.2.2))]) hl_x32 (wk_of (by kernel_rfl) (by kernel_rfl)) (fun x32 o_x32 h hy_x32 => ?_)
      unfold spec_l1Cur_graph_b4 at h
      refine k_seq ?_
      refine k_sreg (r_go [(0, .box (eCu (x32.1, x32.2.1, x32.2.2.1))), (3, .p (iV x2.2.2.2)), (4, .p (iV v3.1)), (5, .ov false [.sl (some 26) (x26.2.2.2.1.map (eO 3 eI))]), (6, .p (iV x26.2.2.2.2)), (7, .ov false [.sl (some 3) (x32.2.2.2.1.map eI)]), (8, .p (iV x32.2.2.2.2)), (30, .p (.bool (decide (x32.2.2.2.2 < x2.2.2.2))))] [] [] (by kernel_rfl) trivial) ?_
      refine k_cond (b := (decide (x32.2.2.2.2 < x2.2.2.2))) (by kernel_rfl) (fun hc10_33 => ?_) (fun hc10_33 => ?_)
      ·replace h := ite_t hc10_33 h
       refine k_skip ?_
       refine q_n ?_
       refine k_seq ?_
       refine k_block ?_
       refine k_sreg (r_go [(0, .box (eCu (x32.1, x32.2.1, x32.2.2.1))), (3, .p (iV x2.2.2.2)), (4, .p (iV v3.1)), (5, .ov false [.sl (some 26) (x26.2.2.2.1.map (eO 3 eI))]), (6, .p (iV x26.2.2.2.2)), (7, .ov false [.sl (some 3) (x32.2.2.2.1.map eI)]), (8, .p (iV x32.2.2.2.2)), (9, .p (iV 0))] [] [] (by kernel_rfl) trivial) ?_
       refine k_join (J := fun (x : ((List Int) × Int × Int × Int)) => [(0, .box (eCu (x.1, x.2.1, x.2.2.1))), (3, .p (iV x2.2.2.2)), (4, .p (iV v3.1)), (5, .ov false [.sl (some 26) (x26.2.2.2.1.map (eO 3 eI))]), (6, .p (iV x26.2.2.2.2)), (7, .ov false [.sl (some 3) (x32.2.2.2.1.map eI)]), (8, .p (iV x32.2.2.2.2)), (9, .p (iV x.2.2.2))]) (K := fun x => spec_l1Cur_graph_k8 x32 x = some o_x32) (fun x35 h => ?_) ?_
       ·unfold spec_l1Cur_graph_k8 at h
        replace h := bs' h
        obtain ⟨u36, hu36, h⟩ := h
        refine k_reg (r_go [(0, .box (eCu (x35.1, x35.2.1, x35.2.2.1))), (3, .p (iV x2.2.2.2)), (4, .p (iV v3.1)), (5, .ov false [.sl (some 26) (x26.2.2.2.1.map (eO 3 eI))]), (6, .p (iV x26.2.2.2.2)), (7, .ov false [.sl (some 3) ((x32.2.2.2.1 ++ [x35.2.2.2]).map eI)]), (8, .p (iV x32.2.2.2.2))] [(3, {fix := some (54, .ov false [.sl (some 3) ((x32.2.2.2.1 ++ [x35.2.2.2]).map eI)])})] [List.length ((x32.2.2.2.1.map eI) : List (List C)) + List.length ((([x35.2.2.2]).map eI) : List (List C)) ≤ 1099511627776, ∀ row ∈ ((([x35.2.2.2]).map eI) : List (List C)), row.length = 1, (SV.ov false [.sl (some 3) ((x32.2.2.2.1.map eI) ++ (([x35.2.2.2]).map eI))] : SV) = .ov false [.sl (some 3) ((x32.2.2.2.1 ++ [x35.2.2.2]).map eI)]] (by kernel_rfl) ⟨(by have hg := (guardO_some hu36); simpa using hg), (rows_len fun _ => rfl), (congrArg (fun z => SV.ov false [.sl (some 3) z]) (List.map_append ..).symm), trivial⟩) ?_
        refine b_n ?_
        refine q_n ?_
        refine k_reg (r_go [(0, .box (eCu (x35.1, x35.2.1, x35.2.2.1))), (3, .p (iV x2.2.2.2)), (4, .p (iV v3.1)), (5, .ov false [.sl (some 26) (x26.2.2.2.1.map (eO 3 eI))]), (6, .p (iV x26.2.2.2.2)), (7, .ov false [.sl (some 3) ((x32.2.2.2.1 ++ [x35.2.2.2]).map eI)]), (8, .p (iV (w64 (x32.2.2.2.2 + 1))))] [] [] (by kernel_rfl) trivial) ?_
        exact lq_n (x35.1, x35.2.1, x35.2.2.1, (x32.2.2.2.1 ++ [x35.2.2.2]), (w64 (x32.2.2.2.2 + 1))) (oi h).symm (wk_of (by kernel_rfl) (by kernel_rfl))
       ·replace h := bs' h
        obtain ⟨v37, hv37, h⟩ := h
        replace h := bs' h
        obtain ⟨w39, hw39, h⟩ := h
        refine k_sreg (l1 := [(0, .box (eCu v37.2)), (3, .p (iV x2.2.2.2)), (4, .p (iV v3.1)), (5, .ov false [.sl (some 26) (x26.2.2.2.1.map (eO 3 eI))]), (6, .p (iV x26.2.2.2.2)), (7, .ov false [.sl (some 3) (x32.2.2.2.1.map eI)]), (8, .p (iV x32.2.2.2.2)), (9, .p (iV 0)), (47, .p (.bool w39))]) ?_ ?_
        ·clear h
         rcases ft v37.1 with ha2 | ha2
         ·replace hw39 := ite_t ha2 hw39
          have hw39 := oi hw39
          subst hw39
          exact (r_go [(0, .box (eCu v37.2)), (3, .p (iV x2.2.2.2)), (4, .p (iV v3.1)), (5, .ov false [.sl (some 26) (x26.2.2.2.1.map (eO 3 eI))]), (6, .p (iV x26.2.2.2.2)), (7, .ov false [.sl (some 3) (x32.2.2.2.1.map eI)]), (8, .p (iV x32.2.2.2.2)), (9, .p (iV 0)), (47, .p (.bool true))] [(2, {lend := some ([wI v3.1], [.p (.bool v37.1)], .box (eCu v37.2), false)}), (4, {g := some true}), (5, {g := some true}), (6, {g := some true}), (13, {g := some true}), (14, {b := some true})] [([wI v3.1] : List Arg) = [wI v3.1], MeetsB Try.prog 100 (.box (eCu (x32.1, x32.2.1, x32.2.2.1))) [wI v3.1] [.p (.bool v37.1)] (.box (eCu v37.2)), (!false || (List.all [.p (.bool v37.1)] simpleR && wnS (.box (eCu v37.2)))) = true, v37.1 = true, v37.1 = true, v37.1 = true, v37.1 = true, v37.1 = true] (by kernel_rfl) ⟨rfl, (wk_spec_l1Cur_one hv37), rfl, ha2, ha2, ha2, ha2, ha2, trivial⟩)
         ·replace hw39 := ite_f ha2 hw39
          rcases ft (v3.1 == 2) with ha3 | ha3
          ·replace hw39 := ite_t ha3 hw39
           replace hw39 := bs' hw39
           obtain ⟨u38, hu38, hw39⟩ := hw39
           have hw39 := oi hw39
           subst hw39
           exact (r_go [(0, .box (eCu v37.2)), (3, .p (iV x2.2.2.2)), (4, .p (iV v3.1)), (5, .ov false [.sl (some 26) (x26.2.2.2.1.map (eO 3 eI))]), (6, .p (iV x26.2.2.2.2)), (7, .ov false [.sl (some 3) (x32.2.2.2.1.map eI)]), (8, .p (iV x32.2.2.2.2)), (9, .p (iV 0)), (47, .p (.bool (x32.2.2.2.2 == (Int.tmod (w64 (x26.2.2.2.2 + 1)) x2.2.2.2))))] [(2, {lend := some ([wI v3.1], [.p (.bool v37.1)], .box (eCu v37.2), false)}), (4, {g := some false}), (5, {g := some false}), (6, {g := some false}), (7, {g := some true}), (8, {g := some true}), (9, {g := some true}), (10, {g := some true}), (11, {g := some true}), (12, {g := some true}), (13, {g := some false, b := some true}), (14, {b := some false})] [([wI v3.1] : List Arg) = [wI v3.1], MeetsB Try.prog 100 (.box (eCu (x32.1, x32.2.1, x32.2.2.1))) [wI v3.1] [.p (.bool v37.1)] (.box (eCu v37.2)), (!false || (List.all [.p (.bool v37.1)] simpleR && wnS (.box (eCu v37.2)))) = true, v37.1 = false, v37.1 = false, v37.1 = false, (v3.1 == 2) = true, (v3.1 == 2) = true, (v3.1 == 2) = true, (v3.1 == 2) = true, (v3.1 == 2) = true, x2.2.2.2 ≠ (0 : Int), (v3.1 == 2) = true, v37.1 = false, (v3.1 == 2) = true, v37.1 = false] (by kernel_rfl) ⟨rfl, (wk_spec_l1Cur_one hv37), rfl, ha2, ha2, ha2, ha3, ha3, ha3, ha3, ha3, (guardO_some hu38), ha3, ha2, ha3, ha2, trivial⟩)
          ·replace hw39 := ite_f ha3 hw39
           have hw39 := oi hw39
           subst hw39
           exact (r_go [(0, .box (eCu v37.2)), (3, .p (iV x2.2.2.2)), (4, .p (iV v3.1)), (5, .ov false [.sl (some 26) (x26.2.2.2.1.map (eO 3 eI))]), (6, .p (iV x26.2.2.2.2)), (7, .ov false [.sl (some 3) (x32.2.2.2.1.map eI)]), (8, .p (iV x32.2.2.2.2)), (9, .p (iV 0)), (47, .p (.bool false))] [(2, {lend := some ([wI v3.1], [.p (.bool v37.1)], .box (eCu v37.2), false)}), (4, {g := some false}), (5, {g := some false}), (6, {g := some false}), (7, {g := some false}), (8, {g := some false}), (9, {g := some false}), (10, {g := some false}), (11, {g := some false}), (12, {g := some false}), (13, {g := some false, b := some false}), (14, {b := some false})] [([wI v3.1] : List Arg) = [wI v3.1], MeetsB Try.prog 100 (.box (eCu (x32.1, x32.2.1, x32.2.2.1))) [wI v3.1] [.p (.bool v37.1)] (.box (eCu v37.2)), (!false || (List.all [.p (.bool v37.1)] simpleR && wnS (.box (eCu v37.2)))) = true, v37.1 = false, v37.1 = false, v37.1 = false, (v3.1 == 2) = false, (v3.1 == 2) = false, (v3.1 == 2) = false, (v3.1 == 2) = false, (v3.1 == 2) = false, (v3.1 == 2) = false, v37.1 = false, (v3.1 == 2) = false, v37.1 = false] (by kernel_rfl) ⟨rfl, (wk_spec_l1Cur_one hv37), rfl, ha2, ha2, ha2, ha3, ha3, ha3, ha3, ha3, ha3, ha2, ha3, ha2, trivial⟩)
        ·refine k_cond (b := w39) (by kernel_rfl) (fun hc12_39 => ?_) (fun hc12_39 => ?_)
         ·replace h := ite_t hc12_39 h
          replace h := bs' h
          obtain ⟨v41, hv41, h⟩ := h
          refine k_reg (r_go [(0, .box (eCu v41.2)), (3, .p (iV x2.2.2.2)), (4, .p (iV v3.1)), (5, .ov false [.sl (some 26) (x26.2.2.2.1.map (eO 3 eI))]), (6, .p (iV x26.2.2.2.2)), (7, .ov false [.sl (some 3) (x32.2.2.2.1.map eI)]), (8, .p (iV x32.2.2.2.2)), (9, .p (iV v41.1))] [(2, {lend := some ([.d false [.sl none (([1, 1, 1, 2]).map eI)]], [.p (iV v41.1)], .box (eCu v41.2), false), fix := some (49, .d false [.sl none (([1, 1, 1, 2]).map eI)])})] [([.d false [.sl none (eraL (([1, 1, 1, 2]).map eI))]] : List Arg) = [.d false [.sl none (([1, 1, 1, 2]).map eI)]], MeetsB Try.prog 121 (.box (eCu v37.2)) [.d false [.sl none (([1, 1, 1, 2]).map eI)]] [.p (iV v41.1)] (.box (eCu v41.2)), (!false || (List.all [.p (iV v41.1)] simpleR && wnS (.box (eCu v41.2)))) = true, (SV.d false (eraR [.sl (some 3) (([1, 1, 1, 2]).map eI)]) : SV) = .d false [.sl none (([1, 1, 1, 2]).map eI)]] (by kernel_rfl) ⟨(by simp only [eraL_enc (h := eI) er_I]), (wk_spec_l1Cur_among hv41), rfl, (congrArg (fun z => SV.d false z) (erc_sl (eraL_enc er_I) rfl)), trivial⟩) ?_
          refine q_n ?_
          exact ⟨(v41.2.1, v41.2.2.1, v41.2.2.2, v41.1), h, (wk_of (by kernel_rfl) (by kernel_rfl))⟩
         ·replace h := ite_f hc12_39 h
          refine k_skip ?_
          refine q_n ?_
          exact ⟨(v37.2.1, v37.2.2.1, v37.2.2.2, 0), h, (wk_of (by kernel_rfl) (by kernel_rfl))⟩
      ·replace h := ite_f hc10_33 h
       refine k_exit ?_
       refine q_x ?_
       refine lq_x ?_
       refine b_x ?_
       have hyy := hy_x32 _ (oi h).symm
       subst hyy
       have h := hk_x32
       refine q_n ?_
       exact ⟨(x32.1, x32.2.1, x32.2.2.1, x32.2.2.2.1), h, (wk_of (by kernel_rfl) (by kernel_rfl))⟩
   ·replace h := ite_f hc5_27 h
    refine k_exit ?_
    refine q_x ?_
    refine lq_x ?_
    refine b_x ?_
    have hyy := hy_x26 _ (oi h).symm
    subst hyy
    have h := hk_x26
    refine q_n ?_
    exact ⟨(x26.1, x26.2.1, x26.2.2.1, x26.2.2.2.1), h, (wk_of (by kernel_rfl) (by kernel_rfl))⟩
 ·replace h := bs' h
  obtain ⟨v42, hv42, h⟩ := h
  refine k_sreg (r_go [(0, .box (eCu v42.2)), (3, .p (iV (w64 (1 + v1.1)))), (16, .p (.bool v42.1))] [(1, {lend := some ([wI 12], [.p (.bool v42.1)], .box (eCu v42.2), false)})] [([wI 12] : List Arg) = [wI 12], MeetsB Try.prog 100 (.box (eCu v1.2)) [wI 12] [.p (.bool v42.1)] (.box (eCu v42.2)), (!false || (List.all [.p (.bool v42.1)] simpleR && wnS (.box (eCu v42.2)))) = true] (by kernel_rfl) ⟨rfl, (wk_spec_l1Cur_one hv42), rfl, trivial⟩) ?_
  refine k_cond (b := v42.1) (by kernel_rfl) (fun hc2_42 => ?_) (fun hc2_42 => ?_)
  ·replace h := ite_t hc2_42 h
   replace h := bs' h
   obtain ⟨v44, hv44, h⟩ := h
   refine k_reg (r_go [(0, .box (eCu v44.2)), (3, .p (iV v44.1))] [(2, {lend := some ([.d false [.sl none (([5, 6, 7, 8]).map eI)]], [.p (iV v44.1)], .box (eCu v44.2), false), fix := some (18, .d false [.sl none (([5, 6, 7, 8]).map eI)])})] [([.d false [.sl none (eraL (([5, 6, 7, 8]).map eI))]] : List Arg) = [.d false [.sl none (([5, 6, 7, 8]).map eI)]], MeetsB Try.prog 121 (.box (eCu v42.2)) [.d false [.sl none (([5, 6, 7, 8]).map eI)]] [.p (iV v44.1)] (.box (eCu v44.2)), (!false || (List.all [.p (iV v44.1)] simpleR && wnS (.box (eCu v44.2)))) = true, (SV.d false (eraR [.sl (some 3) (([5, 6, 7, 8]).map eI)]) : SV) = .d false [.sl none (([5, 6, 7, 8]).map eI)]] (by kernel_rfl) ⟨(by simp only [eraL_enc (h := eI) er_I]), (wk_spec_l1Cur_among hv44), rfl, (congrArg (fun z => SV.d false z) (erc_sl (eraL_enc er_I) rfl)), trivial⟩) ?_
   refine q_n ?_
   exact ⟨(v44.2.1, v44.2.2.1, v44.2.2.2, v44.1), h, (wk_of (by kernel_rfl) (by kernel_rfl))⟩
  ·replace h := ite_f hc2_42 h
   refine k_skip ?_
   refine q_n ?_
   exact ⟨(v42.2.1, v42.2.2.1, v42.2.2.2, (w64 (1 + v1.1))), h, (wk_of (by kernel_rfl) (by kernel_rfl))⟩
theorem wk_spec_l1Cur_anyGraph {a0 : ((List Int) × Int × Int)}  {r : ((List (List Int)) × ((List Int) × Int × Int))} (h : spec_l1Cur_anyGraph a0 = some r) : MeetsB Try.prog 96 (.box (eCu a0)) [] [.ov false [.sl (some 26) (r.1.map (eO 3 eI))]] (.box (eCu r.2)) := by
 refine MeetsB_ofL (by kernel_rfl) Try.func96 rfl (by kernel_rfl) rfl (l0 := [(0, .box (eCu a0))]) (by kernel_rfl) ?_
 unfold spec_l1Cur_anyGraph at h
 refine k_sreg (r_go [(0, .box (eCu a0))] [] [] (by kernel_rfl) trivial) ?_
 replace h := bs' h
 obtain ⟨v1, hv1, h⟩ := h
 refine k_sreg (r_go [(0, .box (eCu v1.2)), (3, .ov false [.sl (some 26) (v1.1.map (eO 3 eI))])] [(1, {lend := some ([], [.ov false [.sl (some 26) (v1.1.map (eO 3 eI))]], .box (eCu v1.2), false)})] [([] : List Arg) = [], MeetsB Try.prog 122 (.box (eCu a0)) [] [.ov false [.sl (some 26) (v1.1.map (eO 3 eI))]] (.box (eCu v1.2)), (!false || (List.all [.ov false [.sl (some 26) (v1.1.map (eO 3 eI))]] simpleR && wnS (.box (eCu v1.2)))) = true] (by kernel_rfl) ⟨rfl, (wk_spec_l1Cur_graph hv1), rfl, trivial⟩) ?_
 refine k_join (J := fun (x : ((List Int) × Int × Int × (List (List Int)))) => [(0, .box (eCu (x.1, x.2.1, x.2.2.1))), (3, .ov false [.sl (some 26) (x.2.2.2.map (eO 3 eI))])]) (K := fun x => spec_l1Cur_anyGraph_k1 x = some r) (fun x2 h => ?_) ?_
 ·unfold spec_l1Cur_anyGraph_k1 at h
  refine k_sreg (r_go [(0, .box (eCu (x2.1, x2.2.1, x2.2.2.1))), (2, .ov false [.sl (some 26) (x2.2.2.2.map (eO 3 eI))])] [] [] (by kernel_rfl) trivial) ?_
  refine k_ret ?_
  obtain rfl := oi h
  exact eb_ret (ls := [(.ov false [.sl (some 26) (x2.2.2.2.map (eO 3 eI))], 2)]) (by kernel_rfl) rfl rfl (by kernel_rfl) (by kernel_rfl)
 ·replace h := bs' h
  obtain ⟨v3, hv3, h⟩ := h
  refine k_sreg (r_go [(0, .box (eCu v3.2)), (3, .ov false [.sl (some 26) (v1.1.map (eO 3 eI))]), (7, .p (iV v3.1))] [(1, {lend := some ([wI 30], [.p (iV v3.1)], .box (eCu v3.2), false)})] [([wI 30] : List Arg) = [wI 30], MeetsB Try.prog 101 (.box (eCu v1.2)) [wI 30] [.p (iV v3.1)] (.box (eCu v3.2)), (!false || (List.all [.p (iV v3.1)] simpleR && wnS (.box (eCu v3.2)))) = true] (by kernel_rfl) ⟨rfl, (wk_spec_l1Cur_pick hv3), rfl, trivial⟩) ?_
  refine k_block ?_
  refine k_sreg (r_go [(0, .box (eCu v3.2)), (3, .ov false [.sl (some 26) (v1.1.map (eO 3 eI))]), (7, .p (iV v3.1)), (8, .p (.bool (v3.1 == 0)))] [] [] (by kernel_rfl) trivial) ?_
  refine k_cond (b := (v3.1 == 0)) (by kernel_rfl) (fun hc3_3 => ?_) (fun hc3_3 => ?_)
  ·replace h := ite_t hc3_3 h
   replace h := bs' h
   obtain ⟨v5, hv5, h⟩ := h
   replace h := bs' h
   obtain ⟨v6, hv6, h⟩ := h
   replace h := bs' h
   obtain ⟨v7, hv7, h⟩ := h
   replace h := bs' h
   obtain ⟨v8, hv8, h⟩ := h
   refine k_reg (r_draw Try_mixed 10 [(6, 0), (9, 0)] [(0, .box (eCu v7.2)), (3, .ov false [.sl (some 26) ((v1.1.set (Int.toNat 0) (v5.set (Int.toNat v6.1) v7.1)).map (eO 3 eI))])] [(1, {row := some [.sl (some 3) (v5.map eI)]}), (2, {row := some [.sl (some 3) (v5.map eI)]}), (5, {n := some v1.1.length}), (6, {lend := some ([wI (v1.1.length : Int)], [.p (iV v6.1)], .box (eCu v6.2), false)}), (8, {pre := some (0, .u), fix := some (18, .d false [.sl none (([(-1), 10]).map eI)])}), (9, {lend := some ([.d false [.sl none (([(-1), 10]).map eI)]], [.p (iV v7.1)], .box (eCu v7.2), false)}), (10, {deep := some [.sl (some 3) (v5.map eI)], row := some (eI v8)}), (11, {row := some (eI v8), fix := some (3, .ov false [.sl (some 26) ((v1.1.set (Int.toNat 0) (v5.set (Int.toNat v6.1) v7.1)).map (eO 3 eI))])})] [0 ≤ 0, (v1.1.map (eO 3 eI))[(Int.toNat 0)]? = some [.sl (some 3) (v5.map eI)], frR [.sl (some 3) (v5.map eI)] = false, getRow [[.sl (some 26) (v1.1.map (eO 3 eI))]] [(0, 0), ((Int.toNat 0), 0)] = some [.sl (some 3) (v5.map eI)], (v1.1.map (eO 3 eI)).length = v1.1.length, ([wI (v1.1.length : Int)] : List Arg) = [wI (v1.1.length : Int)], MeetsB Try.prog 101 (.box (eCu v3.2)) [wI (v1.1.length : Int)] [.p (iV v6.1)] (.box (eCu v6.2)), List.all [.p (iV v6.1)] simpleR = true, (SV.d false (eraR [.sl (some 3) (([(-1), 10]).map eI)]) : SV) = .d false [.sl none (([(-1), 10]).map eI)], ([.d false [.sl none (([(-1), 10]).map eI)]] : List Arg) = [.d false [.sl none (([(-1), 10]).map eI)]], MeetsB Try.prog 121 (.box (eCu v6.2)) [.d false [.sl none (([(-1), 10]).map eI)]] [.p (iV v7.1)] (.box (eCu v7.2)), List.all [.p (iV v7.1)] simpleR = true, 0 ≤ v6.1, (v5.map eI)[(Int.toNat v6.1)]? = some (eI v8), getRow [[.sl (some 26) (v1.1.map (eO 3 eI))]] [(0, 0), ((Int.toNat 0), 0)] = some [.sl (some 3) (v5.map eI)], getRow [[.sl (some 26) (v1.1.map (eO 3 eI))]] [(0, 0), ((Int.toNat 0), 0), ((Int.toNat v6.1), 0)] = some (eI v8), (SV.ov false [.sl (some 26) (setL (v1.1.map (eO 3 eI)) [((Int.toNat 0), 0), ((Int.toNat v6.1), 0)] (eI v7.1))] : SV) = .ov false [.sl (some 26) ((v1.1.set (Int.toNat 0) (v5.set (Int.toNat v6.1) v7.1)).map (eO 3 eI))]] (by kernel_rfl) ⟨(idxO_some hv5).1, (map_get (eO 3 eI) (idxO_some hv5).2), rfl, ((gr0 rfl).trans (gre (map_get (eO 3 eI) (idxO_some hv5).2))), (List.length_map ..), rfl, (wk_spec_l1Cur_pick hv6), rfl, (congrArg (fun z => SV.d false z) (erc_sl (eraL_enc er_I) rfl)), rfl, (wk_spec_l1Cur_among hv7), rfl, (idxO_some hv8).1, (map_get eI (idxO_some hv8).2), ((gr0 rfl).trans (gre (map_get (eO 3 eI) (idxO_some hv5).2))), ((gr0 rfl).trans ((grs (map_get (eO 3 eI) (idxO_some hv5).2) rfl).trans (gre (map_get eI (idxO_some hv8).2)))), (congrArg (fun z => SV.ov false [.sl (some 26) z]) (set2 (f := (eO 3 eI)) (y := (v5.set (Int.toNat v6.1) v7.1)) (idxO_some hv5).2 rfl (set1 (f := eI) (y := v7.1) (idxO_some hv8).2 rfl) rfl)), trivial⟩) ?_
   refine b_n ?_
   refine q_n ?_
   exact ⟨(v7.2.1, v7.2.2.1, v7.2.2.2, (v1.1.set (Int.toNat 0) (v5.set (Int.toNat v6.1) v7.1))), h, (wk_of (by kernel_rfl) (by kernel_rfl))⟩
  ·replace h := ite_f hc3_3 h
   refine k_sreg (r_go [(0, .box (eCu v3.2)), (3, .ov false [.sl (some 26) (v1.1.map (eO 3 eI))]), (7, .p (iV v3.1)), (21, .p (.bool (v3.1 == 1)))] [] [] (by kernel_rfl) trivial) ?_
   refine k_cond (b := (v3.1 == 1)) (by kernel_rfl) (fun hc3_8 => ?_) (fun hc3_8 => ?_)
   ·replace h := ite_t hc3_8 h
    replace h := bs' h
    obtain ⟨v10, hv10, h⟩ := h
    replace h := bs' h
    obtain ⟨u11, hu11, h⟩ := h
    refine k_reg (r_go [(0, .box (eCu v3.2)), (3, .ov false [.sl (some 26) ((v1.1.set (Int.toNat 0) (v10 ++ [1])).map (eO 3 eI))])] [(2, {row := some [.sl (some 3) (v10.map eI)]}), (3, {row := some [.sl (some 3) (v10.map eI)]}), (5, {take := some (26, [.sl (some 3) (v10.map eI)]), fix := some (28, .ov false [.sl (some 3) ((v10 ++ [1]).map eI)])}), (6, {row := some [.dead]}), (7, {row := some [.dead], fix := some (3, .ov false [.sl (some 26) ((v1.1.set (Int.toNat 0) (v10 ++ [1])).map (eO 3 eI))])})] [0 ≤ 0, (v1.1.map (eO 3 eI))[(Int.toNat 0)]? = some [.sl (some 3) (v10.map eI)], frR [.sl (some 3) (v10.map eI)] = false, getRow [[.sl (some 26) (v1.1.map (eO 3 eI))]] [(0, 0), ((Int.toNat 0), 0)] = some [.sl (some 3) (v10.map eI)], getRow [[.sl (some 26) (v1.1.map (eO 3 eI))]] [(0, 0), ((Int.toNat 0), 0)] = some [.sl (some 3) (v10.map eI)], List.length ((v10.map eI) : List (List C)) + List.length ((([1]).map eI) : List (List C)) ≤ 1099511627776, ∀ row ∈ ((([1]).map eI) : List (List C)), row.length = 1, (SV.ov false [.sl (some 3) ((v10.map eI) ++ (([1]).map eI))] : SV) = .ov false [.sl (some 3) ((v10 ++ [1]).map eI)], 0 ≤ 0, (setL (v1.1.map (eO 3 eI)) [((Int.toNat 0), 0)] [.dead])[(Int.toNat 0)]? = some [.dead], getRow [[.sl (some 26) (setL (v1.1.map (eO 3 eI)) [((Int.toNat 0), 0)] [.dead])]] [(0, 0), ((Int.toNat 0), 0)] = some [.dead], (SV.ov false [.sl (some 26) (setL (setL (v1.1.map (eO 3 eI)) [((Int.toNat 0), 0)] [.dead]) [((Int.toNat 0), 0)] [.sl (some 3) ((v10 ++ [1]).map eI)])] : SV) = .ov false [.sl (some 26) ((v1.1.set (Int.toNat 0) (v10 ++ [1])).map (eO 3 eI))]] (by kernel_rfl) ⟨(idxO_some hv10).1, (map_get (eO 3 eI) (idxO_some hv10).2), rfl, ((gr0 rfl).trans (gre (map_get (eO 3 eI) (idxO_some hv10).2))), ((gr0 rfl).trans (gre (map_get (eO 3 eI) (idxO_some hv10).2))), (by have hg := (guardO_some hu11); simpa using hg), (rows_len fun _ => rfl), (congrArg (fun z => SV.ov false [.sl (some 3) z]) (List.map_append ..).symm), (idxO_some hv10).1, (get_dead1 (F := (eO 3 eI)) (idxO_some hv10).2 rfl), ((gr0 rfl).trans (get_dead (F := (eO 3 eI)) (idxO_some hv10).2 rfl)), (congrArg (fun z => SV.ov false [.sl (some 26) z]) ((set_dead _ _ _).trans (set1 (f := (eO 3 eI)) (y := (v10 ++ [1])) (idxO_some hv10).2 rfl))), trivial⟩) ?_
    refine b_n ?_
    refine q_n ?_
    exact ⟨(v3.2.1, v3.2.2.1, v3.2.2.2, (v1.1.set (Int.toNat 0) (v10 ++ [1]))), h, (wk_of (by kernel_rfl) (by kernel_rfl))⟩
   ·replace h := ite_f hc3_8 h
    refine k_sreg (r_go [(0, .box (eCu v3.2)), (3, .ov false [.sl (some 26) (v1.1.map (eO 3 eI))]), (7, .p (iV v3.1)), (30, .p (.bool (v3.1 == 2)))] [] [] (by kernel_rfl) trivial) ?_
    refine k_cond (b := (v3.1 == 2)) (by kernel_rfl) (fun hc3_11 => ?_) (fun hc3_11 => ?_)
    ·replace h := ite_t hc3_11 h
     refine k_sreg (r_go [(0, .box (eCu v3.2)), (2, .ov false [.sl (some 26) []])] [] [] (by kernel_rfl) trivial) ?_
     refine k_ret ?_
     refine b_r ?_
     refine q_r ?_
     obtain rfl := oi h
     exact eb_ret (ls := [(.ov false [.sl (some 26) []], 2)]) (by kernel_rfl) rfl rfl (by kernel_rfl) (by kernel_rfl)
    ·replace h := ite_f hc3_11 h
     refine k_sreg (r_go [(0, .box (eCu v3.2)), (3, .ov false [.sl (some 26) (v1.1.map (eO 3 eI))]), (32, .p (.bool (v3.1 == 3)))] [] [] (by kernel_rfl) trivial) ?_
     refine k_cond (b := (v3.1 == 3)) (by kernel_rfl) (fun hc3_12 => ?_) (fun hc3_12 => ?_)
     ·replace h := ite_t hc3_12 h
      refine k_sreg (r_go [(0, .box (eCu v3.2)), (3, .ov false [.sl (some 26) []])] [] [] (by kernel_rfl) trivial) ?_
      refine k_block ?_
      obtain ⟨y15, hl_x14, hk_x14⟩ := bs' h
      clear h
      refine k_loop (J := fun (x : (List (List Int))) => [(0, .box (eCu v3.2)), (3, .ov false [.sl (some 26) (x.map (eO 3 eI))])]) hl_x14 (wk_of (by kernel_rfl) (by kernel_rfl)) (fun x14 o_x14 h hy_x14 => ?_)
      unfold spec_l1Cur_anyGraph_b1 at h
      refine k_seq ?_
      refine k_sreg (r_go [(0, .box (eCu v3.2)), (3, .ov false [.sl (some 26) (x14.map (eO 3 eI))]), (36, .p (.bool (decide ((x14.length : Int) < 9))))] [(1, {n := some x14.length})] [(x14.map (eO 3 eI)).length = x14.length] (by kernel_rfl) ⟨(List.length_map ..), trivial⟩) ?_
      refine k_cond (b := (decide ((x14.length : Int) < 9))) (by kernel_rfl) (fun hc6_15 => ?_) (fun hc6_15 => ?_)
      ·replace h := ite_t hc6_15 h
       refine k_skip ?_
       refine q_n ?_
       refine k_block ?_
       replace h := bs' h
       obtain ⟨u17, hu17, h⟩ := h
       replace h := bs' h
       obtain ⟨u18, hu18, h⟩ := h
       refine k_reg (r_go [(0, .box (eCu v3.2)), (3, .ov false [.sl (some 26) ((x14 ++ [(List.replicate (Int.toNat (9 : Int)) (0 : Int))]).map (eO 3 eI))])] [(1, {fix := some (38, .ov false [.sl (some 3) ((List.replicate (Int.toNat (9 : Int)) (0 : Int)).map eI)])}), (3, {fix := some (40, .ov false [.sl (some 26) ((x14 ++ [(List.replicate (Int.toNat (9 : Int)) (0 : Int))]).map (eO 3 eI))])})] [(9 : Int) = (9 : Int), 0 ≤ (9 : Int), (9 : Int) ≤ 1099511627776, (SV.ov false [.sl (some 3) (List.replicate (Int.toNat (9 : Int)) [rI 0])] : SV) = .ov false [.sl (some 3) ((List.replicate (Int.toNat (9 : Int)) (0 : Int)).map eI)], List.length ((x14.map (eO 3 eI)) : List (List C)) + List.length ((([(List.replicate (Int.toNat (9 : Int)) (0 : Int))]).map (eO 3 eI)) : List (List C)) ≤ 1099511627776, ∀ row ∈ ((([(List.replicate (Int.toNat (9 : Int)) (0 : Int))]).map (eO 3 eI)) : List (List C)), row.length = 1, (SV.ov false [.sl (some 26) ((x14.map (eO 3 eI)) ++ (([(List.replicate (Int.toNat (9 : Int)) (0 : Int))]).map (eO 3 eI)))] : SV) = .ov false [.sl (some 26) ((x14 ++ [(List.replicate (Int.toNat (9 : Int)) (0 : Int))]).map (eO 3 eI))]] (by kernel_rfl) ⟨rfl, (guardO_some hu17).1, (guardO_some hu17).2, (congrArg (fun z => SV.ov false [.sl (some 3) z]) (rep_fix eI (0 : Int))), (by have hg := (guardO_some hu18); simpa using hg), (rows_len fun _ => rfl), (congrArg (fun z => SV.ov false [.sl (some 26) z]) (List.map_append ..).symm), trivial⟩) ?_
       refine b_n ?_
       exact lq_n (x14 ++ [(List.replicate (Int.toNat (9 : Int)) (0 : Int))]) (oi h).symm (wk_of (by kernel_rfl) (by kernel_rfl))
      ·replace h := ite_f hc6_15 h
       refine k_exit ?_
       refine q_x ?_
       refine lq_x ?_
       refine b_x ?_
       refine b_n ?_
       have hyy := hy_x14 _ (oi h).symm
       subst hyy
       have h := hk_x14
       refine q_n ?_
       exact ⟨(v3.2.1, v3.2.2.1, v3.2.2.2, x14), h, (wk_of (by kernel_rfl) (by kernel_rfl))⟩
     ·replace h := ite_f hc3_12 h
      refine k_skip ?_
      refine b_n ?_
      refine q_n ?_
      exact ⟨(v3.2.1, v3.2.2.1, v3.2.2.2, v1.1), h, (wk_of (by kernel_rfl) (by kernel_rfl))⟩
theorem wk_spec_DrawWalkVector {a0 : (List Int)}  {r : ((List (List Int)) × Int)} (h : spec_DrawWalkVector a0 = some r) : Meets Try.prog 89 [.d false [.sl none (a0.map (eU .u8))]] { vals := [.ov false [.sl (some 26) (r.1.map (eO 3 eI))], .p (iV r.2)] } := by
 refine Meets_ofL (by kernel_rfl) Try.func89 rfl (by kernel_rfl) (l0 := [(0, .d false [.sl none (a0.map (eU .u8))])]) (by kernel_rfl) ?_
 unfold spec_DrawWalkVector at h
 refine k_sreg (r_go [(0, .d false [.sl none (a0.map (eU .u8))])] [] [] (by kernel_rfl) trivial) ?_
 refine k_sreg (r_go [(4, .addr 7 [(0, 0)]), (7, .box (eCu (a0, 0, 0)))] [] [] (by kernel_rfl) trivial) ?_
 replace h := bs' h
 obtain ⟨v1, hv1, h⟩ := h
 replace h := bs' h
 obtain ⟨v2, hv2, h⟩ := h
 replace h := bs' h
 obtain ⟨v3, hv3, h⟩ := h
 refine k_sreg (r_go [(2, .ov false [.sl (some 26) (v1.1.map (eO 3 eI))]), (3, .p (iV v3.1))] [(1, {lend := some ([], [.ov false [.sl (some 26) (v1.1.map (eO 3 eI))]], .box (eCu v1.2), false)}), (5, {lend := some ([.d false [.sl none (([21, (-1)]).map eI)]], [.p (iV v2.1)], .box (eCu v2.2), false), fix := some (12, .d false [.sl none (([21, (-1)]).map eI)])}), (7, {lend := some ([.d false [.sl none (([0, 1, 2, 4, 8, 20, v2.1]).map eI)]], [.p (iV v3.1)], .box (eCu v3.2), false), fix := some (14, .d false [.sl none (([0, 1, 2, 4, 8, 20, v2.1]).map eI)])})] [([] : List Arg) = [], MeetsB Try.prog 96 (.box (eCu (a0, 0, 0))) [] [.ov false [.sl (some 26) (v1.1.map (eO 3 eI))]] (.box (eCu v1.2)), (!false || (List.all [.ov false [.sl (some 26) (v1.1.map (eO 3 eI))]] simpleR && wnS (.box (eCu v1.2)))) = true, ([.d false [.sl none (eraL (([21, (-1)]).map eI))]] : List Arg) = [.d false [.sl none (([21, (-1)]).map eI)]], MeetsB Try.prog 121 (.box (eCu v1.2)) [.d false [.sl none (([21, (-1)]).map eI)]] [.p (iV v2.1)] (.box (eCu v2.2)), (!false || (List.all [.p (iV v2.1)] simpleR && wnS (.box (eCu v2.2)))) = true, (SV.d false (eraR [.sl (some 3) (([21, (-1)]).map eI)]) : SV) = .d false [.sl none (([21, (-1)]).map eI)], ([.d false [.sl none (eraL (([0, 1, 2, 4, 8, 20, v2.1]).map eI))]] : List Arg) = [.d false [.sl none (([0, 1, 2, 4, 8, 20, v2.1]).map eI)]], MeetsB Try.prog 121 (.box (eCu v2.2)) [.d false [.sl none (([0, 1, 2, 4, 8, 20, v2.1]).map eI)]] [.p (iV v3.1)] (.box (eCu v3.2)), (!false || (List.all [.p (iV v3.1)] simpleR && wnS (.box (eCu v3.2)))) = true, (SV.d false (eraR [.sl (some 3) (([0, 1, 2, 4, 8, 20, v2.1]).map eI)]) : SV) = .d false [.sl none (([0, 1, 2, 4, 8, 20, v2.1]).map eI)]] (by kernel_rfl) ⟨rfl, (wk_spec_l1Cur_anyGraph hv1), rfl, (by simp only [eraL_enc (h := eI) er_I]), (wk_spec_l1Cur_among hv2), rfl, (congrArg (fun z => SV.d false z) (erc_sl (eraL_enc er_I) rfl)), (by simp only [eraL_enc (h := eI) er_I]), (wk_spec_l1Cur_among hv3), rfl, (congrArg (fun z => SV.d false z) (erc_sl (eraL_enc er_I) rfl)), trivial⟩) ?_
 refine k_ret ?_
 obtain rfl := oi h
 exact e_ret (ls := [(.ov false [.sl (some 26) (v1.1.map (eO 3 eI))], 2), (.p (iV v3.1), 3)]) (by kernel_rfl) rfl (by kernel_rfl) rfl
theorem wk_spec_DrawGrowthBounds {a0 : (List Int)}  {r : ((List (List Int)) × Int)} (h : spec_DrawGrowthBounds a0 = some r) : Meets Try.prog 27 [.d false [.sl none (a0.map (eU .u8))]] { vals := [.ov false [.sl (some 26) (r.1.map (eO 3 eI))], .p (iV r.2)] } := by
 refine Meets_ofL (by kernel_rfl) Try.func27 rfl (by kernel_rfl) (l0 := [(0, .d false [.sl none (a0.map (eU .u8))])]) (by kernel_rfl) ?_
 unfold spec_DrawGrowthBounds at h
 refine k_sreg (r_go [(0, .d false [.sl none (a0.map (eU .u8))])] [] [] (by kernel_rfl) trivial) ?_
 replace h := bs' h
 obtain ⟨v1, hv1, h⟩ := h
 refine k_sreg (r_go [(2, .ov false [.sl (some 26) (v1.1.map (eO 3 eI))]), (3, .p (iV v1.2))] [(1, {call := some ([.d false [.sl none (a0.map (eU .u8))]], [.ov false [.sl (some 26) (v1.1.map (eO 3 eI))], .p (iV v1.2)], true)})] [([.d false [.sl none (a0.map (eU .u8))]] : List Arg) = [.d false [.sl none (a0.map (eU .u8))]], Meets Try.prog 89 ([.d false [.sl none (a0.map (eU .u8))]] ++ []) { vals := [.ov false [.sl (some 26) (v1.1.map (eO 3 eI))], .p (iV v1.2)] }, (!true || List.all [.ov false [.sl (some 26) (v1.1.map (eO 3 eI))], .p (iV v1.2)] simpleR) = true] (by kernel_rfl) ⟨rfl, (wk_spec_DrawWalkVector hv1), (bt (sa_o (wnR1 (wnL_enc (wn_O wn_I)) rfl) (sa_p rfl))), trivial⟩) ?_
 refine k_ret ?_
 obtain rfl := oi h
 exact e_ret (ls := [(.ov false [.sl (some 26) (v1.1.map (eO 3 eI))], 2), (.p (iV v1.2), 3)]) (by kernel_rfl) rfl (by kernel_rfl) rfl
theorem wk_impl_within {a0 : Int} {a1 : Int} {a2 : Int}  {r : Bool} (h : impl_within a0 a1 a2 = some r) : Meets Try.prog 74 [wI a0, wI a1, wI a2] { vals := [.p (.bool r)] } := by
 refine Meets_ofL (by kernel_rfl) Try.func74 rfl (by kernel_rfl) (l0 := [(0, .p (iV a0)), (1, .p (iV a1)), (2, .p (iV a2))]) (by kernel_rfl) ?_
 unfold impl_within at h
 refine k_sreg (r_go [(0, .p (iV a0)), (1, .p (iV a1)), (2, .p (iV a2))] [] [] (by kernel_rfl) trivial) ?_
 refine k_sreg (l1 := [(6, .p (.bool ((decide (a1 ≤ a0)) && (decide (a0 ≤ a2)))))]) ?_ ?_
 ·rcases ft (decide (a1 ≤ a0)) with ha0 | ha0
  ·exact RegOk.of_eq (l2 := [(6, .p (.bool ((decide (a1 ≤ a0)) && (decide (a0 ≤ a2)))))]) (r_go [(6, .p (.bool (decide (a0 ≤ a2))))] [(4, {g := some true}), (5, {g := some true}), (6, {g := some true}), (7, {b := some true})] [(decide (a1 ≤ a0)) = true, (decide (a1 ≤ a0)) = true, (decide (a1 ≤ a0)) = true, (decide (a1 ≤ a0)) = true] (by kernel_rfl) ⟨ha0, ha0, ha0, ha0, trivial⟩) (by simp [ha0])
  ·exact RegOk.of_eq (l2 := [(6, .p (.bool ((decide (a1 ≤ a0)) && (decide (a0 ≤ a2)))))]) (r_go [(6, .p (.bool false))] [(4, {g := some false}), (5, {g := some false}), (6, {g := some false}), (7, {b := some false})] [(decide (a1 ≤ a0)) = false, (decide (a1 ≤ a0)) = false, (decide (a1 ≤ a0)) = false, (decide (a1 ≤ a0)) = false] (by kernel_rfl) ⟨ha0, ha0, ha0, ha0, trivial⟩) (by simp [ha0])
 ·refine k_ret ?_
  obtain rfl := oi h
  exact e_ret (ls := [(.p (.bool ((decide (a1 ≤ a0)) && (decide (a0 ≤ a2)))), 6)]) (by kernel_rfl) rfl (by kernel_rfl) rfl
theorem wk_slices_IndexFunc_LLint_Lint_d {a0 : (List (List Int))} {a1 : ((List Int) → Option Bool)} {F1 : FuncId} {K1 : List (Bool × List C)} (hp1 : ∀ x0 y, a1 x0 = some y → Meets Try.prog F1 ([.d false [.sl none (x0.map eI)]] ++ (K1.map fun (g, cs) => mkA g cs)) { vals := [.p (.bool y)] }) {r : Int} (h : slices_IndexFunc_LLint_Lint a0 a1 = some r) : Meets Try.prog 152 [.d false [.sl none (a0.map (eF eI))], .d false [.fn F1 K1]] { vals := [.p (iV r)] } := by
 refine Meets_ofL (by kernel_rfl) Try.func152 rfl (by kernel_rfl) (l0 := [(0, .d false [.sl none (a0.map (eF eI))]), (1, .d false [.fn F1 K1])]) (by kernel_rfl) ?_
 unfold slices_IndexFunc_LLint_Lint at h
 refine k_sreg (r_go [(0, .d false [.sl none (a0.map (eF eI))]), (1, .d false [.fn F1 K1])] [] [] (by kernel_rfl) trivial) ?_
 refine k_join (J := fun (x : Unit) => []) (K := fun x => slices_IndexFunc_LLint_Lint_k1 x = some r) (fun x1 h => ?_) ?_
 ·unfold slices_IndexFunc_LLint_Lint_k1 at h
  refine k_sreg (r_go [(4, .p (iV (-1)))] [] [] (by kernel_rfl) trivial) ?_
  refine k_ret ?_
  obtain rfl := oi h
  exact e_ret (ls := [(.p (iV (-1)), 4)]) (by kernel_rfl) rfl (by kernel_rfl) rfl
 ·refine k_sreg (r_go [(0, .d false [.sl none (a0.map (eF eI))]), (1, .d false [.fn F1 K1]), (7, .p (iV (a0.length : Int))), (8, .p (iV 0))] [(1, {n := some a0.length})] [(a0.map (eF eI)).length = a0.length] (by kernel_rfl) ⟨(List.length_map ..), trivial⟩) ?_
  refine k_block ?_
  obtain ⟨y3, hl_x2, hk_x2⟩ := bs' h
  clear h
  refine k_loop (J := fun (x : Int) => [(0, .d false [.sl none (a0.map (eF eI))]), (1, .d false [.fn F1 K1]), (7, .p (iV (a0.length : Int))), (8, .p (iV x))]) hl_x2 (wk_of (by kernel_rfl) (by kernel_rfl)) (fun x2 o_x2 h hy_x2 => ?_)
  unfold slices_IndexFunc_LLint_Lint_b1 at h
  refine k_sreg (r_go [(0, .d false [.sl none (a0.map (eF eI))]), (1, .d false [.fn F1 K1]), (7, .p (iV (a0.length : Int))), (8, .p (iV x2)), (9, .p (.bool (decide (x2 < (a0.length : Int)))))] [] [] (by kernel_rfl) trivial) ?_
  refine k_seq ?_
  refine k_cond (b := (decide (x2 < (a0.length : Int)))) (by kernel_rfl) (fun hc5_3 => ?_) (fun hc5_3 => ?_)
  ·replace h := ite_t hc5_3 h
   refine k_skip ?_
   refine q_n ?_
   refine k_seq ?_
   refine k_block ?_
   refine k_sreg (r_go [(0, .d false [.sl none (a0.map (eF eI))]), (1, .d false [.fn F1 K1]), (5, .p (iV x2)), (7, .p (iV (a0.length : Int))), (8, .p (iV x2))] [] [] (by kernel_rfl) trivial) ?_
   replace h := bs' h
   obtain ⟨v5, hv5, h⟩ := h
   replace h := bs' h
   obtain ⟨v6, hv6, h⟩ := h
   refine k_sreg (r_go [(0, .d false [.sl none (a0.map (eF eI))]), (1, .d false [.fn F1 K1]), (5, .p (iV x2)), (7, .p (iV (a0.length : Int))), (8, .p (iV x2)), (16, .p (.bool v6))] [(3, {row := some [.sl none (v5.map eI)]}), (5, {call := some ([.d false [.sl none (v5.map eI)]], [.p (.bool v6)], true)})] [0 ≤ x2, (a0.map (eF eI))[(Int.toNat x2)]? = some [.sl none (v5.map eI)], ([.d false [.sl none (v5.map eI)]] : List Arg) = [.d false [.sl none (v5.map eI)]], Meets Try.prog F1 ([.d false [.sl none (v5.map eI)]] ++ (K1.map fun (g, cs) => mkA g cs)) { vals := [.p (.bool v6)] }, List.all [.p (.bool v6)] simpleR = true] (by kernel_rfl) ⟨(idxO_some hv5).1, (map_get (eF eI) (idxO_some hv5).2), rfl, (hp1 _ _ hv6), rfl, trivial⟩) ?_
   refine k_cond (b := v6) (by kernel_rfl) (fun hc6_6 => ?_) (fun hc6_6 => ?_)
   ·replace h := ite_t hc6_6 h
    refine k_sreg (r_go [(4, .p (iV x2))] [] [] (by kernel_rfl) trivial) ?_
    refine k_ret ?_
    refine b_r ?_
    refine q_r ?_
    refine lq_r ?_
    refine b_r ?_
    refine q_r ?_
    have hyy := hy_x2 _ (oi h).symm
    subst hyy
    have h := hk_x2
    dsimp only [Sum.elim] at h
    obtain rfl := oi h
    exact e_ret (ls := [(.p (iV x2), 4)]) (by kernel_rfl) rfl (by kernel_rfl) rfl
   ·replace h := ite_f hc6_6 h
    refine k_skip ?_
    refine b_n ?_
    refine q_n ?_
    refine k_reg (r_go [(0, .d false [.sl none (a0.map (eF eI))]), (1, .d false [.fn F1 K1]), (7, .p (iV (a0.length : Int))), (8, .p (iV (w64 (x2 + 1))))] [] [] (by kernel_rfl) trivial) ?_
    exact lq_n (w64 (x2 + 1)) (oi h).symm (wk_of (by kernel_rfl) (by kernel_rfl))
  ·replace h := ite_f hc5_3 h
   refine k_exit ?_
   refine q_x ?_
   refine lq_x ?_
   refine b_x ?_
   have hyy := hy_x2 _ (oi h).symm
   subst hyy
   have h := hk_x2
   dsimp only [Sum.elim] at h
   refine q_n ?_
   exact ⟨(), h, (wk_of (by kernel_rfl) (by kernel_rfl))⟩
theorem wk_slices_ContainsFunc_LLint_Lint_d {a0 : (List (List Int))} {a1 : ((List Int) → Option Bool)} {F1 : FuncId} {K1 : List (Bool × List C)} (hp1 : ∀ x0 y, a1 x0 = some y → Meets Try.prog F1 ([.d false [.sl none (x0.map eI)]] ++ (K1.map fun (g, cs) => mkA g cs)) { vals := [.p (.bool y)] }) {r : Bool} (h : slices_ContainsFunc_LLint_Lint a0 a1 = some r) : Meets Try.prog 123 [.d false [.sl none (a0.map (eF eI))], .d false [.fn F1 K1]] { vals := [.p (.bool r)] } := by
 refine Meets_ofL (by kernel_rfl) Try.func123 rfl (by kernel_rfl) (l0 := [(0, .d false [.sl none (a0.map (eF eI))]), (1, .d false [.fn F1 K1])]) (by kernel_rfl) ?_
 unfold slices_ContainsFunc_LLint_Lint at h
 refine k_sreg (r_go [(0, .d false [.sl none (a0.map (eF eI))]), (1, .d false [.fn F1 K1])] [] [] (by kernel_rfl) trivial) ?_
 replace h := bs' h
 obtain ⟨v1, hv1, h⟩ := h
 refine k_sreg (r_go [(4, .p (.bool (decide (v1 ≥ 0))))] [(2, {call := some ([.d false [.sl none (a0.map (eF eI))], .d false [.fn F1 K1]], [.p (iV v1)], true)})] [([.d false [.sl none (a0.map (eF eI))], .d false [.fn F1 K1]] : List Arg) = [.d false [.sl none (a0.map (eF eI))], .d false [.fn F1 K1]], Meets Try.prog 152 ([.d false [.sl none (a0.map (eF eI))], .d false [.fn F1 K1]] ++ []) { vals := [.p (iV v1)] }, (!true || List.all [.p (iV v1)] simpleR) = true] (by kernel_rfl) ⟨rfl, (wk_slices_IndexFunc_LLint_Lint_d hp1 hv1), (bt rfl), trivial⟩) ?_
 refine k_ret ?_
 obtain rfl := oi h
 exact e_ret (ls := [(.p (.bool (decide (v1 ≥ 0))), 4)]) (by kernel_rfl) rfl (by kernel_rfl) rfl
theorem wk_slices_IndexFunc_Lint_int_v {a0 : (List Int)} {a1 : (Int → Option Bool)} {F1 : FuncId} (hp1 : ∀ x0 y, a1 x0 = some y → Meets Try.prog F1 ([wI x0] ++ []) { vals := [.p (.bool y)] }) {r : Int} (h : slices_IndexFunc_Lint_int a0 a1 = some r) : Meets Try.prog 133 [.d false [.sl none (a0.map eI)], .v (.func (.func F1) #[] #[])] { vals := [.p (iV r)] } := by
 refine Meets_ofL (by kernel_rfl) Try.func133 rfl (by kernel_rfl) (l0 := [(0, .d false [.sl none (a0.map eI)]), (1, .p (.func (.func F1) #[] #[]))]) (by kernel_rfl) ?_
 unfold slices_IndexFunc_Lint_int at h
 refine k_sreg (r_go [(0, .d false [.sl none (a0.map eI)]), (1, .p (.func (.func F1) #[] #[]))] [] [] (by kernel_rfl) trivial) ?_
 refine k_join (J := fun (x : Unit) => []) (K := fun x => slices_IndexFunc_Lint_int_k1 x = some r) (fun x1 h => ?_) ?_
 ·unfold slices_IndexFunc_Lint_int_k1 at h
  refine k_sreg (r_go [(4, .p (iV (-1)))] [] [] (by kernel_rfl) trivial) ?_
  refine k_ret ?_
  obtain rfl := oi h
  exact e_ret (ls := [(.p (iV (-1)), 4)]) (by kernel_rfl) rfl (by kernel_rfl) rfl
 ·refine k_sreg (r_go [(0, .d false [.sl none (a0.map eI)]), (1, .p (.func (.func F1) #[] #[])), (7, .p (iV (a0.length : Int))), (8, .p (iV 0))] [(1, {n := some a0.length})] [(a0.map eI).length = a0.length] (by kernel_rfl) ⟨(List.length_map ..), trivial⟩) ?_
  refine k_block ?_
  obtain ⟨y3, hl_x2, hk_x2⟩ := bs' h
  clear h
  refine k_loop (J := fun (x : Int) => [(0, .d false [.sl none (a0.map eI)]), (1, .p (.func (.func F1) #[] #[])), (7, .p (iV (a0.length : Int))), (8, .p (iV x))]) hl_x2 (wk_of (by kernel_rfl) (by kernel_rfl)) (fun x2 o_x2 h hy_x2 => ?_)
  unfold slices_IndexFunc_Lint_int_b1 at h
  refine k_sreg (r_go [(0, .d false [.sl none (a0.map eI)]), (1, .p (.func (.func F1) #[] #[])), (7, .p (iV (a0.length : Int))), (8, .p (iV x2)), (9, .p (.bool (decide (x2 < (a0.length : Int)))))] [] [] (by kernel_rfl) trivial) ?_
  refine k_seq ?_
  refine k_cond (b := (decide (x2 < (a0.length : Int)))) (by kernel_rfl) (fun hc5_3 => ?_) (fun hc5_3 => ?_)
  ·replace h := ite_t hc5_3 h
   refine k_skip ?_
   refine q_n ?_
   refine k_seq ?_
   refine k_block ?_
   refine k_sreg (r_go [(0, .d false [.sl none (a0.map eI)]), (1, .p (.func (.func F1) #[] #[])), (5, .p (iV x2)), (7, .p (iV (a0.length : Int))), (8, .p (iV x2))] [] [] (by kernel_rfl) trivial) ?_
   replace h := bs' h
   obtain ⟨v5, hv5, h⟩ := h
   replace h := bs' h
   obtain ⟨v6, hv6, h⟩ := h
   refine k_sreg (r_go [(0, .d false [.sl none (a0.map eI)]), (1, .p (.func (.func F1) #[] #[])), (5, .p (iV x2)), (7, .p (iV (a0.length : Int))), (8, .p (iV x2)), (16, .p (.bool v6))] [(3, {row := some (eI v5)}), (5, {call := some ([wI v5], [.p (.bool v6)], true)})] [0 ≤ x2, (a0.map eI)[(Int.toNat x2)]? = some (eI v5), ([wI v5] : List Arg) = [wI v5], Meets Try.prog F1 ([wI v5] ++ []) { vals := [.p (.bool v6)] }, List.all [.p (.bool v6)] simpleR = true] (by kernel_rfl) ⟨(idxO_some hv5).1, (map_get eI (idxO_some hv5).2), rfl, (hp1 _ _ hv6), rfl, trivial⟩) ?_
   refine k_cond (b := v6) (by kernel_rfl) (fun hc6_6 => ?_) (fun hc6_6 => ?_)
   ·replace h := ite_t hc6_6 h
    refine k_sreg (r_go [(4, .p (iV x2))] [] [] (by kernel_rfl) trivial) ?_
    refine k_ret ?_
    refine b_r ?_
    refine q_r ?_
    refine lq_r ?_
    refine b_r ?_
    refine q_r ?_
    have hyy := hy_x2 _ (oi h).symm
    subst hyy
    have h := hk_x2
    dsimp only [Sum.elim] at h
    obtain rfl := oi h
    exact e_ret (ls := [(.p (iV x2), 4)]) (by kernel_rfl) rfl (by kernel_rfl) rfl
   ·replace h := ite_f hc6_6 h
    refine k_skip ?_
    refine b_n ?_
    refine q_n ?_
    refine k_reg (r_go [(0, .d false [.sl none (a0.map eI)]), (1, .p (.func (.func F1) #[] #[])), (7, .p (iV (a0.length : Int))), (8, .p (iV (w64 (x2 + 1))))] [] [] (by kernel_rfl) trivial) ?_
    exact lq_n (w64 (x2 + 1)) (oi h).symm (wk_of (by kernel_rfl) (by kernel_rfl))
  ·replace h := ite_f hc5_3 h
   refine k_exit ?_
   refine q_x ?_
   refine lq_x ?_
   refine b_x ?_
   have hyy := hy_x2 _ (oi h).symm
   subst hyy
   have h := hk_x2
   dsimp only [Sum.elim] at h
   refine q_n ?_
   exact ⟨(), h, (wk_of (by kernel_rfl) (by kernel_rfl))⟩
theorem wk_slices_ContainsFunc_Lint_int_v {a0 : (List Int)} {a1 : (Int → Option Bool)} {F1 : FuncId} (hp1 : ∀ x0 y, a1 x0 = some y → Meets Try.prog F1 ([wI x0] ++ []) { vals := [.p (.bool y)] }) {r : Bool} (h : slices_ContainsFunc_Lint_int a0 a1 = some r) : Meets Try.prog 85 [.d false [.sl none (a0.map eI)], .v (.func (.func F1) #[] #[])] { vals := [.p (.bool r)] } := by
 refine Meets_ofL (by kernel_rfl) Try.func85 rfl (by kernel_rfl) (l0 := [(0, .d false [.sl none (a0.map eI)]), (1, .p (.func (.func F1) #[] #[]))]) (by kernel_rfl) ?_
 unfold slices_ContainsFunc_Lint_int at h
 refine k_sreg (r_go [(0, .d false [.sl none (a0.map eI)]), (1, .p (.func (.func F1) #[] #[]))] [] [] (by kernel_rfl) trivial) ?_
 replace h := bs' h
 obtain ⟨v1, hv1, h⟩ := h
 refine k_sreg (r_go [(4, .p (.bool (decide (v1 ≥ 0))))] [(2, {call := some ([.d false [.sl none (a0.map eI)], .v (.func (.func F1) #[] #[])], [.p (iV v1)], true)})] [([.d false [.sl none (a0.map eI)], .v (.func (.func F1) #[] #[])] : List Arg) = [.d false [.sl none (a0.map eI)], .v (.func (.func F1) #[] #[])], Meets Try.prog 133 ([.d false [.sl none (a0.map eI)], .v (.func (.func F1) #[] #[])] ++ []) { vals := [.p (iV v1)] }, (!true || List.all [.p (iV v1)] simpleR) = true] (by kernel_rfl) ⟨rfl, (wk_slices_IndexFunc_Lint_int_v hp1 hv1), (bt rfl), trivial⟩) ?_
 refine k_ret ?_
 obtain rfl := oi h
 exact e_ret (ls := [(.p (.bool (decide (v1 ≥ 0))), 4)]) (by kernel_rfl) rfl (by kernel_rfl) rfl
theorem wk_impl_isGraph_1_1 {a0 : Int}  {r : Bool} (h : impl_isGraph_1_1 a0 = some r) : Meets Try.prog 125 [wI a0] { vals := [.p (.bool r)] } := by
 refine Meets_ofL (by kernel_rfl) Try.func125 rfl (by kernel_rfl) (l0 := [(0, .p (iV a0))]) (by kernel_rfl) ?_
 unfold impl_isGraph_1_1 at h
 refine k_sreg (r_go [(0, .p (iV a0))] [] [] (by kernel_rfl) trivial) ?_
 replace h := bs' h
 obtain ⟨v1, hv1, h⟩ := h
 refine k_sreg (r_go [(2, .p (.bool (!v1)))] [(1, {call := some ([wI a0, wI 0, wI 9], [.p (.bool v1)], true)})] [([wI a0, wI 0, wI 9] : List Arg) = [wI a0, wI 0, wI 9], Meets Try.prog 74 ([wI a0, wI 0, wI 9] ++ []) { vals := [.p (.bool v1)] }, (!true || List.all [.p (.bool v1)] simpleR) = true] (by kernel_rfl) ⟨rfl, (wk_impl_within hv1), (bt rfl), trivial⟩) ?_
 refine k_ret ?_
 obtain rfl := oi h
 exact e_ret (ls := [(.p (.bool (!v1)), 2)]) (by kernel_rfl) rfl (by kernel_rfl) rfl
theorem wk_impl_isGraph_1 {a0 : (List Int)} {c0 : (List (List Int))}  {r : Bool} (h : impl_isGraph_1 a0 c0 = some r) : Meets Try.prog 124 [.d false [.sl none (a0.map eI)], .d false [.pt [.sl none (c0.map (eF eI))]]] { vals := [.p (.bool r)] } := by
 refine Meets_ofL (by kernel_rfl) Try.func124 rfl (by kernel_rfl) (l0 := [(0, .d false [.sl none (a0.map eI)]), (1, .d false [.pt [.sl none (c0.map (eF eI))]])]) (by kernel_rfl) ?_
 unfold impl_isGraph_1 at h
 refine k_sreg (r_go [(0, .d false [.sl none (a0.map eI)]), (1, .d false [.pt [.sl none (c0.map (eF eI))]])] [] [] (by kernel_rfl) trivial) ?_
 replace h := bs' h
 obtain ⟨w2, hw2, h⟩ := h
 refine k_sreg (l1 := [(3, .p (.bool w2))]) ?_ ?_
 ·clear h
  rcases ft ((a0.length : Int) != (c0.length : Int)) with ha0 | ha0
  ·replace hw2 := ite_t ha0 hw2
   have hw2 := oi hw2
   subst hw2
   exact (r_go [(3, .p (.bool true))] [(1, {n := some a0.length}), (3, {n := some c0.length}), (6, {g := some true}), (7, {g := some true}), (8, {b := some true})] [(a0.map eI).length = a0.length, (c0.map (eF eI)).length = c0.length, ((a0.length : Int) != (c0.length : Int)) = true, ((a0.length : Int) != (c0.length : Int)) = true, ((a0.length : Int) != (c0.length : Int)) = true] (by kernel_rfl) ⟨(List.length_map ..), (List.length_map ..), ha0, ha0, ha0, trivial⟩)
  ·replace hw2 := ite_f ha0 hw2
   replace hw2 := bs' hw2
   obtain ⟨v1, hv1, hw2⟩ := hw2
   have hw2 := oi hw2
   subst hw2
   exact (r_go [(3, .p (.bool v1))] [(1, {n := some a0.length}), (3, {n := some c0.length}), (6, {g := some false}), (7, {g := some false, call := some ([.d false [.sl none (a0.map eI)], .v (.func (.func 125) #[] #[])], [.p (.bool v1)], true)}), (8, {b := some false})] [(a0.map eI).length = a0.length, (c0.map (eF eI)).length = c0.length, ((a0.length : Int) != (c0.length : Int)) = false, ((a0.length : Int) != (c0.length : Int)) = false, ([.d false [.sl none (a0.map eI)], .v (.func (.func 125) #[] #[])] : List Arg) = [.d false [.sl none (a0.map eI)], .v (.func (.func 125) #[] #[])], Meets Try.prog 85 ([.d false [.sl none (a0.map eI)], .v (.func (.func 125) #[] #[])] ++ []) { vals := [.p (.bool v1)] }, (!true || List.all [.p (.bool v1)] simpleR) = true, ((a0.length : Int) != (c0.length : Int)) = false] (by kernel_rfl) ⟨(List.length_map ..), (List.length_map ..), ha0, ha0, rfl, (wk_slices_ContainsFunc_Lint_int_v (fun x0 y hy => wk_impl_isGraph_1_1 hy) hv1), (bt rfl), ha0, trivial⟩)
 ·refine k_ret ?_
  obtain rfl := oi h
  exact e_ret (ls := [(.p (.bool w2), 3)]) (by kernel_rfl) rfl (by kernel_rfl) rfl
theorem wk_impl_isGraph {a0 : (List (List Int))}  {r : Bool} (h : impl_isGraph a0 = some r) : Meets Try.prog 62 [.d false [.sl none (a0.map (eF eI))]] { vals := [.p (.bool r)] } := by
 refine Meets_ofL (by kernel_rfl) Try.func62 rfl (by kernel_rfl) (l0 := [(0, .d false [.sl none (a0.map (eF eI))])]) (by kernel_rfl) ?_
 unfold impl_isGraph at h
 refine k_sreg (r_go [(1, .box [.sl none (a0.map (eF eI))])] [] [] (by kernel_rfl) trivial) ?_
 refine k_frz 1 [.sl none (a0.map (eF eI))] [.sl none (a0.map (eF eI))] [(1, .d false [.pt [.sl none (a0.map (eF eI))]])] (by kernel_rfl) (erc_sl (eraL_enc (era_F er_I)) rfl) (by kernel_rfl) (by kernel_rfl) ?_
 replace h := bs' h
 obtain ⟨v1, hv1, h⟩ := h
 replace h := bs' h
 obtain ⟨w3, hw3, h⟩ := h
 refine k_sreg (l1 := [(2, .p (.bool w3))]) ?_ ?_
 ·clear h
  rcases ft v1 with ha0 | ha0
  ·replace hw3 := ite_t ha0 hw3
   replace hw3 := bs' hw3
   obtain ⟨v2, hv2, hw3⟩ := hw3
   have hw3 := oi hw3
   subst hw3
   exact (r_go [(2, .p (.bool (!v2)))] [(1, {n := some a0.length}), (2, {call := some ([wI (a0.length : Int), wI 1, wI 8], [.p (.bool v1)], true)}), (4, {g := some true}), (5, {g := some true}), (6, {g := some true, call := some ([.d false [.sl none (a0.map (eF eI))], .d false [.fn 124 [(false, [.pt [.sl none (a0.map (eF eI))]])]]], [.p (.bool v2)], true)}), (7, {g := some true}), (8, {b := some true})] [(a0.map (eF eI)).length = a0.length, ([wI (a0.length : Int), wI 1, wI 8] : List Arg) = [wI (a0.length : Int), wI 1, wI 8], Meets Try.prog 74 ([wI (a0.length : Int), wI 1, wI 8] ++ []) { vals := [.p (.bool v1)] }, (!true || List.all [.p (.bool v1)] simpleR) = true, v1 = true, v1 = true, v1 = true, ([.d false [.sl none (a0.map (eF eI))], .d false [.fn 124 [(false, [.pt [.sl none (a0.map (eF eI))]])]]] : List Arg) = [.d false [.sl none (a0.map (eF eI))], .d false [.fn 124 [(false, [.pt [.sl none (a0.map (eF eI))]])]]], Meets Try.prog 123 ([.d false [.sl none (a0.map (eF eI))], .d false [.fn 124 [(false, [.pt [.sl none (a0.map (eF eI))]])]]] ++ []) { vals := [.p (.bool v2)] }, (!true || List.all [.p (.bool v2)] simpleR) = true, v1 = true, v1 = true] (by kernel_rfl) ⟨(List.length_map ..), rfl, (wk_impl_within hv1), (bt rfl), ha0, ha0, ha0, rfl, (wk_slices_ContainsFunc_LLint_Lint_d (fun x0 y hy => wk_impl_isGraph_1 hy) hv2), (bt rfl), ha0, ha0, trivial⟩)
  ·replace hw3 := ite_f ha0 hw3
   have hw3 := oi hw3
   subst hw3
   exact (r_go [(2, .p (.bool false))] [(1, {n := some a0.length}), (2, {call := some ([wI (a0.length : Int), wI 1, wI 8], [.p (.bool v1)], true)}), (4, {g := some false}), (5, {g := some false}), (6, {g := some false}), (7, {g := some false}), (8, {b := some false})] [(a0.map (eF eI)).length = a0.length, ([wI (a0.length : Int), wI 1, wI 8] : List Arg) = [wI (a0.length : Int), wI 1, wI 8], Meets Try.prog 74 ([wI (a0.length : Int), wI 1, wI 8] ++ []) { vals := [.p (.bool v1)] }, (!true || List.all [.p (.bool v1)] simpleR) = true, v1 = false, v1 = false, v1 = false, v1 = false, v1 = false] (by kernel_rfl) ⟨(List.length_map ..), rfl, (wk_impl_within hv1), (bt rfl), ha0, ha0, ha0, ha0, ha0, trivial⟩)
 ·refine k_ret ?_
  obtain rfl := oi h
  exact e_ret (ls := [(.p (.bool w3), 2)]) (by kernel_rfl) rfl (by kernel_rfl) rfl
theorem wk_math_bits_Mul64 {a0 : Int} {a1 : Int}  {r : Qr} (h : math_bits_Mul64 a0 a1 = some r) : Meets Try.prog 159 [.v (.int .u64 a0), .v (.int .u64 a1)] { vals := [.p (.int .u64 r.1), .p (.int .u64 r.2)] } := by
 refine Meets_ofL (by kernel_rfl) Try.func159 rfl (by kernel_rfl) (l0 := [(0, .p (.int .u64 a0)), (1, .p (.int .u64 a1))]) (by kernel_rfl) ?_
 unfold math_bits_Mul64 at h
 refine k_sreg (r_go [(0, .p (.int .u64 a0)), (1, .p (.int .u64 a1))] [] [] (by kernel_rfl) trivial) ?_
 refine k_sreg (r_go [(0, .p (.int .u64 a0)), (1, .p (.int .u64 a1)), (6, .p (.int .u64 (iand .u64 a0 4294967295)))] [(1, {pv := some (.int .u64 (iand .u64 a0 4294967295))})] [PureAt Try.prog (.binOp .and 76 (.tmp 14) (.const (.int .u64 4294967295)) 76) [.int .u64 a0, .int .u64 4294967295] (.int .u64 (iand .u64 a0 4294967295))] (by kernel_rfl) ⟨(pure_and), trivial⟩) ?_
 refine k_sreg (r_go [(0, .p (.int .u64 a0)), (1, .p (.int .u64 a1)), (6, .p (.int .u64 (iand .u64 a0 4294967295))), (7, .p (.int .u64 (ishr .u64 a0 32)))] [(1, {pv := some (.int .u64 (ishr .u64 a0 32))})] [PureAt Try.prog (.binOp .shr 76 (.tmp 16) (.const (.int .u64 32)) 108) [.int .u64 a0, .int .u64 32] (.int .u64 (ishr .u64 a0 32))] (by kernel_rfl) ⟨(pure_shr (by decide)), trivial⟩) ?_
 refine k_sreg (r_go [(0, .p (.int .u64 a0)), (1, .p (.int .u64 a1)), (6, .p (.int .u64 (iand .u64 a0 4294967295))), (7, .p (.int .u64 (ishr .u64 a0 32))), (8, .p (.int .u64 (iand .u64 a1 4294967295)))] [(1, {pv := some (.int .u64 (iand .u64 a1 4294967295))})] [PureAt Try.prog (.binOp .and 76 (.tmp 18) (.const (.int .u64 4294967295)) 76) [.int .u64 a1, .int .u64 4294967295] (.int .u64 (iand .u64 a1 4294967295))] (by kernel_rfl) ⟨(pure_and), trivial⟩) ?_
 refine k_sreg (r_go [(0, .p (.int .u64 a0)), (1, .p (.int .u64 a1)), (6, .p (.int .u64 (iand .u64 a0 4294967295))), (7, .p (.int .u64 (ishr .u64 a0 32))), (8, .p (.int .u64 (iand .u64 a1 4294967295))), (9, .p (.int .u64 (ishr .u64 a1 32)))] [(1, {pv := some (.int .u64 (ishr .u64 a1 32))})] [PureAt Try.prog (.binOp .shr 76 (.tmp 20) (.const (.int .u64 32)) 108) [.int .u64 a1, .int .u64 32] (.int .u64 (ishr .u64 a1 32))] (by kernel_rfl) ⟨(pure_shr (by decide)), trivial⟩) ?_
 refine k_sreg (r_go [(0, .p (.int .u64 a0)), (1, .p (.int .u64 a1)), (6, .p (.int .u64 (iand .u64 a0 4294967295))), (7, .p (.int .u64 (ishr .u64 a0 32))), (8, .p (.int .u64 (iand .u64 a1 4294967295))), (9, .p (.int .u64 (ishr .u64 a1 32))), (10, .p (.int .u64 (IntKind.wrap .u64 ((iand .u64 a0 4294967295) * (iand .u64 a1 4294967295)))))] [] [] (by kernel_rfl) trivial) ?_
 refine k_sreg (r_go [(0, .p (.int .u64 a0)), (1, .p (.int .u64 a1)), (6, .p (.int .u64 (iand .u64 a0 4294967295))), (7, .p (.int .u64 (ishr .u64 a0 32))), (9, .p (.int .u64 (ishr .u64 a1 32))), (11, .p (.int .u64 (IntKind.wrap .u64 ((IntKind.wrap .u64 ((ishr .u64 a0 32) * (iand .u64 a1 4294967295))) + (ishr .u64 (IntKind.wrap .u64 ((iand .u64 a0 4294967295) * (iand .u64 a1 4294967295))) 32)))))] [(4, {pv := some (.int .u64 (ishr .u64 (IntKind.wrap .u64 ((iand .u64 a0 4294967295) * (iand .u64 a1 4294967295))) 32))})] [PureAt Try.prog (.binOp .shr 76 (.tmp 28) (.const (.int .u64 32)) 108) [.int .u64 (IntKind.wrap .u64 ((iand .u64 a0 4294967295) * (iand .u64 a1 4294967295))), .int .u64 32] (.int .u64 (ishr .u64 (IntKind.wrap .u64 ((iand .u64 a0 4294967295) * (iand .u64 a1 4294967295))) 32))] (by kernel_rfl) ⟨(pure_shr (by decide)), trivial⟩) ?_
 refine k_sreg (r_go [(0, .p (.int .u64 a0)), (1, .p (.int .u64 a1)), (6, .p (.int .u64 (iand .u64 a0 4294967295))), (7, .p (.int .u64 (ishr .u64 a0 32))), (9, .p (.int .u64 (ishr .u64 a1 32))), (11, .p (.int .u64 (IntKind.wrap .u64 ((IntKind.wrap .u64 ((ishr .u64 a0 32) * (iand .u64 a1 4294967295))) + (ishr .u64 (IntKind.wrap .u64 ((iand .u64 a0 4294967295) * (iand .u64 a1 4294967295))) 32))))), (12, .p (.int .u64 (iand .u64 (IntKind.wrap .u64 ((IntKind.wrap .u64 ((ishr .u64 a0 32) * (iand .u64 a1 4294967295))) + (ishr .u64 (IntKind.wrap .u64 ((iand .u64 a0 4294967295) * (iand .u64 a1 4294967295))) 32))) 4294967295)))] [(1, {pv := some (.int .u64 (iand .u64 (IntKind.wrap .u64 ((IntKind.wrap .u64 ((ishr .u64 a0 32) * (iand .u64 a1 4294967295))) + (ishr .u64 (IntKind.wrap .u64 ((iand .u64 a0 4294967295) * (iand .u64 a1 4294967295))) 32))) 4294967295))})] [PureAt Try.prog (.binOp .and 76 (.tmp 31) (.const (.int .u64 4294967295)) 76) [.int .u64 (IntKind.wrap .u64 ((IntKind.wrap .u64 ((ishr .u64 a0 32) * (iand .u64 a1 4294967295))) + (ishr .u64 (IntKind.wrap .u64 ((iand .u64 a0 4294967295) * (iand .u64 a1 4294967295))) 32))), .int .u64 4294967295] (.int .u64 (iand .u64 (IntKind.wrap .u64 ((IntKind.wrap .u64 ((ishr .u64 a0 32) * (iand .u64 a1 4294967295))) + (ishr .u64 (IntKind.wrap .u64 ((iand .u64 a0 4294967295) * (iand .u64 a1 4294967295))) 32))) 4294967295))] (by kernel_rfl) ⟨(pure_and), trivial⟩) ?_
 refine k_sreg (r_go [(0, .p (.int .u64 a0)), (1, .p (.int .u64 a1)), (6, .p (.int .u64 (iand .u64 a0 4294967295))), (7, .p (.int .u64 (ishr .u64 a0 32))), (9, .p (.int .u64 (ishr .u64 a1 32))), (12, .p (.int .u64 (iand .u64 (IntKind.wrap .u64 ((IntKind.wrap .u64 ((ishr .u64 a0 32) * (iand .u64 a1 4294967295))) + (ishr .u64 (IntKind.wrap .u64 ((iand .u64 a0 4294967295) * (iand .u64 a1 4294967295))) 32))) 4294967295))), (13, .p (.int .u64 (ishr .u64 (IntKind.wrap .u64 ((IntKind.wrap .u64 ((ishr .u64 a0 32) * (iand .u64 a1 4294967295))) + (ishr .u64 (IntKind.wrap .u64 ((iand .u64 a0 4294967295) * (iand .u64 a1 4294967295))) 32))) 32)))] [(1, {pv := some (.int .u64 (ishr .u64 (IntKind.wrap .u64 ((IntKind.wrap .u64 ((ishr .u64 a0 32) * (iand .u64 a1 4294967295))) + (ishr .u64 (IntKind.wrap .u64 ((iand .u64 a0 4294967295) * (iand .u64 a1 4294967295))) 32))) 32))})] [PureAt Try.prog (.binOp .shr 76 (.tmp 33) (.const (.int .u64 32)) 108) [.int .u64 (IntKind.wrap .u64 ((IntKind.wrap .u64 ((ishr .u64 a0 32) * (iand .u64 a1 4294967295))) + (ishr .u64 (IntKind.wrap .u64 ((iand .u64 a0 4294967295) * (iand .u64 a1 4294967295))) 32))), .int .u64 32] (.int .u64 (ishr .u64 (IntKind.wrap .u64 ((IntKind.wrap .u64 ((ishr .u64 a0 32) * (iand .u64 a1 4294967295))) + (ishr .u64 (IntKind.wrap .u64 ((iand .u64 a0 4294967295) * (iand .u64 a1 4294967295))) 32))) 32))] (by kernel_rfl) ⟨(pure_shr (by decide)), trivial⟩) ?_
 refine k_sreg (r_go [(0, .p (.int .u64 a0)), (1, .p (.int .u64 a1)), (7, .p (.int .u64 (ishr .u64 a0 32))), (9, .p (.int .u64 (ishr .u64 a1 32))), (12, .p (.int .u64 (IntKind.wrap .u64 ((iand .u64 (IntKind.wrap .u64 ((IntKind.wrap .u64 ((ishr .u64 a0 32) * (iand .u64 a1 4294967295))) + (ishr .u64 (IntKind.wrap .u64 ((iand .u64 a0 4294967295) * (iand .u64 a1 4294967295))) 32))) 4294967295) + (IntKind.wrap .u64 ((iand .u64 a0 4294967295) * (ishr .u64 a1 32))))))), (13, .p (.int .u64 (ishr .u64 (IntKind.wrap .u64 ((IntKind.wrap .u64 ((ishr .u64 a0 32) * (iand .u64 a1 4294967295))) + (ishr .u64 (IntKind.wrap .u64 ((iand .u64 a0 4294967295) * (iand .u64 a1 4294967295))) 32))) 32)))] [] [] (by kernel_rfl) trivial) ?_
 refine k_sreg (r_go [(0, .p (.int .u64 a0)), (1, .p (.int .u64 a1)), (4, .p (.int .u64 (IntKind.wrap .u64 ((IntKind.wrap .u64 ((IntKind.wrap .u64 ((ishr .u64 a0 32) * (ishr .u64 a1 32))) + (ishr .u64 (IntKind.wrap .u64 ((IntKind.wrap .u64 ((ishr .u64 a0 32) * (iand .u64 a1 4294967295))) + (ishr .u64 (IntKind.wrap .u64 ((iand .u64 a0 4294967295) * (iand .u64 a1 4294967295))) 32))) 32))) + (ishr .u64 (IntKind.wrap .u64 ((iand .u64 (IntKind.wrap .u64 ((IntKind.wrap .u64 ((ishr .u64 a0 32) * (iand .u64 a1 4294967295))) + (ishr .u64 (IntKind.wrap .u64 ((iand .u64 a0 4294967295) * (iand .u64 a1 4294967295))) 32))) 4294967295) + (IntKind.wrap .u64 ((iand .u64 a0 4294967295) * (ishr .u64 a1 32))))) 32)))))] [(6, {pv := some (.int .u64 (ishr .u64 (IntKind.wrap .u64 ((iand .u64 (IntKind.wrap .u64 ((IntKind.wrap .u64 ((ishr .u64 a0 32) * (iand .u64 a1 4294967295))) + (ishr .u64 (IntKind.wrap .u64 ((iand .u64 a0 4294967295) * (iand .u64 a1 4294967295))) 32))) 4294967295) + (IntKind.wrap .u64 ((iand .u64 a0 4294967295) * (ishr .u64 a1 32))))) 32))})] [PureAt Try.prog (.binOp .shr 76 (.tmp 45) (.const (.int .u64 32)) 108) [.int .u64 (IntKind.wrap .u64 ((iand .u64 (IntKind.wrap .u64 ((IntKind.wrap .u64 ((ishr .u64 a0 32) * (iand .u64 a1 4294967295))) + (ishr .u64 (IntKind.wrap .u64 ((iand .u64 a0 4294967295) * (iand .u64 a1 4294967295))) 32))) 4294967295) + (IntKind.wrap .u64 ((iand .u64 a0 4294967295) * (ishr .u64 a1 32))))), .int .u64 32] (.int .u64 (ishr .u64 (IntKind.wrap .u64 ((iand .u64 (IntKind.wrap .u64 ((IntKind.wrap .u64 ((ishr .u64 a0 32) * (iand .u64 a1 4294967295))) + (ishr .u64 (IntKind.wrap .u64 ((iand .u64 a0 4294967295) * (iand .u64 a1 4294967295))) 32))) 4294967295) + (IntKind.wrap .u64 ((iand .u64 a0 4294967295) * (ishr .u64 a1 32))))) 32))] (by kernel_rfl) ⟨(pure_shr (by decide)), trivial⟩) ?_
 refine k_sreg (r_go [(4, .p (.int .u64 (IntKind.wrap .u64 ((IntKind.wrap .u64 ((IntKind.wrap .u64 ((ishr .u64 a0 32) * (ishr .u64 a1 32))) + (ishr .u64 (IntKind.wrap .u64 ((IntKind.wrap .u64 ((ishr .u64 a0 32) * (iand .u64 a1 4294967295))) + (ishr .u64 (IntKind.wrap .u64 ((iand .u64 a0 4294967295) * (iand .u64 a1 4294967295))) 32))) 32))) + (ishr .u64 (IntKind.wrap .u64 ((iand .u64 (IntKind.wrap .u64 ((IntKind.wrap .u64 ((ishr .u64 a0 32) * (iand .u64 a1 4294967295))) + (ishr .u64 (IntKind.wrap .u64 ((iand .u64 a0 4294967295) * (iand .u64 a1 4294967295))) 32))) 4294967295) + (IntKind.wrap .u64 ((iand .u64 a0 4294967295) * (ishr .u64 a1 32))))) 32))))), (5, .p (.int .u64 (IntKind.wrap .u64 (a0 * a1))))] [] [] (by kernel_rfl) trivial) ?_
 refine k_ret ?_
 obtain rfl := oi h
 exact e_ret (ls := [(.p (.int .u64 (IntKind.wrap .u64 ((IntKind.wrap .u64 ((IntKind.wrap .u64 ((ishr .u64 a0 32) * (ishr .u64 a1 32))) + (ishr .u64 (IntKind.wrap .u64 ((IntKind.wrap .u64 ((ishr .u64 a0 32) * (iand .u64 a1 4294967295))) + (ishr .u64 (IntKind.wrap .u64 ((iand .u64 a0 4294967295) * (iand .u64 a1 4294967295))) 32))) 32))) + (ishr .u64 (IntKind.wrap .u64 ((iand .u64 (IntKind.wrap .u64 ((IntKind.wrap .u64 ((ishr .u64 a0 32) * (iand .u64 a1 4294967295))) + (ishr .u64 (IntKind.wrap .u64 ((iand .u64 a0 4294967295) * (iand .u64 a1 4294967295))) 32))) 4294967295) + (IntKind.wrap .u64 ((iand .u64 a0 4294967295) * (ishr .u64 a1 32))))) 32)))), 4), (.p (.int .u64 (IntKind.wrap .u64 (a0 * a1))), 5)]) (by kernel_rfl) rfl (by kernel_rfl) rfl
theorem wk_math_bits_Mul {a0 : Int} {a1 : Int}  {r : Qr} (h : math_bits_Mul a0 a1 = some r) : Meets Try.prog 149 [.v (.int .u64 a0), .v (.int .u64 a1)] { vals := [.p (.int .u64 r.1), .p (.int .u64 r.2)] } := by
 refine Meets_ofL (by kernel_rfl) Try.func149 rfl (by kernel_rfl) (l0 := [(0, .p (.int .u64 a0)), (1, .p (.int .u64 a1))]) (by kernel_rfl) ?_
 unfold math_bits_Mul at h
 refine k_sreg (r_go [(0, .p (.int .u64 a0)), (1, .p (.int .u64 a1))] [] [] (by kernel_rfl) trivial) ?_
 refine k_seq ?_
 refine k_cond (b := false) (by kernel_rfl) (fun hno => by rw [show false = false from rfl] at hno; cases hno) (fun _ => ?_)
 refine k_skip ?_
 refine q_n ?_
 replace h := bs' h
 obtain ⟨v2, hv2, h⟩ := h
 refine k_sreg (r_go [(8, .p (.int .u64 v2.1)), (9, .p (.int .u64 v2.2))] [(2, {call := some ([.v (.int .u64 a0), .v (.int .u64 a1)], [.p (.int .u64 v2.1), .p (.int .u64 v2.2)], true)})] [([.v (.int .u64 a0), .v (.int .u64 a1)] : List Arg) = [.v (.int .u64 a0), .v (.int .u64 a1)], Meets Try.prog 159 ([.v (.int .u64 a0), .v (.int .u64 a1)] ++ []) { vals := [.p (.int .u64 v2.1), .p (.int .u64 v2.2)] }, (!true || List.all [.p (.int .u64 v2.1), .p (.int .u64 v2.2)] simpleR) = true] (by kernel_rfl) ⟨rfl, (wk_math_bits_Mul64 hv2), (bt rfl), trivial⟩) ?_
 refine k_sreg (r_go [(4, .p (.int .u64 v2.1)), (5, .p (.int .u64 v2.2))] [] [] (by kernel_rfl) trivial) ?_
 refine k_ret ?_
 obtain rfl := oi h
 exact e_ret (ls := [(.p (.int .u64 v2.1), 4), (.p (.int .u64 v2.2), 5)]) (by kernel_rfl) rfl (by kernel_rfl) rfl
theorem wk_slices_Repeat_Lint_int {a0 : (List Int)} {a1 : Int}  {r : (List Int)} (h : slices_Repeat_Lint_int a0 a1 = some r) : Meets Try.prog 114 [.d false [.sl none (a0.map eI)], wI a1] { vals := [.ov false [.sl (some 3) (r.map eI)]] } := by
 refine Meets_ofL (by kernel_rfl) Try.func114 rfl (by kernel_rfl) (l0 := [(0, .d false [.sl none (a0.map eI)]), (1, .p (iV a1))]) (by kernel_rfl) ?_
 unfold slices_Repeat_Lint_int at h
 refine k_sreg (r_go [(0, .d false [.sl none (a0.map eI)]), (1, .p (iV a1))] [] [] (by kernel_rfl) trivial) ?_
 refine k_join (J := fun (x : Unit) => [(0, .d false [.sl none (a0.map eI)]), (1, .p (iV a1))]) (K := fun x => slices_Repeat_Lint_int_k1 a0 a1 x = some r) (fun x1 h => ?_) ?_
 ·unfold slices_Repeat_Lint_int_k1 at h
  replace h := bs' h
  obtain ⟨v2, hv2, h⟩ := h
  refine k_sreg (r_go [(0, .d false [.sl none (a0.map eI)]), (5, .p (.int .u64 v2.1)), (6, .p (.int .u64 v2.2))] [(1, {n := some a0.length}), (2, {pv := some (.int .u64 (IntKind.wrap .u64 (a0.length : Int)))}), (4, {pv := some (.int .u64 (IntKind.wrap .u64 a1))}), (5, {call := some ([.v (.int .u64 (IntKind.wrap .u64 (a0.length : Int))), .v (.int .u64 (IntKind.wrap .u64 a1))], [.p (.int .u64 v2.1), .p (.int .u64 v2.2)], true)})] [(a0.map eI).length = a0.length, PureAt Try.prog (.convert 3 108 (.tmp 14)) [.int .i64 (a0.length : Int)] (.int .u64 (IntKind.wrap .u64 (a0.length : Int))), PureAt Try.prog (.convert 3 108 (.tmp 16)) [.int .i64 a1] (.int .u64 (IntKind.wrap .u64 a1)), ([.v (.int .u64 (IntKind.wrap .u64 (a0.length : Int))), .v (.int .u64 (IntKind.wrap .u64 a1))] : List Arg) = [.v (.int .u64 (IntKind.wrap .u64 (a0.length : Int))), .v (.int .u64 (IntKind.wrap .u64 a1))], Meets Try.prog 149 ([.v (.int .u64 (IntKind.wrap .u64 (a0.length : Int))), .v (.int .u64 (IntKind.wrap .u64 a1))] ++ []) { vals := [.p (.int .u64 v2.1), .p (.int .u64 v2.2)] }, (!true || List.all [.p (.int .u64 v2.1), .p (.int .u64 v2.2)] simpleR) = true] (by kernel_rfl) ⟨(List.length_map ..), (pure_conv Try_und3 Try_und108), (pure_conv Try_und3 Try_und108), rfl, (wk_math_bits_Mul hv2), (bt rfl), trivial⟩) ?_
  refine k_join (J := fun (x : Unit) => [(0, .d false [.sl none (a0.map eI)]), (6, .p (.int .u64 v2.2))]) (K := fun x => slices_Repeat_Lint_int_k2 a0 v2 x = some r) (fun x3 h => ?_) ?_
  ·unfold slices_Repeat_Lint_int_k2 at h
   replace h := bs' h
   obtain ⟨u4, hu4, h⟩ := h
   refine k_sreg (r_go [(0, .d false [.sl none (a0.map eI)]), (7, .ov false [.sl (some 3) ((List.replicate (Int.toNat (IntKind.wrap .i64 v2.2)) (0 : Int)).map eI)])] [(1, {pv := some (iV (IntKind.wrap .i64 v2.2))}), (2, {fix := some (30, .ov false [.sl (some 3) ((List.replicate (Int.toNat (IntKind.wrap .i64 v2.2)) (0 : Int)).map eI)])})] [PureAt Try.prog (.convert 108 3 (.tmp 28)) [.int .u64 v2.2] (iV (IntKind.wrap .i64 v2.2)), (IntKind.wrap .i64 v2.2) = (IntKind.wrap .i64 v2.2), 0 ≤ (IntKind.wrap .i64 v2.2), (IntKind.wrap .i64 v2.2) ≤ 1099511627776, (SV.ov false [.sl (some 3) (List.replicate (Int.toNat (IntKind.wrap .i64 v2.2)) [rI 0])] : SV) = .ov false [.sl (some 3) ((List.replicate (Int.toNat (IntKind.wrap .i64 v2.2)) (0 : Int)).map eI)]] (by kernel_rfl) ⟨(pure_conv Try_und108 Try_und3), rfl, (guardO_some hu4).1, (guardO_some hu4).2, (congrArg (fun z => SV.ov false [.sl (some 3) z]) (rep_fix eI (0 : Int))), trivial⟩) ?_
   refine k_sreg (r_copy0 (t := 26) (e := 3) (rows := ((List.replicate (Int.toNat (IntKind.wrap .i64 v2.2)) (0 : Int)).map eI)) (rows2 := (a0.map eI)) (rows' := ((copyAt (List.replicate (Int.toNat (IntKind.wrap .i64 v2.2)) (0 : Int)) 0 a0).map eI)) (n := ((min a0.length (List.replicate (Int.toNat (IntKind.wrap .i64 v2.2)) (0 : Int)).length : Nat) : Int)) [(7, .ov false [.sl (some 3) ((copyAt (List.replicate (Int.toNat (IntKind.wrap .i64 v2.2)) (0 : Int)) 0 a0).map eI)]), (8, .p (iV ((min a0.length (List.replicate (Int.toNat (IntKind.wrap .i64 v2.2)) (0 : Int)).length : Nat) : Int)))] ⟨rfl, rfl, rfl⟩ ⟨rfl, rfl, rfl⟩ ⟨rfl, rfl, rfl⟩ ⟨rfl, rfl, rfl⟩ (by kernel_rfl) (by kernel_rfl) (by kernel_rfl) (by kernel_rfl) (by kernel_rfl) (by kernel_rfl) (raw_map fun _ => rfl) (raw_map1 fun _ => ⟨rfl, rfl⟩) (by simp) (copyAt_map eI (List.replicate (Int.toNat (IntKind.wrap .i64 v2.2)) (0 : Int)) a0 0)) ?_
   refine k_join (J := fun (x : (List Int)) => [(7, .ov false [.sl (some 3) (x.map eI)])]) (K := fun x => slices_Repeat_Lint_int_k3 x = some r) (fun x5 h => ?_) ?_
   ·unfold slices_Repeat_Lint_int_k3 at h
    refine k_sreg (r_go [(4, .ov false [.sl (some 3) (x5.map eI)])] [] [] (by kernel_rfl) trivial) ?_
    refine k_ret ?_
    obtain rfl := oi h
    exact e_ret (ls := [(.ov false [.sl (some 3) (x5.map eI)], 4)]) (by kernel_rfl) rfl (by kernel_rfl) rfl
   ·refine k_block ?_
    obtain ⟨y7, hl_x6, hk_x6⟩ := bs' h
    clear h
    refine k_loop (J := fun (x : ((List Int) × Int)) => [(7, .ov false [.sl (some 3) (x.1.map eI)]), (8, .p (iV x.2))]) hl_x6 (wk_of (by kernel_rfl) (by kernel_rfl)) (fun x6 o_x6 h hy_x6 => ?_)
    unfold slices_Repeat_Lint_int_b1 at h
    refine k_seq ?_
    refine k_sreg (r_go [(7, .ov false [.sl (some 3) (x6.1.map eI)]), (8, .p (iV x6.2)), (37, .p (.bool (decide (x6.2 < (x6.1.length : Int)))))] [(2, {n := some x6.1.length})] [(x6.1.map eI).length = x6.1.length] (by kernel_rfl) ⟨(List.length_map ..), trivial⟩) ?_
    refine k_cond (b := (decide (x6.2 < (x6.1.length : Int)))) (by kernel_rfl) (fun hc5_7 => ?_) (fun hc5_7 => ?_)
    ·replace h := ite_t hc5_7 h
     refine k_skip ?_
     refine q_n ?_
     refine k_block ?_
     replace h := bs' h
     obtain ⟨u9, hu9, h⟩ := h
     refine k_reg (r_copy1 (t := 26) (e := 3) (rows := (x6.1.map eI)) (rows' := ((copyAt x6.1 (Int.toNat x6.2) (x6.1.take (Int.toNat x6.2))).map eI)) (n := x6.2) (n' := (w64 (x6.2 + (min (Int.toNat x6.2) (x6.1.length - (Int.toNat x6.2)) : Nat)))) [(7, .ov false [.sl (some 3) ((copyAt x6.1 (Int.toNat x6.2) (x6.1.take (Int.toNat x6.2))).map eI)]), (8, .p (iV (w64 (x6.2 + (min (Int.toNat x6.2) (x6.1.length - (Int.toNat x6.2)) : Nat)))))] Try_mixed ⟨rfl, rfl⟩ ⟨rfl, rfl⟩ ⟨rfl, rfl⟩ ⟨rfl, rfl⟩ ⟨rfl, rfl⟩ ⟨rfl, rfl⟩ ⟨rfl, rfl⟩ ⟨rfl, rfl⟩ ⟨rfl, rfl⟩ ⟨rfl, rfl⟩ (by kernel_rfl) (by kernel_rfl) (by kernel_rfl) (by kernel_rfl) (by kernel_rfl) (by kernel_rfl) (raw_map fun _ => rfl) (guardO_some hu9).1 (by have hg := (guardO_some hu9).2; simpa using hg) (by simp) (by rw [← List.map_take]; exact copyAt_map eI x6.1 _ _)) ?_
     refine b_n ?_
     exact lq_n ((copyAt x6.1 (Int.toNat x6.2) (x6.1.take (Int.toNat x6.2))), (w64 (x6.2 + (min (Int.toNat x6.2) (x6.1.length - (Int.toNat x6.2)) : Nat)))) (oi h).symm (wk_of (by kernel_rfl) (by kernel_rfl))
    ·replace h := ite_f hc5_7 h
     refine k_exit ?_
     refine q_x ?_
     refine lq_x ?_
     refine b_x ?_
     have hyy := hy_x6 _ (oi h).symm
     subst hyy
     have h := hk_x6
     refine q_n ?_
     exact ⟨x6.1, h, (wk_of (by kernel_rfl) (by kernel_rfl))⟩
  ·refine k_sreg (l1 := [(0, .d false [.sl none (a0.map eI)]), (6, .p (.int .u64 v2.2)), (26, .p (.bool ((decide (v2.1 > 0)) || (decide (v2.2 > 9223372036854775807)))))]) ?_ ?_
   ·rcases ft (decide (v2.1 > 0)) with ha0 | ha0
    ·exact RegOk.of_eq (l2 := [(0, .d false [.sl none (a0.map eI)]), (6, .p (.int .u64 v2.2)), (26, .p (.bool ((decide (v2.1 > 0)) || (decide (v2.2 > 9223372036854775807)))))]) (r_go [(0, .d false [.sl none (a0.map eI)]), (6, .p (.int .u64 v2.2)), (26, .p (.bool true))] [(3, {g := some true}), (4, {g := some true}), (5, {b := some true})] [(decide (v2.1 > 0)) = true, (decide (v2.1 > 0)) = true, (decide (v2.1 > 0)) = true] (by kernel_rfl) ⟨ha0, ha0, ha0, trivial⟩) (by simp [ha0])
    ·exact RegOk.of_eq (l2 := [(0, .d false [.sl none (a0.map eI)]), (6, .p (.int .u64 v2.2)), (26, .p (.bool ((decide (v2.1 > 0)) || (decide (v2.2 > 9223372036854775807)))))]) (r_go [(0, .d false [.sl none (a0.map eI)]), (6, .p (.int .u64 v2.2)), (26, .p (.bool (decide (v2.2 > 9223372036854775807))))] [(3, {g := some false}), (4, {g := some false}), (5, {b := some false})] [(decide (v2.1 > 0)) = false, (decide (v2.1 > 0)) = false, (decide (v2.1 > 0)) = false] (by kernel_rfl) ⟨ha0, ha0, ha0, trivial⟩) (by simp [ha0])
   ·refine k_cond (b := ((decide (v2.1 > 0)) || (decide (v2.2 > 9223372036854775807)))) (by kernel_rfl) (fun hc2_9 => ?_) (fun hc2_9 => ?_)
    ·replace h := ite_t hc2_9 h
     cases h
    ·replace h := ite_f hc2_9 h
     refine k_skip ?_
     refine q_n ?_
     exact ⟨(), h, (wk_of (by kernel_rfl) (by kernel_rfl))⟩
 ·refine k_sreg (r_go [(0, .d false [.sl none (a0.map eI)]), (1, .p (iV a1)), (10, .p (.bool (decide (a1 < 0))))] [] [] (by kernel_rfl) trivial) ?_
  refine k_cond (b := (decide (a1 < 0))) (by kernel_rfl) (fun hc2_10 => ?_) (fun hc2_10 => ?_)
  ·replace h := ite_t hc2_10 h
   cases h
  ·replace h := ite_f hc2_10 h
   refine k_skip ?_
   refine q_n ?_
   exact ⟨(), h, (wk_of (by kernel_rfl) (by kernel_rfl))⟩
theorem wk_impl_times {a0 : (List (List Int))} {a1 : (List Int)}  {r : (List Int)} (h : impl_times a0 a1 = some r) : Meets Try.prog 110 [.d false [.sl none (a0.map (eF eI))], .d false [.sl none (a1.map eI)]] { vals := [.ov false [.sl (some 3) (r.map eI)]] } := by
 refine Meets_ofL (by kernel_rfl) Try.func110 rfl (by kernel_rfl) (l0 := [(0, .d false [.sl none (a0.map (eF eI))]), (1, .d false [.sl none (a1.map eI)])]) (by kernel_rfl) ?_
 unfold impl_times at h
 refine k_sreg (r_go [(0, .d false [.sl none (a0.map (eF eI))]), (1, .d false [.sl none (a1.map eI)])] [] [] (by kernel_rfl) trivial) ?_
 replace h := bs' h
 obtain ⟨u1, hu1, h⟩ := h
 refine k_sreg (r_go [(0, .d false [.sl none (a0.map (eF eI))]), (1, .d false [.sl none (a1.map eI)]), (5, .ov false [.sl (some 3) ((List.replicate (Int.toNat (a0.length : Int)) (0 : Int)).map eI)])] [(1, {n := some a0.length}), (2, {fix := some (12, .ov false [.sl (some 3) ((List.replicate (Int.toNat (a0.length : Int)) (0 : Int)).map eI)])})] [(a0.map (eF eI)).length = a0.length, (a0.length : Int) = (a0.length : Int), 0 ≤ (a0.length : Int), (a0.length : Int) ≤ 1099511627776, (SV.ov false [.sl (some 3) (List.replicate (Int.toNat (a0.length : Int)) [rI 0])] : SV) = .ov false [.sl (some 3) ((List.replicate (Int.toNat (a0.length : Int)) (0 : Int)).map eI)]] (by kernel_rfl) ⟨(List.length_map ..), rfl, (guardO_some hu1).1, (guardO_some hu1).2, (congrArg (fun z => SV.ov false [.sl (some 3) z]) (rep_fix eI (0 : Int))), trivial⟩) ?_
 refine k_join (J := fun (x : (List Int)) => [(5, .ov false [.sl (some 3) (x.map eI)])]) (K := fun x => impl_times_k1 x = some r) (fun x2 h => ?_) ?_
 ·unfold impl_times_k1 at h
  refine k_sreg (r_go [(4, .ov false [.sl (some 3) (x2.map eI)])] [] [] (by kernel_rfl) trivial) ?_
  refine k_ret ?_
  obtain rfl := oi h
  exact e_ret (ls := [(.ov false [.sl (some 3) (x2.map eI)], 4)]) (by kernel_rfl) rfl (by kernel_rfl) rfl
 ·refine k_sreg (r_go [(1, .d false [.sl none (a1.map eI)]), (5, .ov false [.sl (some 3) ((List.replicate (Int.toNat (a0.length : Int)) (0 : Int)).map eI)]), (13, .d false [.sl none (a0.map (eF eI))]), (14, .p (iV (a0.length : Int))), (15, .p (iV 0))] [(1, {n := some a0.length})] [(a0.map (eF eI)).length = a0.length] (by kernel_rfl) ⟨(List.length_map ..), trivial⟩) ?_
  refine k_block ?_
  obtain ⟨y4, hl_x3, hk_x3⟩ := bs' h
  clear h
  refine k_loop (J := fun (x : ((List Int) × Int)) => [(1, .d false [.sl none (a1.map eI)]), (5, .ov false [.sl (some 3) (x.1.map eI)]), (13, .d false [.sl none (a0.map (eF eI))]), (14, .p (iV (a0.length : Int))), (15, .p (iV x.2))]) hl_x3 (wk_of (by kernel_rfl) (by kernel_rfl)) (fun x3 o_x3 h hy_x3 => ?_)
  unfold impl_times_b1 at h
  refine k_sreg (r_go [(1, .d false [.sl none (a1.map eI)]), (5, .ov false [.sl (some 3) (x3.1.map eI)]), (13, .d false [.sl none (a0.map (eF eI))]), (14, .p (iV (a0.length : Int))), (15, .p (iV x3.2)), (16, .p (.bool (decide (x3.2 < (a0.length : Int)))))] [] [] (by kernel_rfl) trivial) ?_
  refine k_seq ?_
  refine k_cond (b := (decide (x3.2 < (a0.length : Int)))) (by kernel_rfl) (fun hc5_4 => ?_) (fun hc5_4 => ?_)
  ·replace h := ite_t hc5_4 h
   refine k_skip ?_
   refine q_n ?_
   refine k_join (J := fun (x : (List Int)) => [(1, .d false [.sl none (a1.map eI)]), (5, .ov false [.sl (some 3) (x.map eI)]), (13, .d false [.sl none (a0.map (eF eI))]), (14, .p (iV (a0.length : Int))), (15, .p (iV x3.2))]) (K := fun x => impl_times_k2 x3 x = some o_x3) (fun x6 h => ?_) ?_
   ·unfold impl_times_k2 at h
    refine k_reg (r_go [(1, .d false [.sl none (a1.map eI)]), (5, .ov false [.sl (some 3) (x6.map eI)]), (13, .d false [.sl none (a0.map (eF eI))]), (14, .p (iV (a0.length : Int))), (15, .p (iV (w64 (x3.2 + 1))))] [] [] (by kernel_rfl) trivial) ?_
    exact lq_n (x6, (w64 (x3.2 + 1))) (oi h).symm (wk_of (by kernel_rfl) (by kernel_rfl))
   ·refine k_block ?_
    replace h := bs' h
    obtain ⟨v7, hv7, h⟩ := h
    refine k_sreg (r_go [(1, .d false [.sl none (a1.map eI)]), (5, .ov false [.sl (some 3) (x3.1.map eI)]), (6, .p (iV x3.2)), (7, .d false [.sl none (v7.map eI)]), (13, .d false [.sl none (a0.map (eF eI))]), (14, .p (iV (a0.length : Int))), (15, .p (iV x3.2))] [(1, {row := some [.sl none (v7.map eI)]})] [0 ≤ x3.2, (a0.map (eF eI))[(Int.toNat x3.2)]? = some [.sl none (v7.map eI)]] (by kernel_rfl) ⟨(idxO_some hv7).1, (map_get (eF eI) (idxO_some hv7).2), trivial⟩) ?_
    refine k_sreg (r_go [(1, .d false [.sl none (a1.map eI)]), (5, .ov false [.sl (some 3) (x3.1.map eI)]), (6, .p (iV x3.2)), (13, .d false [.sl none (a0.map (eF eI))]), (14, .p (iV (a0.length : Int))), (15, .p (iV x3.2)), (20, .d false [.sl none (v7.map eI)]), (21, .p (iV (v7.length : Int))), (22, .p (iV 0))] [(1, {n := some v7.length})] [(v7.map eI).length = v7.length] (by kernel_rfl) ⟨(List.length_map ..), trivial⟩) ?_
    refine k_block ?_
    obtain ⟨y9, hl_x8, hk_x8⟩ := bs' h
    clear h
    refine k_loop (J := fun (x : ((List Int) × Int)) => [(1, .d false [.sl none (a1.map eI)]), (5, .ov false [.sl (some 3) (x.1.map eI)]), (6, .p (iV x3.2)), (13, .d false [.sl none (a0.map (eF eI))]), (14, .p (iV (a0.length : Int))), (15, .p (iV x3.2)), (20, .d false [.sl none (v7.map eI)]), (21, .p (iV (v7.length : Int))), (22, .p (iV x.2))]) hl_x8 (wk_of (by kernel_rfl) (by kernel_rfl)) (fun x8 o_x8 h hy_x8 => ?_)
    unfold impl_times_b2 at h
    refine k_sreg (r_go [(1, .d false [.sl none (a1.map eI)]), (5, .ov false [.sl (some 3) (x8.1.map eI)]), (6, .p (iV x3.2)), (13, .d false [.sl none (a0.map (eF eI))]), (14, .p (iV (a0.length : Int))), (15, .p (iV x3.2)), (20, .d false [.sl none (v7.map eI)]), (21, .p (iV (v7.length : Int))), (22, .p (iV x8.2)), (23, .p (.bool (decide (x8.2 < (v7.length : Int)))))] [] [] (by kernel_rfl) trivial) ?_
    refine k_seq ?_
    refine k_cond (b := (decide (x8.2 < (v7.length : Int)))) (by kernel_rfl) (fun hc9_9 => ?_) (fun hc9_9 => ?_)
    ·replace h := ite_t hc9_9 h
     refine k_skip ?_
     refine q_n ?_
     refine k_seq ?_
     refine k_block ?_
     replace h := bs' h
     obtain ⟨v11, hv11, h⟩ := h
     refine k_sreg (r_go [(1, .d false [.sl none (a1.map eI)]), (5, .ov false [.sl (some 3) (x8.1.map eI)]), (6, .p (iV x3.2)), (8, .p (iV x8.2)), (9, .p (iV v11)), (13, .d false [.sl none (a0.map (eF eI))]), (14, .p (iV (a0.length : Int))), (15, .p (iV x3.2)), (20, .d false [.sl none (v7.map eI)]), (21, .p (iV (v7.length : Int))), (22, .p (iV x8.2))] [(1, {row := some (eI v11)})] [0 ≤ x8.2, (v7.map eI)[(Int.toNat x8.2)]? = some (eI v11)] (by kernel_rfl) ⟨(idxO_some hv11).1, (map_get eI (idxO_some hv11).2), trivial⟩) ?_
     replace h := bs' h
     obtain ⟨v12, hv12, h⟩ := h
     replace h := bs' h
     obtain ⟨v13, hv13, h⟩ := h
     refine k_reg (r_draw Try_mixed 10 [] [(1, .d false [.sl none (a1.map eI)]), (5, .ov false [.sl (some 3) ((x8.1.set (Int.toNat x3.2) (w64 (v12 + (w64 (v11 * v13))))).map eI)]), (6, .p (iV x3.2)), (13, .d false [.sl none (a0.map (eF eI))]), (14, .p (iV (a0.length : Int))), (15, .p (iV x3.2)), (20, .d false [.sl none (v7.map eI)]), (21, .p (iV (v7.length : Int))), (22, .p (iV x8.2))] [(2, {row := some (eI v12)}), (3, {row := some (eI v12)}), (7, {row := some (eI v13)}), (11, {row := some (eI v12)}), (12, {row := some (eI v12), fix := some (5, .ov false [.sl (some 3) ((x8.1.set (Int.toNat x3.2) (w64 (v12 + (w64 (v11 * v13))))).map eI)])})] [0 ≤ x3.2, (x8.1.map eI)[(Int.toNat x3.2)]? = some (eI v12), getRow [[.sl (some 3) (x8.1.map eI)]] [(0, 0), ((Int.toNat x3.2), 0)] = some (eI v12), 0 ≤ x8.2, (a1.map eI)[(Int.toNat x8.2)]? = some (eI v13), 0 ≤ x3.2, (x8.1.map eI)[(Int.toNat x3.2)]? = some (eI v12), getRow [[.sl (some 3) (x8.1.map eI)]] [(0, 0), ((Int.toNat x3.2), 0)] = some (eI v12), (SV.ov false [.sl (some 3) (setL (x8.1.map eI) [((Int.toNat x3.2), 0)] [rI (w64 (v12 + (w64 (v11 * v13))))])] : SV) = .ov false [.sl (some 3) ((x8.1.set (Int.toNat x3.2) (w64 (v12 + (w64 (v11 * v13))))).map eI)]] (by kernel_rfl) ⟨(idxO_some hv12).1, (map_get eI (idxO_some hv12).2), ((gr0 rfl).trans (gre (map_get eI (idxO_some hv12).2))), (idxO_some hv13).1, (map_get eI (idxO_some hv13).2), (idxO_some hv12).1, (map_get eI (idxO_some hv12).2), ((gr0 rfl).trans (gre (map_get eI (idxO_some hv12).2))), (congrArg (fun z => SV.ov false [.sl (some 3) z]) (set1 (f := eI) (y := (w64 (v12 + (w64 (v11 * v13))))) (idxO_some hv12).2 rfl)), trivial⟩) ?_
     refine b_n ?_
     refine q_n ?_
     refine k_reg (r_go [(1, .d false [.sl none (a1.map eI)]), (5, .ov false [.sl (some 3) ((x8.1.set (Int.toNat x3.2) (w64 (v12 + (w64 (v11 * v13))))).map eI)]), (6, .p (iV x3.2)), (13, .d false [.sl none (a0.map (eF eI))]), (14, .p (iV (a0.length : Int))), (15, .p (iV x3.2)), (20, .d false [.sl none (v7.map eI)]), (21, .p (iV (v7.length : Int))), (22, .p (iV (w64 (x8.2 + 1))))] [] [] (by kernel_rfl) trivial) ?_
     exact lq_n ((x8.1.set (Int.toNat x3.2) (w64 (v12 + (w64 (v11 * v13))))), (w64 (x8.2 + 1))) (oi h).symm (wk_of (by kernel_rfl) (by kernel_rfl))
    ·replace h := ite_f hc9_9 h
     refine k_exit ?_
     refine q_x ?_
     refine lq_x ?_
     refine b_x ?_
     refine b_n ?_
     have hyy := hy_x8 _ (oi h).symm
     subst hyy
     have h := hk_x8
     refine q_n ?_
     exact ⟨x8.1, h, (wk_of (by kernel_rfl) (by kernel_rfl))⟩
  ·replace h := ite_f hc5_4 h
   refine k_exit ?_
   refine q_x ?_
   refine lq_x ?_
   refine b_x ?_
   have hyy := hy_x3 _ (oi h).symm
   subst hyy
   have h := hk_x3
   refine q_n ?_
   exact ⟨x3.1, h, (wk_of (by kernel_rfl) (by kernel_rfl))⟩
theorem wk_impl_isVector_1 {a0 : Int}  {r : Bool} (h : impl_isVector_1 a0 = some r) : Meets Try.prog 148 [wI a0] { vals := [.p (.bool r)] } := by
 refine Meets_ofL (by kernel_rfl) Try.func148 rfl (by kernel_rfl) (l0 := [(0, .p (iV a0))]) (by kernel_rfl) ?_
 unfold impl_isVector_1 at h
 refine k_sreg (r_go [(0, .p (iV a0))] [] [] (by kernel_rfl) trivial) ?_
 replace h := bs' h
 obtain ⟨v1, hv1, h⟩ := h
 refine k_sreg (r_go [(2, .p (.bool (!v1)))] [(1, {call := some ([wI a0, wI 1, wI 1000000], [.p (.bool v1)], true)})] [([wI a0, wI 1, wI 1000000] : List Arg) = [wI a0, wI 1, wI 1000000], Meets Try.prog 74 ([wI a0, wI 1, wI 1000000] ++ []) { vals := [.p (.bool v1)] }, (!true || List.all [.p (.bool v1)] simpleR) = true] (by kernel_rfl) ⟨rfl, (wk_impl_within hv1), (bt rfl), trivial⟩) ?_
 refine k_ret ?_
 obtain rfl := oi h
 exact e_ret (ls := [(.p (.bool (!v1)), 2)]) (by kernel_rfl) rfl (by kernel_rfl) rfl
theorem wk_impl_isVector {a0 : (List Int)}  {r : Bool} (h : impl_isVector a0 = some r) : Meets Try.prog 112 [.d false [.sl none (a0.map eI)]] { vals := [.p (.bool r)] } := by
 refine Meets_ofL (by kernel_rfl) Try.func112 rfl (by kernel_rfl) (l0 := [(0, .d false [.sl none (a0.map eI)])]) (by kernel_rfl) ?_
 unfold impl_isVector at h
 refine k_sreg (r_go [(0, .d false [.sl none (a0.map eI)])] [] [] (by kernel_rfl) trivial) ?_
 replace h := bs' h
 obtain ⟨v1, hv1, h⟩ := h
 replace h := bs' h
 obtain ⟨w3, hw3, h⟩ := h
 refine k_sreg (l1 := [(2, .p (.bool w3))]) ?_ ?_
 ·clear h
  rcases ft v1 with ha0 | ha0
  ·replace hw3 := ite_t ha0 hw3
   replace hw3 := bs' hw3
   obtain ⟨v2, hv2, hw3⟩ := hw3
   have hw3 := oi hw3
   subst hw3
   exact (r_go [(2, .p (.bool (!v2)))] [(1, {n := some a0.length}), (2, {call := some ([wI (a0.length : Int), wI 1, wI 8], [.p (.bool v1)], true)}), (4, {g := some true}), (5, {g := some true, call := some ([.d false [.sl none (a0.map eI)], .v (.func (.func 148) #[] #[])], [.p (.bool v2)], true)}), (6, {g := some true}), (7, {b := some true})] [(a0.map eI).length = a0.length, ([wI (a0.length : Int), wI 1, wI 8] : List Arg) = [wI (a0.length : Int), wI 1, wI 8], Meets Try.prog 74 ([wI (a0.length : Int), wI 1, wI 8] ++ []) { vals := [.p (.bool v1)] }, (!true || List.all [.p (.bool v1)] simpleR) = true, v1 = true, v1 = true, ([.d false [.sl none (a0.map eI)], .v (.func (.func 148) #[] #[])] : List Arg) = [.d false [.sl none (a0.map eI)], .v (.func (.func 148) #[] #[])], Meets Try.prog 85 ([.d false [.sl none (a0.map eI)], .v (.func (.func 148) #[] #[])] ++ []) { vals := [.p (.bool v2)] }, (!true || List.all [.p (.bool v2)] simpleR) = true, v1 = true, v1 = true] (by kernel_rfl) ⟨(List.length_map ..), rfl, (wk_impl_within hv1), (bt rfl), ha0, ha0, rfl, (wk_slices_ContainsFunc_Lint_int_v (fun x0 y hy => wk_impl_isVector_1 hy) hv2), (bt rfl), ha0, ha0, trivial⟩)
  ·replace hw3 := ite_f ha0 hw3
   have hw3 := oi hw3
   subst hw3
   exact (r_go [(2, .p (.bool false))] [(1, {n := some a0.length}), (2, {call := some ([wI (a0.length : Int), wI 1, wI 8], [.p (.bool v1)], true)}), (4, {g := some false}), (5, {g := some false}), (6, {g := some false}), (7, {b := some false})] [(a0.map eI).length = a0.length, ([wI (a0.length : Int), wI 1, wI 8] : List Arg) = [wI (a0.length : Int), wI 1, wI 8], Meets Try.prog 74 ([wI (a0.length : Int), wI 1, wI 8] ++ []) { vals := [.p (.bool v1)] }, (!true || List.all [.p (.bool v1)] simpleR) = true, v1 = false, v1 = false, v1 = false, v1 = false] (by kernel_rfl) ⟨(List.length_map ..), rfl, (wk_impl_within hv1), (bt rfl), ha0, ha0, ha0, ha0, trivial⟩)
 ·refine k_ret ?_
  obtain rfl := oi h
  exact e_ret (ls := [(.p (.bool w3), 2)]) (by kernel_rfl) rfl (by kernel_rfl) rfl
theorem wk_impl_walkVectors {a0 : (List (List Int))} {a1 : Int}  {r : (List (List Int))} (h : impl_walkVectors a0 a1 = some r) : Meets Try.prog 93 [.d false [.sl none (a0.map (eF eI))], wI a1] { vals := [.ov false [.sl (some 26) (r.map (eF eI))]] } := by
 refine Meets_ofL (by kernel_rfl) Try.func93 rfl (by kernel_rfl) (l0 := [(0, .d false [.sl none (a0.map (eF eI))]), (1, .p (iV a1))]) (by kernel_rfl) ?_
 unfold impl_walkVectors at h
 refine k_sreg (r_go [(0, .d false [.sl none (a0.map (eF eI))]), (1, .p (iV a1))] [] [] (by kernel_rfl) trivial) ?_
 replace h := bs' h
 obtain ⟨v1, hv1, h⟩ := h
 refine k_sreg (r_go [(0, .d false [.sl none (a0.map (eF eI))]), (1, .p (iV a1)), (5, .ov false [.sl (some 3) (v1.map eI)])] [(2, {n := some a0.length}), (3, {call := some ([.d false [.sl none (([1]).map eI)], wI (a0.length : Int)], [.ov false [.sl (some 3) (v1.map eI)]], true)})] [(a0.map (eF eI)).length = a0.length, ([.d false [.sl none (eraL (([1]).map eI))], wI (a0.length : Int)] : List Arg) = [.d false [.sl none (([1]).map eI)], wI (a0.length : Int)], Meets Try.prog 114 ([.d false [.sl none (([1]).map eI)], wI (a0.length : Int)] ++ []) { vals := [.ov false [.sl (some 3) (v1.map eI)]] }, (!true || List.all [.ov false [.sl (some 3) (v1.map eI)]] simpleR) = true] (by kernel_rfl) ⟨(List.length_map ..), (by simp only [eraL_enc (h := eI) er_I]), (wk_slices_Repeat_Lint_int hv1), (bt (sa_o (wnR1 (wnL_enc wn_I) rfl) rfl)), trivial⟩) ?_
 refine k_sreg (r_go [(0, .d false [.sl none (a0.map (eF eI))]), (1, .p (iV a1)), (5, .d false [.sl none (v1.map eI)]), (6, .ov false [.sl (some 26) (([v1]).map (eF eI))])] [(0, {pre := some (5, .d false [.sl none (v1.map eI)])})] [(SV.d false (eraR [.sl (some 3) (v1.map eI)]) : SV) = .d false [.sl none (v1.map eI)]] (by kernel_rfl) ⟨(congrArg (fun z => SV.d false z) (erc_sl (eraL_enc er_I) rfl)), trivial⟩) ?_
 refine k_join (J := fun (x : (List (List Int))) => [(6, .ov false [.sl (some 26) (x.map (eF eI))])]) (K := fun x => impl_walkVectors_k1 x = some r) (fun x2 h => ?_) ?_
 ·unfold impl_walkVectors_k1 at h
  refine k_sreg (r_go [(4, .ov false [.sl (some 26) (x2.map (eF eI))])] [] [] (by kernel_rfl) trivial) ?_
  refine k_ret ?_
  obtain rfl := oi h
  exact e_ret (ls := [(.ov false [.sl (some 26) (x2.map (eF eI))], 4)]) (by kernel_rfl) rfl (by kernel_rfl) rfl
 ·refine k_sreg (r_go [(0, .d false [.sl none (a0.map (eF eI))]), (5, .d false [.sl none (v1.map eI)]), (6, .ov false [.sl (some 26) (([v1]).map (eF eI))]), (15, .p (iV a1)), (16, .p (iV 0))] [] [] (by kernel_rfl) trivial) ?_
  refine k_block ?_
  obtain ⟨y4, hl_x3, hk_x3⟩ := bs' h
  clear h
  refine k_loop (J := fun (x : ((List Int) × (List (List Int)) × Int)) => [(0, .d false [.sl none (a0.map (eF eI))]), (5, .d false [.sl none (x.1.map eI)]), (6, .ov false [.sl (some 26) (x.2.1.map (eF eI))]), (15, .p (iV a1)), (16, .p (iV x.2.2))]) hl_x3 (wk_of (by kernel_rfl) (by kernel_rfl)) (fun x3 o_x3 h hy_x3 => ?_)
  unfold impl_walkVectors_b1 at h
  refine k_sreg (r_go [(0, .d false [.sl none (a0.map (eF eI))]), (5, .d false [.sl none (x3.1.map eI)]), (6, .ov false [.sl (some 26) (x3.2.1.map (eF eI))]), (15, .p (iV a1)), (16, .p (iV x3.2.2)), (17, .p (.bool (decide (x3.2.2 < a1))))] [] [] (by kernel_rfl) trivial) ?_
  refine k_seq ?_
  refine k_cond (b := (decide (x3.2.2 < a1))) (by kernel_rfl) (fun hc5_4 => ?_) (fun hc5_4 => ?_)
  ·replace h := ite_t hc5_4 h
   refine k_skip ?_
   refine q_n ?_
   refine k_join (J := fun (x : ((List Int) × (List (List Int)))) => [(0, .d false [.sl none (a0.map (eF eI))]), (5, .d false [.sl none (x.1.map eI)]), (6, .ov false [.sl (some 26) (x.2.map (eF eI))]), (15, .p (iV a1)), (16, .p (iV x3.2.2))]) (K := fun x => impl_walkVectors_k2 x3 x = some o_x3) (fun x6 h => ?_) ?_
   ·unfold impl_walkVectors_k2 at h
    refine k_reg (r_go [(0, .d false [.sl none (a0.map (eF eI))]), (5, .d false [.sl none (x6.1.map eI)]), (6, .ov false [.sl (some 26) (x6.2.map (eF eI))]), (15, .p (iV a1)), (16, .p (iV (w64 (x3.2.2 + 1))))] [] [] (by kernel_rfl) trivial) ?_
    exact lq_n (x6.1, x6.2, (w64 (x3.2.2 + 1))) (oi h).symm (wk_of (by kernel_rfl) (by kernel_rfl))
   ·refine k_block ?_
    replace h := bs' h
    obtain ⟨v7, hv7, h⟩ := h
    refine k_sreg (r_go [(0, .d false [.sl none (a0.map (eF eI))]), (5, .d false [.sl none (x3.1.map eI)]), (6, .ov false [.sl (some 26) (x3.2.1.map (eF eI))]), (7, .ov false [.sl (some 3) (v7.map eI)]), (15, .p (iV a1)), (16, .p (iV x3.2.2))] [(2, {call := some ([.d false [.sl none (a0.map (eF eI))], .d false [.sl none (x3.1.map eI)]], [.ov false [.sl (some 3) (v7.map eI)]], true)})] [([.d false [.sl none (a0.map (eF eI))], .d false [.sl none (x3.1.map eI)]] : List Arg) = [.d false [.sl none (a0.map (eF eI))], .d false [.sl none (x3.1.map eI)]], Meets Try.prog 110 ([.d false [.sl none (a0.map (eF eI))], .d false [.sl none (x3.1.map eI)]] ++ []) { vals := [.ov false [.sl (some 3) (v7.map eI)]] }, (!true || List.all [.ov false [.sl (some 3) (v7.map eI)]] simpleR) = true] (by kernel_rfl) ⟨rfl, (wk_impl_times hv7), (bt (sa_o (wnR1 (wnL_enc wn_I) rfl) rfl)), trivial⟩) ?_
    refine k_join (J := fun (x : (List Int)) => [(0, .d false [.sl none (a0.map (eF eI))]), (6, .ov false [.sl (some 26) (x3.2.1.map (eF eI))]), (7, .ov false [.sl (some 3) (x.map eI)]), (15, .p (iV a1)), (16, .p (iV x3.2.2))]) (K := fun x => impl_walkVectors_k3 x3 x = some o_x3) (fun x8 h => ?_) ?_
    ·unfold impl_walkVectors_k3 at h
     refine k_seq ?_
     replace h := bs' h
     obtain ⟨v9, hv9, h⟩ := h
     refine k_sreg (r_go [(0, .d false [.sl none (a0.map (eF eI))]), (6, .ov false [.sl (some 26) (x3.2.1.map (eF eI))]), (7, .ov false [.sl (some 3) (x8.map eI)]), (15, .p (iV a1)), (16, .p (iV x3.2.2)), (39, .p (.bool (!v9)))] [(1, {call := some ([.d false [.sl none (x8.map eI)]], [.p (.bool v9)], true)})] [([.d false [.sl none (eraL (x8.map eI))]] : List Arg) = [.d false [.sl none (x8.map eI)]], Meets Try.prog 112 ([.d false [.sl none (x8.map eI)]] ++ []) { vals := [.p (.bool v9)] }, (!true || List.all [.p (.bool v9)] simpleR) = true] (by kernel_rfl) ⟨(by simp only [eraL_enc (h := eI) er_I]), (wk_impl_isVector hv9), (bt rfl), trivial⟩) ?_
     refine k_cond (b := (!v9)) (by kernel_rfl) (fun hc7_9 => ?_) (fun hc7_9 => ?_)
     ·replace h := ite_t hc7_9 h
      refine k_exit ?_
      refine q_x ?_
      refine b_y rfl ?_
      refine q_x ?_
      refine lq_x ?_
      refine b_x ?_
      have hyy := hy_x3 _ (oi h).symm
      subst hyy
      have h := hk_x3
      refine q_n ?_
      exact ⟨x3.2.1, h, (wk_of (by kernel_rfl) (by kernel_rfl))⟩
     ·replace h := ite_f hc7_9 h
      refine k_skip ?_
      refine q_n ?_
      replace h := bs' h
      obtain ⟨u11, hu11, h⟩ := h
      refine k_sreg (r_go [(0, .d false [.sl none (a0.map (eF eI))]), (6, .ov false [.sl (some 26) ((x3.2.1 ++ [x8]).map (eF eI))]), (7, .d false [.sl none (x8.map eI)]), (15, .p (iV a1)), (16, .p (iV x3.2.2))] [(1, {pre := some (7, .d false [.sl none (x8.map eI)])}), (3, {fix := some (43, .ov false [.sl (some 26) ((x3.2.1 ++ [x8]).map (eF eI))])})] [(SV.d false (eraR [.sl (some 3) (x8.map eI)]) : SV) = .d false [.sl none (x8.map eI)], List.length ((x3.2.1.map (eF eI)) : List (List C)) + List.length ((([x8]).map (eF eI)) : List (List C)) ≤ 1099511627776, ∀ row ∈ ((([x8]).map (eF eI)) : List (List C)), row.length = 1, (SV.ov false [.sl (some 26) ((x3.2.1.map (eF eI)) ++ (([x8]).map (eF eI)))] : SV) = .ov false [.sl (some 26) ((x3.2.1 ++ [x8]).map (eF eI))]] (by kernel_rfl) ⟨(congrArg (fun z => SV.d false z) (erc_sl (eraL_enc er_I) rfl)), (by have hg := (guardO_some hu11); simpa using hg), (rows_len fun _ => rfl), (congrArg (fun z => SV.ov false [.sl (some 26) z]) (List.map_append ..).symm), trivial⟩) ?_
      refine k_reg (r_go [(0, .d false [.sl none (a0.map (eF eI))]), (5, .d false [.sl none (x8.map eI)]), (6, .ov false [.sl (some 26) ((x3.2.1 ++ [x8]).map (eF eI))]), (15, .p (iV a1)), (16, .p (iV x3.2.2))] [] [] (by kernel_rfl) trivial) ?_
      refine b_n ?_
      refine q_n ?_
      exact ⟨(x8, (x3.2.1 ++ [x8])), h, (wk_of (by kernel_rfl) (by kernel_rfl))⟩
    ·refine k_sreg (r_go [(0, .d false [.sl none (a0.map (eF eI))]), (5, .d false [.sl none (x3.1.map eI)]), (6, .ov false [.sl (some 26) (x3.2.1.map (eF eI))]), (7, .ov false [.sl (some 3) (v7.map eI)]), (15, .p (iV a1)), (16, .p (iV x3.2.2)), (22, .p (iV (v7.length : Int))), (23, .p (iV 0))] [(1, {n := some v7.length})] [(v7.map eI).length = v7.length] (by kernel_rfl) ⟨(List.length_map ..), trivial⟩) ?_
     refine k_block ?_
     obtain ⟨y13, hl_x12, hk_x12⟩ := bs' h
     clear h
     refine k_loop (J := fun (x : ((List Int) × Int)) => [(0, .d false [.sl none (a0.map (eF eI))]), (5, .d false [.sl none (x3.1.map eI)]), (6, .ov false [.sl (some 26) (x3.2.1.map (eF eI))]), (7, .ov false [.sl (some 3) (x.1.map eI)]), (15, .p (iV a1)), (16, .p (iV x3.2.2)), (22, .p (iV (v7.length : Int))), (23, .p (iV x.2))]) hl_x12 (wk_of (by kernel_rfl) (by kernel_rfl)) (fun x12 o_x12 h hy_x12 => ?_)
     unfold impl_walkVectors_b2 at h
     refine k_sreg (r_go [(0, .d false [.sl none (a0.map (eF eI))]), (5, .d false [.sl none (x3.1.map eI)]), (6, .ov false [.sl (some 26) (x3.2.1.map (eF eI))]), (7, .ov false [.sl (some 3) (x12.1.map eI)]), (15, .p (iV a1)), (16, .p (iV x3.2.2)), (22, .p (iV (v7.length : Int))), (23, .p (iV x12.2)), (24, .p (.bool (decide (x12.2 < (v7.length : Int)))))] [] [] (by kernel_rfl) trivial) ?_
     refine k_seq ?_
     refine k_cond (b := (decide (x12.2 < (v7.length : Int)))) (by kernel_rfl) (fun hc10_13 => ?_) (fun hc10_13 => ?_)
     ·replace h := ite_t hc10_13 h
      refine k_skip ?_
      refine q_n ?_
      refine k_seq ?_
      refine k_block ?_
      refine k_sreg (r_go [(0, .d false [.sl none (a0.map (eF eI))]), (5, .d false [.sl none (x3.1.map eI)]), (6, .ov false [.sl (some 26) (x3.2.1.map (eF eI))]), (7, .ov false [.sl (some 3) (x12.1.map eI)]), (8, .p (iV x12.2)), (15, .p (iV a1)), (16, .p (iV x3.2.2)), (22, .p (iV (v7.length : Int))), (23, .p (iV x12.2))] [] [] (by kernel_rfl) trivial) ?_
      replace h := bs' h
      obtain ⟨v15, hv15, h⟩ := h
      replace h := bs' h
      obtain ⟨v16, hv16, h⟩ := h
      refine k_reg (r_draw Try_mixed 8 [] [(0, .d false [.sl none (a0.map (eF eI))]), (5, .d false [.sl none (x3.1.map eI)]), (6, .ov false [.sl (some 26) (x3.2.1.map (eF eI))]), (7, .ov false [.sl (some 3) ((x12.1.set (Int.toNat x12.2) (w64 (v15 + v16))).map eI)]), (15, .p (iV a1)), (16, .p (iV x3.2.2)), (22, .p (iV (v7.length : Int))), (23, .p (iV x12.2))] [(2, {row := some (eI v15)}), (3, {row := some (eI v15)}), (6, {row := some (eI v16)}), (9, {row := some (eI v15)}), (10, {row := some (eI v15), fix := some (7, .ov false [.sl (some 3) ((x12.1.set (Int.toNat x12.2) (w64 (v15 + v16))).map eI)])})] [0 ≤ x12.2, (x12.1.map eI)[(Int.toNat x12.2)]? = some (eI v15), getRow [[.sl (some 3) (x12.1.map eI)]] [(0, 0), ((Int.toNat x12.2), 0)] = some (eI v15), 0 ≤ x12.2, (x3.1.map eI)[(Int.toNat x12.2)]? = some (eI v16), 0 ≤ x12.2, (x12.1.map eI)[(Int.toNat x12.2)]? = some (eI v15), getRow [[.sl (some 3) (x12.1.map eI)]] [(0, 0), ((Int.toNat x12.2), 0)] = some (eI v15), (SV.ov false [.sl (some 3) (setL (x12.1.map eI) [((Int.toNat x12.2), 0)] [rI (w64 (v15 + v16))])] : SV) = .ov false [.sl (some 3) ((x12.1.set (Int.toNat x12.2) (w64 (v15 + v16))).map eI)]] (by kernel_rfl) ⟨(idxO_some hv15).1, (map_get eI (idxO_some hv15).2), ((gr0 rfl).trans (gre (map_get eI (idxO_some hv15).2))), (idxO_some hv16).1, (map_get eI (idxO_some hv16).2), (idxO_some hv15).1, (map_get eI (idxO_some hv15).2), ((gr0 rfl).trans (gre (map_get eI (idxO_some hv15).2))), (congrArg (fun z => SV.ov false [.sl (some 3) z]) (set1 (f := eI) (y := (w64 (v15 + v16))) (idxO_some hv15).2 rfl)), trivial⟩) ?_
      refine b_n ?_
      refine q_n ?_
      refine k_reg (r_go [(0, .d false [.sl none (a0.map (eF eI))]), (5, .d false [.sl none (x3.1.map eI)]), (6, .ov false [.sl (some 26) (x3.2.1.map (eF eI))]), (7, .ov false [.sl (some 3) ((x12.1.set (Int.toNat x12.2) (w64 (v15 + v16))).map eI)]), (15, .p (iV a1)), (16, .p (iV x3.2.2)), (22, .p (iV (v7.length : Int))), (23, .p (iV (w64 (x12.2 + 1))))] [] [] (by kernel_rfl) trivial) ?_
      exact lq_n ((x12.1.set (Int.toNat x12.2) (w64 (v15 + v16))), (w64 (x12.2 + 1))) (oi h).symm (wk_of (by kernel_rfl) (by kernel_rfl))
     ·replace h := ite_f hc10_13 h
      refine k_exit ?_
      refine q_x ?_
      refine lq_x ?_
      refine b_x ?_
      have hyy := hy_x12 _ (oi h).symm
      subst hyy
      have h := hk_x12
      refine q_n ?_
      exact ⟨x12.1, h, (wk_of (by kernel_rfl) (by kernel_rfl))⟩
  ·replace h := ite_f hc5_4 h
   refine k_exit ?_
   refine q_x ?_
   refine lq_x ?_
   refine b_x ?_
   have hyy := hy_x3 _ (oi h).symm
   subst hyy
   have h := hk_x3
   refine q_n ?_
   exact ⟨x3.2.1, h, (wk_of (by kernel_rfl) (by kernel_rfl))⟩
theorem wk_impl_WalkVector {a0 : (List (List Int))} {a1 : Int}  {r : ((List Int) × Bool)} (h : impl_WalkVector a0 a1 = some r) : Meets Try.prog 30 [.d false [.sl none (a0.map (eF eI))], wI a1] { vals := [.d false [.sl none (r.1.map eI)], .p (.bool r.2)] } := by
 refine Meets_ofL (by kernel_rfl) Try.func30 rfl (by kernel_rfl) (l0 := [(0, .d false [.sl none (a0.map (eF eI))]), (1, .p (iV a1))]) (by kernel_rfl) ?_
 unfold impl_WalkVector at h
 refine k_sreg (r_go [(0, .d false [.sl none (a0.map (eF eI))]), (1, .p (iV a1))] [(1, {pre := some (4, .d false [.sl none []])})] [(SV.d false (eraR [.sl (some 3) []]) : SV) = .d false [.sl none []]] (by kernel_rfl) ⟨(congrArg (fun z => SV.d false z) (erc_sl rfl rfl)), trivial⟩) ?_
 refine k_seq ?_
 replace h := bs' h
 obtain ⟨v1, hv1, h⟩ := h
 replace h := bs' h
 obtain ⟨w3, hw3, h⟩ := h
 refine k_sreg (l1 := [(0, .d false [.sl none (a0.map (eF eI))]), (1, .p (iV a1)), (14, .p (.bool w3))]) ?_ ?_
 ·clear h
  rcases ft (!v1) with ha0 | ha0
  ·replace hw3 := ite_t ha0 hw3
   have hw3 := oi hw3
   subst hw3
   exact (r_go [(0, .d false [.sl none (a0.map (eF eI))]), (1, .p (iV a1)), (14, .p (.bool true))] [(1, {call := some ([.d false [.sl none (a0.map (eF eI))]], [.p (.bool v1)], true)}), (4, {g := some true}), (5, {g := some true}), (6, {g := some true}), (7, {b := some true})] [([.d false [.sl none (a0.map (eF eI))]] : List Arg) = [.d false [.sl none (a0.map (eF eI))]], Meets Try.prog 62 ([.d false [.sl none (a0.map (eF eI))]] ++ []) { vals := [.p (.bool v1)] }, (!true || List.all [.p (.bool v1)] simpleR) = true, (!v1) = true, (!v1) = true, (!v1) = true, (!v1) = true] (by kernel_rfl) ⟨rfl, (wk_impl_isGraph hv1), (bt rfl), ha0, ha0, ha0, ha0, trivial⟩)
  ·replace hw3 := ite_f ha0 hw3
   replace hw3 := bs' hw3
   obtain ⟨v2, hv2, hw3⟩ := hw3
   have hw3 := oi hw3
   subst hw3
   exact (r_go [(0, .d false [.sl none (a0.map (eF eI))]), (1, .p (iV a1)), (14, .p (.bool (!v2)))] [(1, {call := some ([.d false [.sl none (a0.map (eF eI))]], [.p (.bool v1)], true)}), (4, {g := some false}), (5, {g := some false, call := some ([wI a1, wI 0, wI 20], [.p (.bool v2)], true)}), (6, {g := some false}), (7, {b := some false})] [([.d false [.sl none (a0.map (eF eI))]] : List Arg) = [.d false [.sl none (a0.map (eF eI))]], Meets Try.prog 62 ([.d false [.sl none (a0.map (eF eI))]] ++ []) { vals := [.p (.bool v1)] }, (!true || List.all [.p (.bool v1)] simpleR) = true, (!v1) = false, (!v1) = false, ([wI a1, wI 0, wI 20] : List Arg) = [wI a1, wI 0, wI 20], Meets Try.prog 74 ([wI a1, wI 0, wI 20] ++ []) { vals := [.p (.bool v2)] }, (!true || List.all [.p (.bool v2)] simpleR) = true, (!v1) = false, (!v1) = false] (by kernel_rfl) ⟨rfl, (wk_impl_isGraph hv1), (bt rfl), ha0, ha0, rfl, (wk_impl_within hv2), (bt rfl), ha0, ha0, trivial⟩)
 ·refine k_cond (b := w3) (by kernel_rfl) (fun hc2_3 => ?_) (fun hc2_3 => ?_)
  ·replace h := ite_t hc2_3 h
   refine k_sreg (r_go [(4, .d false [.sl none []]), (5, .p (.bool false))] [(1, {pre := some (4, .d false [.sl none []])})] [(SV.d false (eraR [.sl (some 3) []]) : SV) = .d false [.sl none []]] (by kernel_rfl) ⟨(congrArg (fun z => SV.d false z) (erc_sl rfl rfl)), trivial⟩) ?_
   refine k_ret ?_
   refine q_r ?_
   obtain rfl := oi h
   exact e_ret (ls := [(.d false [.sl none []], 4), (.p (.bool false), 5)]) (by kernel_rfl) rfl (by kernel_rfl) rfl
  ·replace h := ite_f hc2_3 h
   refine k_skip ?_
   refine q_n ?_
   replace h := bs' h
   obtain ⟨v5, hv5, h⟩ := h
   refine k_sreg (r_go [(1, .p (iV a1)), (6, .ov false [.sl (some 26) (v5.map (eF eI))])] [(2, {call := some ([.d false [.sl none (a0.map (eF eI))], wI a1], [.ov false [.sl (some 26) (v5.map (eF eI))]], false)})] [([.d false [.sl none (a0.map (eF eI))], wI a1] : List Arg) = [.d false [.sl none (a0.map (eF eI))], wI a1], Meets Try.prog 93 ([.d false [.sl none (a0.map (eF eI))], wI a1] ++ []) { vals := [.ov false [.sl (some 26) (v5.map (eF eI))]] }, (!false || List.all [.ov false [.sl (some 26) (v5.map (eF eI))]] simpleR) = true] (by kernel_rfl) ⟨rfl, (wk_impl_walkVectors hv5), rfl, trivial⟩) ?_
   refine k_seq ?_
   refine k_sreg (r_go [(1, .p (iV a1)), (6, .ov false [.sl (some 26) (v5.map (eF eI))]), (21, .p (.bool (decide ((v5.length : Int) ≤ a1))))] [(1, {n := some v5.length})] [(v5.map (eF eI)).length = v5.length] (by kernel_rfl) ⟨(List.length_map ..), trivial⟩) ?_
   refine k_cond (b := (decide ((v5.length : Int) ≤ a1))) (by kernel_rfl) (fun hc2_5 => ?_) (fun hc2_5 => ?_)
   ·replace h := ite_t hc2_5 h
    refine k_sreg (r_go [(4, .d false [.sl none []]), (5, .p (.bool false))] [(1, {pre := some (4, .d false [.sl none []])})] [(SV.d false (eraR [.sl (some 3) []]) : SV) = .d false [.sl none []]] (by kernel_rfl) ⟨(congrArg (fun z => SV.d false z) (erc_sl rfl rfl)), trivial⟩) ?_
    refine k_ret ?_
    refine q_r ?_
    obtain rfl := oi h
    exact e_ret (ls := [(.d false [.sl none []], 4), (.p (.bool false), 5)]) (by kernel_rfl) rfl (by kernel_rfl) rfl
   ·replace h := ite_f hc2_5 h
    refine k_skip ?_
    refine q_n ?_
    replace h := bs' h
    obtain ⟨v7, hv7, h⟩ := h
    refine k_sreg (r_go [(4, .d false [.sl none (v7.map eI)]), (5, .p (.bool true))] [(2, {row := some [.sl none (v7.map eI)]}), (3, {row := some [.sl none (v7.map eI)], b := some true})] [0 ≤ a1, (v5.map (eF eI))[(Int.toNat a1)]? = some [.sl none (v7.map eI)], frR [.sl none (v7.map eI)] = true, getRow [[.sl (some 26) (v5.map (eF eI))]] [(0, 0), ((Int.toNat a1), 0)] = some [.sl none (v7.map eI)]] (by kernel_rfl) ⟨(idxO_some hv7).1, (map_get (eF eI) (idxO_some hv7).2), (frR1 (frL_enc fr_I) rfl), ((gr0 rfl).trans (gre (map_get (eF eI) (idxO_some hv7).2))), trivial⟩) ?_
    refine k_ret ?_
    obtain rfl := oi h
    exact e_ret (ls := [(.d false [.sl none (v7.map eI)], 4), (.p (.bool true), 5)]) (by kernel_rfl) rfl (by kernel_rfl) rfl
theorem wk_impl_isVectorOf {a0 : (List (List Int))} {a1 : (List Int)}  {r : Bool} (h : impl_isVectorOf a0 a1 = some r) : Meets Try.prog 105 [.d false [.sl none (a0.map (eF eI))], .d false [.sl none (a1.map eI)]] { vals := [.p (.bool r)] } := by
 refine Meets_ofL (by kernel_rfl) Try.func105 rfl (by kernel_rfl) (l0 := [(0, .d false [.sl none (a0.map (eF eI))]), (1, .d false [.sl none (a1.map eI)])]) (by kernel_rfl) ?_
 unfold impl_isVectorOf at h
 refine k_sreg (r_go [(0, .d false [.sl none (a0.map (eF eI))]), (1, .d false [.sl none (a1.map eI)])] [] [] (by kernel_rfl) trivial) ?_
 replace h := bs' h
 obtain ⟨v1, hv1, h⟩ := h
 replace h := bs' h
 obtain ⟨w3, hw3, h⟩ := h
 refine k_sreg (l1 := [(4, .p (.bool w3))]) ?_ ?_
 ·clear h
  rcases ft v1 with ha0 | ha0
  ·replace hw3 := ite_t ha0 hw3
   replace hw3 := bs' hw3
   obtain ⟨v2, hv2, hw3⟩ := hw3
   rcases ft v2 with ha1 | ha1
   ·replace hw3 := ite_t ha1 hw3
    have hw3 := oi hw3
    subst hw3
    exact (r_go [(4, .p (.bool ((a0.length : Int) == (a1.length : Int))))] [(1, {call := some ([.d false [.sl none (a0.map (eF eI))]], [.p (.bool v1)], true)}), (3, {g := some true}), (4, {g := some true, call := some ([.d false [.sl none (a1.map eI)]], [.p (.bool v2)], true)}), (5, {b := some true}), (7, {g := some true}), (8, {g := some true, n := some a0.length}), (9, {g := some true}), (10, {g := some true, n := some a1.length}), (11, {g := some true}), (12, {b := some true})] [([.d false [.sl none (a0.map (eF eI))]] : List Arg) = [.d false [.sl none (a0.map (eF eI))]], Meets Try.prog 62 ([.d false [.sl none (a0.map (eF eI))]] ++ []) { vals := [.p (.bool v1)] }, (!true || List.all [.p (.bool v1)] simpleR) = true, v1 = true, v1 = true, ([.d false [.sl none (a1.map eI)]] : List Arg) = [.d false [.sl none (a1.map eI)]], Meets Try.prog 112 ([.d false [.sl none (a1.map eI)]] ++ []) { vals := [.p (.bool v2)] }, (!true || List.all [.p (.bool v2)] simpleR) = true, v1 = true, v2 = true, v2 = true, (a0.map (eF eI)).length = a0.length, v2 = true, v2 = true, (a1.map eI).length = a1.length, v2 = true, v2 = true] (by kernel_rfl) ⟨rfl, (wk_impl_isGraph hv1), (bt rfl), ha0, ha0, rfl, (wk_impl_isVector hv2), (bt rfl), ha0, ha1, ha1, (List.length_map ..), ha1, ha1, (List.length_map ..), ha1, ha1, trivial⟩)
   ·replace hw3 := ite_f ha1 hw3
    have hw3 := oi hw3
    subst hw3
    exact (r_go [(4, .p (.bool false))] [(1, {call := some ([.d false [.sl none (a0.map (eF eI))]], [.p (.bool v1)], true)}), (3, {g := some true}), (4, {g := some true, call := some ([.d false [.sl none (a1.map eI)]], [.p (.bool v2)], true)}), (5, {b := some true}), (7, {g := some false}), (8, {g := some false}), (9, {g := some false}), (10, {g := some false}), (11, {g := some false}), (12, {b := some false})] [([.d false [.sl none (a0.map (eF eI))]] : List Arg) = [.d false [.sl none (a0.map (eF eI))]], Meets Try.prog 62 ([.d false [.sl none (a0.map (eF eI))]] ++ []) { vals := [.p (.bool v1)] }, (!true || List.all [.p (.bool v1)] simpleR) = true, v1 = true, v1 = true, ([.d false [.sl none (a1.map eI)]] : List Arg) = [.d false [.sl none (a1.map eI)]], Meets Try.prog 112 ([.d false [.sl none (a1.map eI)]] ++ []) { vals := [.p (.bool v2)] }, (!true || List.all [.p (.bool v2)] simpleR) = true, v1 = true, v2 = false, v2 = false, v2 = false, v2 = false, v2 = false, v2 = false] (by kernel_rfl) ⟨rfl, (wk_impl_isGraph hv1), (bt rfl), ha0, ha0, rfl, (wk_impl_isVector hv2), (bt rfl), ha0, ha1, ha1, ha1, ha1, ha1, ha1, trivial⟩)
  ·replace hw3 := ite_f ha0 hw3
   have hw3 := oi hw3
   subst hw3
   exact (r_go [(4, .p (.bool false))] [(1, {call := some ([.d false [.sl none (a0.map (eF eI))]], [.p (.bool v1)], true)}), (3, {g := some false}), (4, {g := some false}), (5, {b := some false}), (7, {g := some false}), (8, {g := some false}), (9, {g := some false}), (10, {g := some false}), (11, {g := some false}), (12, {b := some false})] [([.d false [.sl none (a0.map (eF eI))]] : List Arg) = [.d false [.sl none (a0.map (eF eI))]], Meets Try.prog 62 ([.d false [.sl none (a0.map (eF eI))]] ++ []) { vals := [.p (.bool v1)] }, (!true || List.all [.p (.bool v1)] simpleR) = true, v1 = false, v1 = false, v1 = false, false = false, false = false, false = false, false = false, false = false, false = false] (by kernel_rfl) ⟨rfl, (wk_impl_isGraph hv1), (bt rfl), ha0, ha0, ha0, rfl, rfl, rfl, rfl, rfl, rfl, trivial⟩)
 ·refine k_ret ?_
  obtain rfl := oi h
  exact e_ret (ls := [(.p (.bool w3), 4)]) (by kernel_rfl) rfl (by kernel_rfl) rfl
theorem wk_impl_abs {a0 : Int}  {r : Int} (h : impl_abs a0 = some r) : Meets Try.prog 161 [wI a0] { vals := [.p (iV r)] } := by
 refine Meets_ofL (by kernel_rfl) Try.func161 rfl (by kernel_rfl) (l0 := [(0, .p (iV a0))]) (by kernel_rfl) ?_
 unfold impl_abs at h
 refine k_sreg (r_go [(0, .p (iV a0))] [] [] (by kernel_rfl) trivial) ?_
 refine k_seq ?_
 refine k_sreg (r_go [(0, .p (iV a0)), (4, .p (.bool (decide (a0 < 0))))] [] [] (by kernel_rfl) trivial) ?_
 refine k_cond (b := (decide (a0 < 0))) (by kernel_rfl) (fun hc2_0 => ?_) (fun hc2_0 => ?_)
 ·replace h := ite_t hc2_0 h
  refine k_sreg (r_go [(2, .p (iV (w64 (0 - a0))))] [] [] (by kernel_rfl) trivial) ?_
  refine k_ret ?_
  refine q_r ?_
  obtain rfl := oi h
  exact e_ret (ls := [(.p (iV (w64 (0 - a0))), 2)]) (by kernel_rfl) rfl (by kernel_rfl) rfl
 ·replace h := ite_f hc2_0 h
  refine k_skip ?_
  refine q_n ?_
  refine k_sreg (r_go [(2, .p (iV a0))] [] [] (by kernel_rfl) trivial) ?_
  refine k_ret ?_
  obtain rfl := oi h
  exact e_ret (ls := [(.p (iV a0), 2)]) (by kernel_rfl) rfl (by kernel_rfl) rfl
theorem wk_impl_greatestDivisor {a0 : Int} {a1 : Int}  {r : Int} (h : impl_greatestDivisor a0 a1 = some r) : Meets Try.prog 155 [wI a0, wI a1] { vals := [.p (iV r)] } := by
 refine Meets_ofL (by kernel_rfl) Try.func155 rfl (by kernel_rfl) (l0 := [(0, .p (iV a0)), (1, .p (iV a1))]) (by kernel_rfl) ?_
 unfold impl_greatestDivisor at h
 refine k_sreg (r_go [(0, .p (iV a0)), (1, .p (iV a1))] [] [] (by kernel_rfl) trivial) ?_
 replace h := bs' h
 obtain ⟨v1, hv1, h⟩ := h
 replace h := bs' h
 obtain ⟨v2, hv2, h⟩ := h
 refine k_sreg (r_go [(0, .p (iV v1)), (1, .p (iV v2))] [(1, {call := some ([wI a0], [.p (iV v1)], true)}), (3, {call := some ([wI a1], [.p (iV v2)], true)})] [([wI a0] : List Arg) = [wI a0], Meets Try.prog 161 ([wI a0] ++ []) { vals := [.p (iV v1)] }, (!true || List.all [.p (iV v1)] simpleR) = true, ([wI a1] : List Arg) = [wI a1], Meets Try.prog 161 ([wI a1] ++ []) { vals := [.p (iV v2)] }, (!true || List.all [.p (iV v2)] simpleR) = true] (by kernel_rfl) ⟨rfl, (wk_impl_abs hv1), (bt rfl), rfl, (wk_impl_abs hv2), (bt rfl), trivial⟩) ?_
 refine k_join (J := fun (x : Int) => [(0, .p (iV x))]) (K := fun x => impl_greatestDivisor_k1 x = some r) (fun x3 h => ?_) ?_
 ·unfold impl_greatestDivisor_k1 at h
  refine k_sreg (r_go [(4, .p (iV x3))] [] [] (by kernel_rfl) trivial) ?_
  refine k_ret ?_
  obtain rfl := oi h
  exact e_ret (ls := [(.p (iV x3), 4)]) (by kernel_rfl) rfl (by kernel_rfl) rfl
 ·refine k_block ?_
  obtain ⟨y5, hl_x4, hk_x4⟩ := bs' h
  clear h
  refine k_loop (J := fun (x : Qr) => [(0, .p (iV x.1)), (1, .p (iV x.2))]) hl_x4 (wk_of (by kernel_rfl) (by kernel_rfl)) (fun x4 o_x4 h hy_x4 => ?_)
  unfold impl_greatestDivisor_b1 at h
  refine k_seq ?_
  refine k_sreg (r_go [(0, .p (iV x4.1)), (1, .p (iV x4.2)), (10, .p (.bool (x4.2 != 0)))] [] [] (by kernel_rfl) trivial) ?_
  refine k_cond (b := (x4.2 != 0)) (by kernel_rfl) (fun hc5_5 => ?_) (fun hc5_5 => ?_)
  ·replace h := ite_t hc5_5 h
   refine k_skip ?_
   refine q_n ?_
   refine k_block ?_
   replace h := bs' h
   obtain ⟨u7, hu7, h⟩ := h
   refine k_reg (r_draw Try_mixed 5 [] [(0, .p (iV x4.2)), (1, .p (iV (Int.tmod x4.1 x4.2)))] [] [x4.2 ≠ (0 : Int)] (by kernel_rfl) ⟨(guardO_some hu7), trivial⟩) ?_
   refine b_n ?_
   exact lq_n (x4.2, (Int.tmod x4.1 x4.2)) (oi h).symm (wk_of (by kernel_rfl) (by kernel_rfl))
  ·replace h := ite_f hc5_5 h
   refine k_exit ?_
   refine q_x ?_
   refine lq_x ?_
   refine b_x ?_
   have hyy := hy_x4 _ (oi h).symm
   subst hyy
   have h := hk_x4
   refine q_n ?_
   exact ⟨x4.1, h, (wk_of (by kernel_rfl) (by kernel_rfl))⟩
theorem wk_impl_isRat {a0 : Qr}  {r : Bool} (h : impl_isRat a0 = some r) : Meets Try.prog 144 [.v (vRt a0)] { vals := [.p (.bool r)] } := by
 refine Meets_ofL (by kernel_rfl) Try.func144 rfl (by kernel_rfl) (l0 := [(0, .p (vRt a0))]) (by kernel_rfl) ?_
 unfold impl_isRat at h
 refine k_sreg (r_go [(1, .box (eRt a0))] [] [] (by kernel_rfl) trivial) ?_
 replace h := bs' h
 obtain ⟨v1, hv1, h⟩ := h
 replace h := bs' h
 obtain ⟨w4, hw4, h⟩ := h
 refine k_sreg (l1 := [(2, .p (.bool w4))]) ?_ ?_
 ·clear h
  rcases ft v1 with ha0 | ha0
  ·replace hw4 := ite_t ha0 hw4
   replace hw4 := bs' hw4
   obtain ⟨v2, hv2, hw4⟩ := hw4
   rcases ft v2 with ha1 | ha1
   ·replace hw4 := ite_t ha1 hw4
    replace hw4 := bs' hw4
    obtain ⟨v3, hv3, hw4⟩ := hw4
    have hw4 := oi hw4
    subst hw4
    exact (r_go [(2, .p (.bool (v3 == 1)))] [(2, {call := some ([wI a0.2, wI 1, wI 1000000000], [.p (.bool v1)], true)}), (4, {g := some true}), (5, {g := some true}), (6, {g := some true, call := some ([wI a0.1, wI (-1000000000), wI 1000000000], [.p (.bool v2)], true)}), (7, {b := some true}), (9, {g := some true}), (10, {g := some true}), (11, {g := some true}), (12, {g := some true}), (13, {g := some true, call := some ([wI a0.1, wI a0.2], [.p (iV v3)], true)}), (14, {g := some true}), (15, {b := some true})] [([wI a0.2, wI 1, wI 1000000000] : List Arg) = [wI a0.2, wI 1, wI 1000000000], Meets Try.prog 74 ([wI a0.2, wI 1, wI 1000000000] ++ []) { vals := [.p (.bool v1)] }, (!true || List.all [.p (.bool v1)] simpleR) = true, v1 = true, v1 = true, v1 = true, ([wI a0.1, wI (-1000000000), wI 1000000000] : List Arg) = [wI a0.1, wI (-1000000000), wI 1000000000], Meets Try.prog 74 ([wI a0.1, wI (-1000000000), wI 1000000000] ++ []) { vals := [.p (.bool v2)] }, (!true || List.all [.p (.bool v2)] simpleR) = true, v1 = true, v2 = true, v2 = true, v2 = true, v2 = true, v2 = true, ([wI a0.1, wI a0.2] : List Arg) = [wI a0.1, wI a0.2], Meets Try.prog 155 ([wI a0.1, wI a0.2] ++ []) { vals := [.p (iV v3)] }, (!true || List.all [.p (iV v3)] simpleR) = true, v2 = true, v2 = true] (by kernel_rfl) ⟨rfl, (wk_impl_within hv1), (bt rfl), ha0, ha0, ha0, rfl, (wk_impl_within hv2), (bt rfl), ha0, ha1, ha1, ha1, ha1, ha1, rfl, (wk_impl_greatestDivisor hv3), (bt rfl), ha1, ha1, trivial⟩)
   ·replace hw4 := ite_f ha1 hw4
    have hw4 := oi hw4
    subst hw4
    exact (r_go [(2, .p (.bool false))] [(2, {call := some ([wI a0.2, wI 1, wI 1000000000], [.p (.bool v1)], true)}), (4, {g := some true}), (5, {g := some true}), (6, {g := some true, call := some ([wI a0.1, wI (-1000000000), wI 1000000000], [.p (.bool v2)], true)}), (7, {b := some true}), (9, {g := some false}), (10, {g := some false}), (11, {g := some false}), (12, {g := some false}), (13, {g := some false}), (14, {g := some false}), (15, {b := some false})] [([wI a0.2, wI 1, wI 1000000000] : List Arg) = [wI a0.2, wI 1, wI 1000000000], Meets Try.prog 74 ([wI a0.2, wI 1, wI 1000000000] ++ []) { vals := [.p (.bool v1)] }, (!true || List.all [.p (.bool v1)] simpleR) = true, v1 = true, v1 = true, v1 = true, ([wI a0.1, wI (-1000000000), wI 1000000000] : List Arg) = [wI a0.1, wI (-1000000000), wI 1000000000], Meets Try.prog 74 ([wI a0.1, wI (-1000000000), wI 1000000000] ++ []) { vals := [.p (.bool v2)] }, (!true || List.all [.p (.bool v2)] simpleR) = true, v1 = true, v2 = false, v2 = false, v2 = false, v2 = false, v2 = false, v2 = false, v2 = false] (by kernel_rfl) ⟨rfl, (wk_impl_within hv1), (bt rfl), ha0, ha0, ha0, rfl, (wk_impl_within hv2), (bt rfl), ha0, ha1, ha1, ha1, ha1, ha1, ha1, ha1, trivial⟩)
  ·replace hw4 := ite_f ha0 hw4
   have hw4 := oi hw4
   subst hw4
   exact (r_go [(2, .p (.bool false))] [(2, {call := some ([wI a0.2, wI 1, wI 1000000000], [.p (.bool v1)], true)}), (4, {g := some false}), (5, {g := some false}), (6, {g := some false}), (7, {b := some false}), (9, {g := some false}), (10, {g := some false}), (11, {g := some false}), (12, {g := some false}), (13, {g := some false}), (14, {g := some false}), (15, {b := some false})] [([wI a0.2, wI 1, wI 1000000000] : List Arg) = [wI a0.2, wI 1, wI 1000000000], Meets Try.prog 74 ([wI a0.2, wI 1, wI 1000000000] ++ []) { vals := [.p (.bool v1)] }, (!true || List.all [.p (.bool v1)] simpleR) = true, v1 = false, v1 = false, v1 = false, v1 = false, false = false, false = false, false = false, false = false, false = false, false = false, false = false] (by kernel_rfl) ⟨rfl, (wk_impl_within hv1), (bt rfl), ha0, ha0, ha0, ha0, rfl, rfl, rfl, rfl, rfl, rfl, rfl, trivial⟩)
 ·refine k_ret ?_
  obtain rfl := oi h
  exact e_ret (ls := [(.p (.bool w4), 2)]) (by kernel_rfl) rfl (by kernel_rfl) rfl
theorem wk_impl_lowest {a0 : Int} {a1 : Int}  {r : (Qr × Bool)} (h : impl_lowest a0 a1 = some r) : Meets Try.prog 137 [wI a0, wI a1] { vals := [.p (vRt r.1), .p (.bool r.2)] } := by
 refine Meets_ofL (by kernel_rfl) Try.func137 rfl (by kernel_rfl) (l0 := [(0, .p (iV a0)), (1, .p (iV a1))]) (by kernel_rfl) ?_
 unfold impl_lowest at h
 refine k_sreg (r_go [(0, .p (iV a0)), (1, .p (iV a1)), (4, .box [rI 0, rI 0])] [] [] (by kernel_rfl) trivial) ?_
 replace h := bs' h
 obtain ⟨v1, hv1, h⟩ := h
 refine k_sreg (r_go [(0, .p (iV a0)), (1, .p (iV a1)), (4, .box [rI 0, rI 0]), (6, .p (iV v1))] [(2, {call := some ([wI a0, wI a1], [.p (iV v1)], true)})] [([wI a0, wI a1] : List Arg) = [wI a0, wI a1], Meets Try.prog 155 ([wI a0, wI a1] ++ []) { vals := [.p (iV v1)] }, (!true || List.all [.p (iV v1)] simpleR) = true] (by kernel_rfl) ⟨rfl, (wk_impl_greatestDivisor hv1), (bt rfl), trivial⟩) ?_
 refine k_join (J := fun (x : Int) => [(0, .p (iV a0)), (1, .p (iV a1)), (4, .box [rI 0, rI 0]), (6, .p (iV x))]) (K := fun x => impl_lowest_k1 a0 a1 x = some r) (fun x2 h => ?_) ?_
 ·unfold impl_lowest_k1 at h
  replace h := bs' h
  obtain ⟨u3, hu3, h⟩ := h
  refine k_sreg (r_draw Try_mixed 8 [] [(4, .box [rI 0, rI 0]), (7, .box [rI (w64 (Int.tdiv a0 x2)), rI (w64 (Int.tdiv a1 x2))])] [] [x2 ≠ (0 : Int), x2 ≠ (0 : Int)] (by kernel_rfl) ⟨(guardO_some hu3), (guardO_some hu3), trivial⟩) ?_
  refine k_seq ?_
  replace h := bs' h
  obtain ⟨v4, hv4, h⟩ := h
  refine k_sreg (r_go [(4, .box [rI 0, rI 0]), (7, .box [rI (w64 (Int.tdiv a0 x2)), rI (w64 (Int.tdiv a1 x2))]), (24, .p (.bool (!v4)))] [(1, {call := some ([.v (.agg #[.int .i64 (w64 (Int.tdiv a0 x2)), .int .i64 (w64 (Int.tdiv a1 x2))])], [.p (.bool v4)], true)})] [([.v (.agg #[.int .i64 (w64 (Int.tdiv a0 x2)), .int .i64 (w64 (Int.tdiv a1 x2))])] : List Arg) = [.v (.agg #[.int .i64 (w64 (Int.tdiv a0 x2)), .int .i64 (w64 (Int.tdiv a1 x2))])], Meets Try.prog 144 ([.v (.agg #[.int .i64 (w64 (Int.tdiv a0 x2)), .int .i64 (w64 (Int.tdiv a1 x2))])] ++ []) { vals := [.p (.bool v4)] }, (!true || List.all [.p (.bool v4)] simpleR) = true] (by kernel_rfl) ⟨rfl, (wk_impl_isRat hv4), (bt rfl), trivial⟩) ?_
  refine k_cond (b := (!v4)) (by kernel_rfl) (fun hc2_4 => ?_) (fun hc2_4 => ?_)
  ·replace h := ite_t hc2_4 h
   refine k_sreg (r_go [(4, .box [rI 0, rI 0]), (5, .p (.bool false))] [] [] (by kernel_rfl) trivial) ?_
   refine k_ret ?_
   refine q_r ?_
   obtain rfl := oi h
   exact e_ret (ls := [(.p (.agg #[.int .i64 0, .int .i64 0]), 4), (.p (.bool false), 5)]) (by kernel_rfl) rfl (by kernel_rfl) rfl
  ·replace h := ite_f hc2_4 h
   refine k_skip ?_
   refine q_n ?_
   refine k_sreg (r_go [(4, .box [rI (w64 (Int.tdiv a0 x2)), rI (w64 (Int.tdiv a1 x2))]), (5, .p (.bool true))] [] [] (by kernel_rfl) trivial) ?_
   refine k_ret ?_
   obtain rfl := oi h
   exact e_ret (ls := [(.p (.agg #[.int .i64 (w64 (Int.tdiv a0 x2)), .int .i64 (w64 (Int.tdiv a1 x2))]), 4), (.p (.bool true), 5)]) (by kernel_rfl) rfl (by kernel_rfl) rfl
 ·refine k_sreg (r_go [(0, .p (iV a0)), (1, .p (iV a1)), (4, .box [rI 0, rI 0]), (6, .p (iV v1)), (12, .p (.bool (decide (a1 < 0))))] [] [] (by kernel_rfl) trivial) ?_
  refine k_cond (b := (decide (a1 < 0))) (by kernel_rfl) (fun hc2_5 => ?_) (fun hc2_5 => ?_)
  ·replace h := ite_t hc2_5 h
   refine k_reg (r_go [(0, .p (iV a0)), (1, .p (iV a1)), (4, .box [rI 0, rI 0]), (6, .p (iV (w64 (0 - v1))))] [] [] (by kernel_rfl) trivial) ?_
   refine q_n ?_
   exact ⟨(w64 (0 - v1)), h, (wk_of (by kernel_rfl) (by kernel_rfl))⟩
  ·replace h := ite_f hc2_5 h
   refine k_skip ?_
   refine q_n ?_
   exact ⟨v1, h, (wk_of (by kernel_rfl) (by kernel_rfl))⟩
theorem wk_slices_MinFunc_Limpl_Rat_impl_Rat_v {a0 : (List Qr)} {a1 : (Qr → Qr → Option Int)} {F1 : FuncId} (hp1 : ∀ x0 x1 y, a1 x0 x1 = some y → Meets Try.prog F1 ([.v (vRt x0), .v (vRt x1)] ++ []) { vals := [.p (iV y)] }) {r : Qr} (h : slices_MinFunc_Limpl_Rat_impl_Rat a0 a1 = some r) : Meets Try.prog 138 [.d false [.sl none (a0.map eRt)], .v (.func (.func F1) #[] #[])] { vals := [.p (vRt r)] } := by
 refine Meets_ofL (by kernel_rfl) Try.func138 rfl (by kernel_rfl) (l0 := [(0, .d false [.sl none (a0.map eRt)]), (1, .p (.func (.func F1) #[] #[]))]) (by kernel_rfl) ?_
 unfold slices_MinFunc_Limpl_Rat_impl_Rat at h
 refine k_sreg (r_go [(0, .d false [.sl none (a0.map eRt)]), (1, .p (.func (.func F1) #[] #[])), (4, .box [rI 0, rI 0])] [] [] (by kernel_rfl) trivial) ?_
 refine k_join (J := fun (x : Unit) => [(0, .d false [.sl none (a0.map eRt)]), (1, .p (.func (.func F1) #[] #[])), (4, .box [rI 0, rI 0])]) (K := fun x => slices_MinFunc_Limpl_Rat_impl_Rat_k1 a0 a1 x = some r) (fun x1 h => ?_) ?_
 ·unfold slices_MinFunc_Limpl_Rat_impl_Rat_k1 at h
  replace h := bs' h
  obtain ⟨v2, hv2, h⟩ := h
  refine k_sreg (r_go [(0, .d false [.sl none (a0.map eRt)]), (1, .p (.func (.func F1) #[] #[])), (4, .box [rI 0, rI 0]), (5, .box (eRt v2))] [(1, {row := some (eRt v2)})] [0 ≤ 0, (a0.map eRt)[(Int.toNat 0)]? = some (eRt v2)] (by kernel_rfl) ⟨(idxO_some hv2).1, (map_get eRt (idxO_some hv2).2), trivial⟩) ?_
  refine k_join (J := fun (x : Qr) => [(4, .box [rI 0, rI 0]), (5, .box (eRt x))]) (K := fun x => slices_MinFunc_Limpl_Rat_impl_Rat_k2 x = some r) (fun x3 h => ?_) ?_
  ·unfold slices_MinFunc_Limpl_Rat_impl_Rat_k2 at h
   refine k_sreg (r_go [(4, .box (eRt x3))] [] [] (by kernel_rfl) trivial) ?_
   refine k_ret ?_
   obtain rfl := oi h
   exact e_ret (ls := [(.p (vRt x3), 4)]) (by kernel_rfl) rfl (by kernel_rfl) rfl
  ·refine k_sreg (r_go [(0, .d false [.sl none (a0.map eRt)]), (1, .p (.func (.func F1) #[] #[])), (4, .box [rI 0, rI 0]), (5, .box (eRt v2)), (6, .p (iV 1))] [] [] (by kernel_rfl) trivial) ?_
   refine k_block ?_
   obtain ⟨y5, hl_x4, hk_x4⟩ := bs' h
   clear h
   refine k_loop (J := fun (x : (Int × Int × Int)) => [(0, .d false [.sl none (a0.map eRt)]), (1, .p (.func (.func F1) #[] #[])), (4, .box [rI 0, rI 0]), (5, .box [rI x.1, rI x.2.1]), (6, .p (iV x.2.2))]) hl_x4 (wk_of (by kernel_rfl) (by kernel_rfl)) (fun x4 o_x4 h hy_x4 => ?_)
   unfold slices_MinFunc_Limpl_Rat_impl_Rat_b1 at h
   refine k_seq ?_
   refine k_sreg (r_go [(0, .d false [.sl none (a0.map eRt)]), (1, .p (.func (.func F1) #[] #[])), (4, .box [rI 0, rI 0]), (5, .box [rI x4.1, rI x4.2.1]), (6, .p (iV x4.2.2)), (17, .p (.bool (decide (x4.2.2 < (a0.length : Int)))))] [(2, {n := some a0.length})] [(a0.map eRt).length = a0.length] (by kernel_rfl) ⟨(List.length_map ..), trivial⟩) ?_
   refine k_cond (b := (decide (x4.2.2 < (a0.length : Int)))) (by kernel_rfl) (fun hc5_5 => ?_) (fun hc5_5 => ?_)
   ·replace h := ite_t hc5_5 h
    refine k_skip ?_
    refine q_n ?_
    refine k_seq ?_
    refine k_block ?_
    replace h := bs' h
    obtain ⟨v7, hv7, h⟩ := h
    replace h := bs' h
    obtain ⟨v8, hv8, h⟩ := h
    refine k_sreg (r_draw Try_mixed 6 [] [(0, .d false [.sl none (a0.map eRt)]), (1, .p (.func (.func F1) #[] #[])), (4, .box [rI 0, rI 0]), (5, .box [rI x4.1, rI x4.2.1]), (6, .p (iV x4.2.2)), (27, .p (.bool (decide (v8 < 0))))] [(3, {row := some (eRt v7)}), (6, {call := some ([.v (vRt v7), .v (.agg #[.int .i64 x4.1, .int .i64 x4.2.1])], [.p (iV v8)], true)})] [0 ≤ x4.2.2, (a0.map eRt)[(Int.toNat x4.2.2)]? = some (eRt v7), ([.v (vRt v7), .v (.agg #[.int .i64 x4.1, .int .i64 x4.2.1])] : List Arg) = [.v (vRt v7), .v (.agg #[.int .i64 x4.1, .int .i64 x4.2.1])], Meets Try.prog F1 ([.v (vRt v7), .v (.agg #[.int .i64 x4.1, .int .i64 x4.2.1])] ++ []) { vals := [.p (iV v8)] }, List.all [.p (iV v8)] simpleR = true] (by kernel_rfl) ⟨(idxO_some hv7).1, (map_get eRt (idxO_some hv7).2), rfl, (hp1 _ _ _ hv8), rfl, trivial⟩) ?_
    refine k_cond (b := (decide (v8 < 0))) (by kernel_rfl) (fun hc6_8 => ?_) (fun hc6_8 => ?_)
    ·replace h := ite_t hc6_8 h
     refine k_reg (r_go [(0, .d false [.sl none (a0.map eRt)]), (1, .p (.func (.func F1) #[] #[])), (4, .box [rI 0, rI 0]), (5, .box (eRt v7)), (6, .p (iV x4.2.2))] [(2, {row := some (eRt v7)})] [0 ≤ x4.2.2, (a0.map eRt)[(Int.toNat x4.2.2)]? = some (eRt v7)] (by kernel_rfl) ⟨(idxO_some hv7).1, (map_get eRt (idxO_some hv7).2), trivial⟩) ?_
     refine b_n ?_
     refine q_n ?_
     refine k_reg (r_go [(0, .d false [.sl none (a0.map eRt)]), (1, .p (.func (.func F1) #[] #[])), (4, .box [rI 0, rI 0]), (5, .box (eRt v7)), (6, .p (iV (w64 (x4.2.2 + 1))))] [] [] (by kernel_rfl) trivial) ?_
     exact lq_n (v7.1, v7.2, (w64 (x4.2.2 + 1))) (oi h).symm (wk_of (by kernel_rfl) (by kernel_rfl))
    ·replace h := ite_f hc6_8 h
     refine k_skip ?_
     refine b_n ?_
     refine q_n ?_
     refine k_reg (r_go [(0, .d false [.sl none (a0.map eRt)]), (1, .p (.func (.func F1) #[] #[])), (4, .box [rI 0, rI 0]), (5, .box [rI x4.1, rI x4.2.1]), (6, .p (iV (w64 (x4.2.2 + 1))))] [] [] (by kernel_rfl) trivial) ?_
     exact lq_n (x4.1, x4.2.1, (w64 (x4.2.2 + 1))) (oi h).symm (wk_of (by kernel_rfl) (by kernel_rfl))
   ·replace h := ite_f hc5_5 h
    refine k_exit ?_
    refine q_x ?_
    refine lq_x ?_
    refine b_x ?_
    have hyy := hy_x4 _ (oi h).symm
    subst hyy
    have h := hk_x4
    refine q_n ?_
    exact ⟨(x4.1, x4.2.1), h, (wk_of (by kernel_rfl) (by kernel_rfl))⟩
 ·refine k_sreg (r_go [(0, .d false [.sl none (a0.map eRt)]), (1, .p (.func (.func F1) #[] #[])), (4, .box [rI 0, rI 0]), (9, .p (.bool (decide ((a0.length : Int) < 1))))] [(1, {n := some a0.length})] [(a0.map eRt).length = a0.length] (by kernel_rfl) ⟨(List.length_map ..), trivial⟩) ?_
  refine k_cond (b := (decide ((a0.length : Int) < 1))) (by kernel_rfl) (fun hc2_9 => ?_) (fun hc2_9 => ?_)
  ·replace h := ite_t hc2_9 h
   cases h
  ·replace h := ite_f hc2_9 h
   refine k_skip ?_
   refine q_n ?_
   exact ⟨(), h, (wk_of (by kernel_rfl) (by kernel_rfl))⟩
theorem wk_impl_compare {a0 : Qr} {a1 : Qr}  {r : Int} (h : impl_compare a0 a1 = some r) : Meets Try.prog 139 [.v (vRt a0), .v (vRt a1)] { vals := [.p (iV r)] } := by
 refine Meets_ofL (by kernel_rfl) Try.func139 rfl (by kernel_rfl) (l0 := [(0, .p (vRt a0)), (1, .p (vRt a1))]) (by kernel_rfl) ?_
 unfold impl_compare at h
 refine k_sreg (r_go [(2, .box (eRt a0)), (3, .box (eRt a1))] [] [] (by kernel_rfl) trivial) ?_
 refine k_seq ?_
 refine k_sreg (r_draw Try_mixed 11 [] [(5, .p (iV (w64 (a0.1 * a1.2)))), (6, .p (iV (w64 (a1.1 * a0.2))))] [] [] (by kernel_rfl) trivial) ?_
 refine k_block ?_
 refine k_sreg (r_go [(5, .p (iV (w64 (a0.1 * a1.2)))), (6, .p (iV (w64 (a1.1 * a0.2)))), (17, .p (.bool (decide ((w64 (a0.1 * a1.2)) < (w64 (a1.1 * a0.2))))))] [] [] (by kernel_rfl) trivial) ?_
 refine k_cond (b := (decide ((w64 (a0.1 * a1.2)) < (w64 (a1.1 * a0.2))))) (by kernel_rfl) (fun hc3_0 => ?_) (fun hc3_0 => ?_)
 ·replace h := ite_t hc3_0 h
  refine k_sreg (r_go [(4, .p (iV (-1)))] [] [] (by kernel_rfl) trivial) ?_
  refine k_ret ?_
  refine b_r ?_
  refine q_r ?_
  obtain rfl := oi h
  exact e_ret (ls := [(.p (iV (-1)), 4)]) (by kernel_rfl) rfl (by kernel_rfl) rfl
 ·replace h := ite_f hc3_0 h
  refine k_sreg (r_go [(21, .p (.bool (decide ((w64 (a0.1 * a1.2)) > (w64 (a1.1 * a0.2))))))] [] [] (by kernel_rfl) trivial) ?_
  refine k_cond (b := (decide ((w64 (a0.1 * a1.2)) > (w64 (a1.1 * a0.2))))) (by kernel_rfl) (fun hc3_1 => ?_) (fun hc3_1 => ?_)
  ·replace h := ite_t hc3_1 h
   refine k_sreg (r_go [(4, .p (iV 1))] [] [] (by kernel_rfl) trivial) ?_
   refine k_ret ?_
   refine b_r ?_
   refine q_r ?_
   obtain rfl := oi h
   exact e_ret (ls := [(.p (iV 1), 4)]) (by kernel_rfl) rfl (by kernel_rfl) rfl
  ·replace h := ite_f hc3_1 h
   refine k_skip ?_
   refine b_n ?_
   refine q_n ?_
   refine k_sreg (r_go [(4, .p (iV 0))] [] [] (by kernel_rfl) trivial) ?_
   refine k_ret ?_
   obtain rfl := oi h
   exact e_ret (ls := [(.p (iV 0), 4)]) (by kernel_rfl) rfl (by kernel_rfl) rfl
theorem wk_slices_MaxFunc_Limpl_Rat_impl_Rat_v {a0 : (List Qr)} {a1 : (Qr → Qr → Option Int)} {F1 : FuncId} (hp1 : ∀ x0 x1 y, a1 x0 x1 = some y → Meets Try.prog F1 ([.v (vRt x0), .v (vRt x1)] ++ []) { vals := [.p (iV y)] }) {r : Qr} (h : slices_MaxFunc_Limpl_Rat_impl_Rat a0 a1 = some r) : Meets Try.prog 140 [.d false [.sl none (a0.map eRt)], .v (.func (.func F1) #[] #[])] { vals := [.p (vRt r)] } := by
 refine Meets_ofL (by kernel_rfl) Try.func140 rfl (by kernel_rfl) (l0 := [(0, .d false [.sl none (a0.map eRt)]), (1, .p (.func (.func F1) #[] #[]))]) (by kernel_rfl) ?_
 unfold slices_MaxFunc_Limpl_Rat_impl_Rat at h
 refine k_sreg (r_go [(0, .d false [.sl none (a0.map eRt)]), (1, .p (.func (.func F1) #[] #[])), (4, .box [rI 0, rI 0])] [] [] (by kernel_rfl) trivial) ?_
 refine k_join (J := fun (x : Unit) => [(0, .d false [.sl none (a0.map eRt)]), (1, .p (.func (.func F1) #[] #[])), (4, .box [rI 0, rI 0])]) (K := fun x => slices_MaxFunc_Limpl_Rat_impl_Rat_k1 a0 a1 x = some r) (fun x1 h => ?_) ?_
 ·unfold slices_MaxFunc_Limpl_Rat_impl_Rat_k1 at h
  replace h := bs' h
  obtain ⟨v2, hv2, h⟩ := h
  refine k_sreg (r_go [(0, .d false [.sl none (a0.map eRt)]), (1, .p (.func (.func F1) #[] #[])), (4, .box [rI 0, rI 0]), (5, .box (eRt v2))] [(1, {row := some (eRt v2)})] [0 ≤ 0, (a0.map eRt)[(Int.toNat 0)]? = some (eRt v2)] (by kernel_rfl) ⟨(idxO_some hv2).1, (map_get eRt (idxO_some hv2).2), trivial⟩) ?_
  refine k_join (J := fun (x : Qr) => [(4, .box [rI 0, rI 0]), (5, .box (eRt x))]) (K := fun x => slices_MaxFunc_Limpl_Rat_impl_Rat_k2 x = some r) (fun x3 h => ?_) ?_
  ·unfold slices_MaxFunc_Limpl_Rat_impl_Rat_k2 at h
   refine k_sreg (r_go [(4, .box (eRt x3))] [] [] (by kernel_rfl) trivial) ?_
   refine k_ret ?_
   obtain rfl := oi h
   exact e_ret (ls := [(.p (vRt x3), 4)]) (by kernel_rfl) rfl (by kernel_rfl) rfl
  ·refine k_sreg (r_go [(0, .d false [.sl none (a0.map eRt)]), (1, .p (.func (.func F1) #[] #[])), (4, .box [rI 0, rI 0]), (5, .box (eRt v2)), (6, .p (iV 1))] [] [] (by kernel_rfl) trivial) ?_
   refine k_block ?_
   obtain ⟨y5, hl_x4, hk_x4⟩ := bs' h
   clear h
   refine k_loop (J := fun (x : (Int × Int × Int)) => [(0, .d false [.sl none (a0.map eRt)]), (1, .p (.func (.func F1) #[] #[])), (4, .box [rI 0, rI 0]), (5, .box [rI x.1, rI x.2.1]), (6, .p (iV x.2.2))]) hl_x4 (wk_of (by kernel_rfl) (by kernel_rfl)) (fun x4 o_x4 h hy_x4 => ?_)
   unfold slices_MaxFunc_Limpl_Rat_impl_Rat_b1 at h
   refine k_seq ?_
   refine k_sreg (r_go [(0, .d false [.sl none (a0.map eRt)]), (1, .p (.func (.func F1) #[] #[])), (4, .box [rI 0, rI 0]), (5, .box [rI x4.1, rI x4.2.1]), (6, .p (iV x4.2.2)), (17, .p (.bool (decide (x4.2.2 < (a0.length : Int)))))] [(2, {n := some a0.length})] [(a0.map eRt).length = a0.length] (by kernel_rfl) ⟨(List.length_map ..), trivial⟩) ?_
   refine k_cond (b := (decide (x4.2.2 < (a0.length : Int)))) (by kernel_rfl) (fun hc5_5 => ?_) (fun hc5_5 => ?_)
   ·replace h := ite_t hc5_5 h
    refine k_skip ?_
    refine q_n ?_
    refine k_seq ?_
    refine k_block ?_
    replace h := bs' h
    obtain ⟨v7, hv7, h⟩ := h
    replace h := bs' h
    obtain ⟨v8, hv8, h⟩ := h
    refine k_sreg (r_draw Try_mixed 6 [] [(0, .d false [.sl none (a0.map eRt)]), (1, .p (.func (.func F1) #[] #[])), (4, .box [rI 0, rI 0]), (5, .box [rI x4.1, rI x4.2.1]), (6, .p (iV x4.2.2)), (27, .p (.bool (decide (v8 > 0))))] [(3, {row := some (eRt v7)}), (6, {call := some ([.v (vRt v7), .v (.agg #[.int .i64 x4.1, .int .i64 x4.2.1])], [.p (iV v8)], true)})] [0 ≤ x4.2.2, (a0.map eRt)[(Int.toNat x4.2.2)]? = some (eRt v7), ([.v (vRt v7), .v (.agg #[.int .i64 x4.1, .int .i64 x4.2.1])] : List Arg) = [.v (vRt v7), .v (.agg #[.int .i64 x4.1, .int .i64 x4.2.1])], Meets Try.prog F1 ([.v (vRt v7), .v (.agg #[.int .i64 x4.1, .int .i64 x4.2.1])] ++ []) { vals := [.p (iV v8)] }, List.all [.p (iV v8)] simpleR = true] (by kernel_rfl) ⟨(idxO_some hv7).1, (map_get eRt (idxO_some hv7).2), rfl, (hp1 _ _ _ hv8), rfl, trivial⟩) ?_
    refine k_cond (b := (decide (v8 > 0))) (by kernel_rfl) (fun hc6_8 => ?_) (fun hc6_8 => ?_)
    ·replace h := ite_t hc6_8 h
     refine k_reg (r_go [(0, .d false [.sl none (a0.map eRt)]), (1, .p (.func (.func F1) #[] #[])), (4, .box [rI 0, rI 0]), (5, .box (eRt v7)), (6, .p (iV x4.2.2))] [(2, {row := some (eRt v7)})] [0 ≤ x4.2.2, (a0.map eRt)[(Int.toNat x4.2.2)]? = some (eRt v7)] (by kernel_rfl) ⟨(idxO_some hv7).1, (map_get eRt (idxO_some hv7).2), trivial⟩) ?_
     refine b_n ?_
     refine q_n ?_
     refine k_reg (r_go [(0, .d false [.sl none (a0.map eRt)]), (1, .p (.func (.func F1) #[] #[])), (4, .box [rI 0, rI 0]), (5, .box (eRt v7)), (6, .p (iV (w64 (x4.2.2 + 1))))] [] [] (by kernel_rfl) trivial) ?_
     exact lq_n (v7.1, v7.2, (w64 (x4.2.2 + 1))) (oi h).symm (wk_of (by kernel_rfl) (by kernel_rfl))
    ·replace h := ite_f hc6_8 h
     refine k_skip ?_
     refine b_n ?_
     refine q_n ?_
     refine k_reg (r_go [(0, .d false [.sl none (a0.map eRt)]), (1, .p (.func (.func F1) #[] #[])), (4, .box [rI 0, rI 0]), (5, .box [rI x4.1, rI x4.2.1]), (6, .p (iV (w64 (x4.2.2 + 1))))] [] [] (by kernel_rfl) trivial) ?_
     exact lq_n (x4.1, x4.2.1, (w64 (x4.2.2 + 1))) (oi h).symm (wk_of (by kernel_rfl) (by kernel_rfl))
   ·replace h := ite_f hc5_5 h
    refine k_exit ?_
    refine q_x ?_
    refine lq_x ?_
    refine b_x ?_
    have hyy := hy_x4 _ (oi h).symm
    subst hyy
    have h := hk_x4
    refine q_n ?_
    exact ⟨(x4.1, x4.2.1), h, (wk_of (by kernel_rfl) (by kernel_rfl))⟩
 ·refine k_sreg (r_go [(0, .d false [.sl none (a0.map eRt)]), (1, .p (.func (.func F1) #[] #[])), (4, .box [rI 0, rI 0]), (9, .p (.bool (decide ((a0.length : Int) < 1))))] [(1, {n := some a0.length})] [(a0.map eRt).length = a0.length] (by kernel_rfl) ⟨(List.length_map ..), trivial⟩) ?_
  refine k_cond (b := (decide ((a0.length : Int) < 1))) (by kernel_rfl) (fun hc2_9 => ?_) (fun hc2_9 => ?_)
  ·replace h := ite_t hc2_9 h
   cases h
  ·replace h := ite_f hc2_9 h
   refine k_skip ?_
   refine q_n ?_
   exact ⟨(), h, (wk_of (by kernel_rfl) (by kernel_rfl))⟩
theorem wk_impl_ratioBounds {a0 : (List (List Int))} {a1 : (List Int)}  {r : Qp} (h : impl_ratioBounds a0 a1 = some r) : Meets Try.prog 94 [.d false [.sl none (a0.map (eF eI))], .d false [.sl none (a1.map eI)]] { vals := [.p (vRt r.1), .p (vRt r.2)] } := by
 refine Meets_ofL (by kernel_rfl) Try.func94 rfl (by kernel_rfl) (l0 := [(0, .d false [.sl none (a0.map (eF eI))]), (1, .d false [.sl none (a1.map eI)])]) (by kernel_rfl) ?_
 unfold impl_ratioBounds at h
 refine k_sreg (r_go [(0, .d false [.sl none (a0.map (eF eI))]), (1, .d false [.sl none (a1.map eI)]), (4, .box [rI 0, rI 0]), (5, .box [rI 0, rI 0])] [] [] (by kernel_rfl) trivial) ?_
 refine k_sreg (r_go [(0, .d false [.sl none (a0.map (eF eI))]), (1, .d false [.sl none (a1.map eI)]), (4, .box [rI 0, rI 0]), (5, .box [rI 0, rI 0]), (6, .ov false [.sl (some 39) []])] [] [] (by kernel_rfl) trivial) ?_
 refine k_join (J := fun (x : (List Qr)) => [(4, .box [rI 0, rI 0]), (5, .box [rI 0, rI 0]), (6, .ov false [.sl (some 39) (x.map eRt)])]) (K := fun x => impl_ratioBounds_k1 x = some r) (fun x1 h => ?_) ?_
 ·unfold impl_ratioBounds_k1 at h
  replace h := bs' h
  obtain ⟨v2, hv2, h⟩ := h
  replace h := bs' h
  obtain ⟨v3, hv3, h⟩ := h
  refine k_sreg (r_go [(4, .box (eRt v2)), (5, .box (eRt v3))] [(1, {call := some ([.d false [.sl none (x1.map eRt)], .v (.func (.func 139) #[] #[])], [.p (vRt v2)], true)}), (3, {call := some ([.d false [.sl none (x1.map eRt)], .v (.func (.func 139) #[] #[])], [.p (vRt v3)], true)})] [([.d false [.sl none (eraL (x1.map eRt))], .v (.func (.func 139) #[] #[])] : List Arg) = [.d false [.sl none (x1.map eRt)], .v (.func (.func 139) #[] #[])], Meets Try.prog 138 ([.d false [.sl none (x1.map eRt)], .v (.func (.func 139) #[] #[])] ++ []) { vals := [.p (vRt v2)] }, (!true || List.all [.p (vRt v2)] simpleR) = true, ([.d false [.sl none (eraL (x1.map eRt))], .v (.func (.func 139) #[] #[])] : List Arg) = [.d false [.sl none (x1.map eRt)], .v (.func (.func 139) #[] #[])], Meets Try.prog 140 ([.d false [.sl none (x1.map eRt)], .v (.func (.func 139) #[] #[])] ++ []) { vals := [.p (vRt v3)] }, (!true || List.all [.p (vRt v3)] simpleR) = true] (by kernel_rfl) ⟨(by simp only [eraL_enc (h := eRt) (era_P er_I er_I)]), (wk_slices_MinFunc_Limpl_Rat_impl_Rat_v (fun x0 x1 y hy => wk_impl_compare hy) hv2), (bt rfl), (by simp only [eraL_enc (h := eRt) (era_P er_I er_I)]), (wk_slices_MaxFunc_Limpl_Rat_impl_Rat_v (fun x0 x1 y hy => wk_impl_compare hy) hv3), (bt rfl), trivial⟩) ?_
  refine k_ret ?_
  obtain rfl := oi h
  exact e_ret (ls := [(.p (vRt v2), 4), (.p (vRt v3), 5)]) (by kernel_rfl) rfl (by kernel_rfl) rfl
 ·replace h := bs' h
  obtain ⟨v4, hv4, h⟩ := h
  refine k_sreg (r_go [(1, .d false [.sl none (a1.map eI)]), (4, .box [rI 0, rI 0]), (5, .box [rI 0, rI 0]), (6, .ov false [.sl (some 39) []]), (13, .ov false [.sl (some 3) (v4.map eI)]), (14, .p (iV (v4.length : Int))), (15, .p (iV 0))] [(2, {call := some ([.d false [.sl none (a0.map (eF eI))], .d false [.sl none (a1.map eI)]], [.ov false [.sl (some 3) (v4.map eI)]], true)}), (3, {n := some v4.length})] [([.d false [.sl none (a0.map (eF eI))], .d false [.sl none (a1.map eI)]] : List Arg) = [.d false [.sl none (a0.map (eF eI))], .d false [.sl none (a1.map eI)]], Meets Try.prog 110 ([.d false [.sl none (a0.map (eF eI))], .d false [.sl none (a1.map eI)]] ++ []) { vals := [.ov false [.sl (some 3) (v4.map eI)]] }, (!true || List.all [.ov false [.sl (some 3) (v4.map eI)]] simpleR) = true, (v4.map eI).length = v4.length] (by kernel_rfl) ⟨rfl, (wk_impl_times hv4), (bt (sa_o (wnR1 (wnL_enc wn_I) rfl) rfl)), (List.length_map ..), trivial⟩) ?_
  refine k_block ?_
  obtain ⟨y6, hl_x5, hk_x5⟩ := bs' h
  clear h
  refine k_loop (J := fun (x : ((List Qr) × Int)) => [(1, .d false [.sl none (a1.map eI)]), (4, .box [rI 0, rI 0]), (5, .box [rI 0, rI 0]), (6, .ov false [.sl (some 39) (x.1.map eRt)]), (13, .ov false [.sl (some 3) (v4.map eI)]), (14, .p (iV (v4.length : Int))), (15, .p (iV x.2))]) hl_x5 (wk_of (by kernel_rfl) (by kernel_rfl)) (fun x5 o_x5 h hy_x5 => ?_)
  unfold impl_ratioBounds_b1 at h
  refine k_sreg (r_go [(1, .d false [.sl none (a1.map eI)]), (4, .box [rI 0, rI 0]), (5, .box [rI 0, rI 0]), (6, .ov false [.sl (some 39) (x5.1.map eRt)]), (13, .ov false [.sl (some 3) (v4.map eI)]), (14, .p (iV (v4.length : Int))), (15, .p (iV x5.2)), (16, .p (.bool (decide (x5.2 < (v4.length : Int)))))] [] [] (by kernel_rfl) trivial) ?_
  refine k_seq ?_
  refine k_cond (b := (decide (x5.2 < (v4.length : Int)))) (by kernel_rfl) (fun hc5_6 => ?_) (fun hc5_6 => ?_)
  ·replace h := ite_t hc5_6 h
   refine k_skip ?_
   refine q_n ?_
   refine k_seq ?_
   refine k_block ?_
   replace h := bs' h
   obtain ⟨v8, hv8, h⟩ := h
   refine k_sreg (r_go [(1, .d false [.sl none (a1.map eI)]), (4, .box [rI 0, rI 0]), (5, .box [rI 0, rI 0]), (6, .ov false [.sl (some 39) (x5.1.map eRt)]), (7, .p (iV x5.2)), (8, .p (iV v8)), (13, .ov false [.sl (some 3) (v4.map eI)]), (14, .p (iV (v4.length : Int))), (15, .p (iV x5.2))] [(1, {row := some (eI v8)}), (2, {row := some (eI v8)})] [0 ≤ x5.2, (v4.map eI)[(Int.toNat x5.2)]? = some (eI v8), getRow [[.sl (some 3) (v4.map eI)]] [(0, 0), ((Int.toNat x5.2), 0)] = some (eI v8)] (by kernel_rfl) ⟨(idxO_some hv8).1, (map_get eI (idxO_some hv8).2), ((gr0 rfl).trans (gre (map_get eI (idxO_some hv8).2))), trivial⟩) ?_
   replace h := bs' h
   obtain ⟨v9, hv9, h⟩ := h
   replace h := bs' h
   obtain ⟨v10, hv10, h⟩ := h
   refine k_sreg (r_go [(1, .d false [.sl none (a1.map eI)]), (4, .box [rI 0, rI 0]), (5, .box [rI 0, rI 0]), (6, .ov false [.sl (some 39) (x5.1.map eRt)]), (9, .box (eRt v10.1)), (13, .ov false [.sl (some 3) (v4.map eI)]), (14, .p (iV (v4.length : Int))), (15, .p (iV x5.2))] [(3, {row := some (eI v9)}), (5, {call := some ([wI v8, wI v9], [.p (vRt v10.1), .p (.bool v10.2)], true)})] [0 ≤ x5.2, (a1.map eI)[(Int.toNat x5.2)]? = some (eI v9), ([wI v8, wI v9] : List Arg) = [wI v8, wI v9], Meets Try.prog 137 ([wI v8, wI v9] ++ []) { vals := [.p (vRt v10.1), .p (.bool v10.2)] }, (!true || List.all [.p (vRt v10.1), .p (.bool v10.2)] simpleR) = true] (by kernel_rfl) ⟨(idxO_some hv9).1, (map_get eI (idxO_some hv9).2), rfl, (wk_impl_lowest hv10), (bt rfl), trivial⟩) ?_
   replace h := bs' h
   obtain ⟨u11, hu11, h⟩ := h
   refine k_reg (r_go [(1, .d false [.sl none (a1.map eI)]), (4, .box [rI 0, rI 0]), (5, .box [rI 0, rI 0]), (6, .ov false [.sl (some 39) ((x5.1 ++ [v10.1]).map eRt)]), (13, .ov false [.sl (some 3) (v4.map eI)]), (14, .p (iV (v4.length : Int))), (15, .p (iV x5.2))] [(3, {fix := some (32, .ov false [.sl (some 39) ((x5.1 ++ [v10.1]).map eRt)])})] [List.length ((x5.1.map eRt) : List (List C)) + List.length ((([v10.1]).map eRt) : List (List C)) ≤ 1099511627776, ∀ row ∈ ((([v10.1]).map eRt) : List (List C)), row.length = 2, (SV.ov false [.sl (some 39) ((x5.1.map eRt) ++ (([v10.1]).map eRt))] : SV) = .ov false [.sl (some 39) ((x5.1 ++ [v10.1]).map eRt)]] (by kernel_rfl) ⟨(by have hg := (guardO_some hu11); simpa using hg), (rows_len fun _ => rfl), (congrArg (fun z => SV.ov false [.sl (some 39) z]) (List.map_append ..).symm), trivial⟩) ?_
   refine b_n ?_
   refine q_n ?_
   refine k_reg (r_go [(1, .d false [.sl none (a1.map eI)]), (4, .box [rI 0, rI 0]), (5, .box [rI 0, rI 0]), (6, .ov false [.sl (some 39) ((x5.1 ++ [v10.1]).map eRt)]), (13, .ov false [.sl (some 3) (v4.map eI)]), (14, .p (iV (v4.length : Int))), (15, .p (iV (w64 (x5.2 + 1))))] [] [] (by kernel_rfl) trivial) ?_
   exact lq_n ((x5.1 ++ [v10.1]), (w64 (x5.2 + 1))) (oi h).symm (wk_of (by kernel_rfl) (by kernel_rfl))
  ·replace h := ite_f hc5_6 h
   refine k_exit ?_
   refine q_x ?_
   refine lq_x ?_
   refine b_x ?_
   have hyy := hy_x5 _ (oi h).symm
   subst hyy
   have h := hk_x5
   refine q_n ?_
   exact ⟨x5.1, h, (wk_of (by kernel_rfl) (by kernel_rfl))⟩
theorem wk_impl_RatioBounds {a0 : (List (List Int))} {a1 : (List Int)}  {r : (Qr × Qr × Bool)} (h : impl_RatioBounds a0 a1 = some r) : Meets Try.prog 37 [.d false [.sl none (a0.map (eF eI))], .d false [.sl none (a1.map eI)]] { vals := [.p (vRt r.1), .p (vRt r.2.1), .p (.bool r.2.2)] } := by
 refine Meets_ofL (by kernel_rfl) Try.func37 rfl (by kernel_rfl) (l0 := [(0, .d false [.sl none (a0.map (eF eI))]), (1, .d false [.sl none (a1.map eI)])]) (by kernel_rfl) ?_
 unfold impl_RatioBounds at h
 refine k_sreg (r_go [(0, .d false [.sl none (a0.map (eF eI))]), (1, .d false [.sl none (a1.map eI)]), (4, .box [rI 0, rI 0]), (5, .box [rI 0, rI 0])] [] [] (by kernel_rfl) trivial) ?_
 refine k_seq ?_
 replace h := bs' h
 obtain ⟨v1, hv1, h⟩ := h
 refine k_sreg (r_go [(0, .d false [.sl none (a0.map (eF eI))]), (1, .d false [.sl none (a1.map eI)]), (4, .box [rI 0, rI 0]), (5, .box [rI 0, rI 0]), (12, .p (.bool (!v1)))] [(2, {call := some ([.d false [.sl none (a0.map (eF eI))], .d false [.sl none (a1.map eI)]], [.p (.bool v1)], true)})] [([.d false [.sl none (a0.map (eF eI))], .d false [.sl none (a1.map eI)]] : List Arg) = [.d false [.sl none (a0.map (eF eI))], .d false [.sl none (a1.map eI)]], Meets Try.prog 105 ([.d false [.sl none (a0.map (eF eI))], .d false [.sl none (a1.map eI)]] ++ []) { vals := [.p (.bool v1)] }, (!true || List.all [.p (.bool v1)] simpleR) = true] (by kernel_rfl) ⟨rfl, (wk_impl_isVectorOf hv1), (bt rfl), trivial⟩) ?_
 refine k_cond (b := (!v1)) (by kernel_rfl) (fun hc2_1 => ?_) (fun hc2_1 => ?_)
 ·replace h := ite_t hc2_1 h
  refine k_sreg (r_go [(4, .box [rI 0, rI 0]), (5, .box [rI 0, rI 0]), (6, .p (.bool false))] [] [] (by kernel_rfl) trivial) ?_
  refine k_ret ?_
  refine q_r ?_
  obtain rfl := oi h
  exact e_ret (ls := [(.p (.agg #[.int .i64 0, .int .i64 0]), 4), (.p (.agg #[.int .i64 0, .int .i64 0]), 5), (.p (.bool false), 6)]) (by kernel_rfl) rfl (by kernel_rfl) rfl
 ·replace h := ite_f hc2_1 h
  refine k_skip ?_
  refine q_n ?_
  replace h := bs' h
  obtain ⟨v3, hv3, h⟩ := h
  refine k_sreg (r_go [(4, .box [rI 0, rI 0]), (5, .box [rI 0, rI 0]), (7, .box (eRt v3.1)), (8, .box (eRt v3.2))] [(2, {call := some ([.d false [.sl none (a0.map (eF eI))], .d false [.sl none (a1.map eI)]], [.p (vRt v3.1), .p (vRt v3.2)], true)})] [([.d false [.sl none (a0.map (eF eI))], .d false [.sl none (a1.map eI)]] : List Arg) = [.d false [.sl none (a0.map (eF eI))], .d false [.sl none (a1.map eI)]], Meets Try.prog 94 ([.d false [.sl none (a0.map (eF eI))], .d false [.sl none (a1.map eI)]] ++ []) { vals := [.p (vRt v3.1), .p (vRt v3.2)] }, (!true || List.all [.p (vRt v3.1), .p (vRt v3.2)] simpleR) = true] (by kernel_rfl) ⟨rfl, (wk_impl_ratioBounds hv3), (bt rfl), trivial⟩) ?_
  refine k_sreg (r_draw Try_mixed 3 [(2, 4)] [(4, .box (eRt v3.1)), (5, .box (eRt v3.2)), (6, .p (.bool true))] [] [] (by kernel_rfl) trivial) ?_
  refine k_ret ?_
  obtain rfl := oi h
  exact e_ret (ls := [(.p (vRt v3.1), 4), (.p (vRt v3.2), 5), (.p (.bool true), 6)]) (by kernel_rfl) rfl (by kernel_rfl) rfl
theorem wk_impl_GrowthBounds {a0 : (List (List Int))} {a1 : Int}  {r : (Qr × Qr × Bool)} (h : impl_GrowthBounds a0 a1 = some r) : Meets Try.prog 28 [.d false [.sl none (a0.map (eF eI))], wI a1] { vals := [.p (vRt r.1), .p (vRt r.2.1), .p (.bool r.2.2)] } := by
 refine Meets_ofL (by kernel_rfl) Try.func28 rfl (by kernel_rfl) (l0 := [(0, .d false [.sl none (a0.map (eF eI))]), (1, .p (iV a1))]) (by kernel_rfl) ?_
 unfold impl_GrowthBounds at h
 refine k_sreg (r_go [(0, .d false [.sl none (a0.map (eF eI))]), (1, .p (iV a1)), (4, .box [rI 0, rI 0]), (5, .box [rI 0, rI 0])] [] [] (by kernel_rfl) trivial) ?_
 replace h := bs' h
 obtain ⟨v1, hv1, h⟩ := h
 refine k_sreg (r_go [(0, .d false [.sl none (a0.map (eF eI))]), (4, .box [rI 0, rI 0]), (5, .box [rI 0, rI 0]), (7, .d false [.sl none (v1.1.map eI)]), (8, .p (.bool v1.2))] [(2, {call := some ([.d false [.sl none (a0.map (eF eI))], wI a1], [.d false [.sl none (v1.1.map eI)], .p (.bool v1.2)], false)})] [([.d false [.sl none (a0.map (eF eI))], wI a1] : List Arg) = [.d false [.sl none (a0.map (eF eI))], wI a1], Meets Try.prog 30 ([.d false [.sl none (a0.map (eF eI))], wI a1] ++ []) { vals := [.d false [.sl none (v1.1.map eI)], .p (.bool v1.2)] }, (!false || List.all [.d false [.sl none (v1.1.map eI)], .p (.bool v1.2)] simpleR) = true] (by kernel_rfl) ⟨rfl, (wk_impl_WalkVector hv1), rfl, trivial⟩) ?_
 refine k_seq ?_
 refine k_sreg (r_go [(0, .d false [.sl none (a0.map (eF eI))]), (4, .box [rI 0, rI 0]), (5, .box [rI 0, rI 0]), (7, .d false [.sl none (v1.1.map eI)]), (16, .p (.bool (!v1.2)))] [] [] (by kernel_rfl) trivial) ?_
 refine k_cond (b := (!v1.2)) (by kernel_rfl) (fun hc2_1 => ?_) (fun hc2_1 => ?_)
 ·replace h := ite_t hc2_1 h
  refine k_sreg (r_go [(4, .box [rI 0, rI 0]), (5, .box [rI 0, rI 0]), (6, .p (.bool false))] [] [] (by kernel_rfl) trivial) ?_
  refine k_ret ?_
  refine q_r ?_
  obtain rfl := oi h
  exact e_ret (ls := [(.p (.agg #[.int .i64 0, .int .i64 0]), 4), (.p (.agg #[.int .i64 0, .int .i64 0]), 5), (.p (.bool false), 6)]) (by kernel_rfl) rfl (by kernel_rfl) rfl
 ·replace h := ite_f hc2_1 h
  refine k_skip ?_
  refine q_n ?_
  replace h := bs' h
  obtain ⟨v3, hv3, h⟩ := h
  refine k_sreg (r_go [(4, .box (eRt v3.1)), (5, .box (eRt v3.2.1)), (6, .p (.bool v3.2.2))] [(2, {call := some ([.d false [.sl none (a0.map (eF eI))], .d false [.sl none (v1.1.map eI)]], [.p (vRt v3.1), .p (vRt v3.2.1), .p (.bool v3.2.2)], true)})] [([.d false [.sl none (a0.map (eF eI))], .d false [.sl none (v1.1.map eI)]] : List Arg) = [.d false [.sl none (a0.map (eF eI))], .d false [.sl none (v1.1.map eI)]], Meets Try.prog 37 ([.d false [.sl none (a0.map (eF eI))], .d false [.sl none (v1.1.map eI)]] ++ []) { vals := [.p (vRt v3.1), .p (vRt v3.2.1), .p (.bool v3.2.2)] }, (!true || List.all [.p (vRt v3.1), .p (vRt v3.2.1), .p (.bool v3.2.2)] simpleR) = true] (by kernel_rfl) ⟨rfl, (wk_impl_RatioBounds hv3), (bt rfl), trivial⟩) ?_
  refine k_ret ?_
  obtain rfl := oi h
  exact e_ret (ls := [(.p (vRt v3.1), 4), (.p (vRt v3.2.1), 5), (.p (.bool v3.2.2), 6)]) (by kernel_rfl) rfl (by kernel_rfl) rfl
theorem wk_spec_l1In {a0 : Int} {a1 : Int} {a2 : Int}  {r : Bool} (h : spec_l1In a0 a1 a2 = some r) : Meets Try.prog 78 [wI a0, wI a1, wI a2] { vals := [.p (.bool r)] } := by
 refine Meets_ofL (by kernel_rfl) Try.func78 rfl (by kernel_rfl) (l0 := [(0, .p (iV a0)), (1, .p (iV a1)), (2, .p (iV a2))]) (by kernel_rfl) ?_
 unfold spec_l1In at h
 refine k_sreg (r_go [(0, .p (iV a0)), (1, .p (iV a1)), (2, .p (iV a2))] [] [] (by kernel_rfl) trivial) ?_
 refine k_sreg (l1 := [(6, .p (.bool ((decide (a0 ≥ a1)) && (decide (a0 ≤ a2)))))]) ?_ ?_
 ·rcases ft (decide (a0 ≥ a1)) with ha0 | ha0
  ·exact RegOk.of_eq (l2 := [(6, .p (.bool ((decide (a0 ≥ a1)) && (decide (a0 ≤ a2)))))]) (r_go [(6, .p (.bool (decide (a0 ≤ a2))))] [(4, {g := some true}), (5, {g := some true}), (6, {g := some true}), (7, {b := some true})] [(decide (a0 ≥ a1)) = true, (decide (a0 ≥ a1)) = true, (decide (a0 ≥ a1)) = true, (decide (a0 ≥ a1)) = true] (by kernel_rfl) ⟨ha0, ha0, ha0, ha0, trivial⟩) (by simp [ha0])
  ·exact RegOk.of_eq (l2 := [(6, .p (.bool ((decide (a0 ≥ a1)) && (decide (a0 ≤ a2)))))]) (r_go [(6, .p (.bool false))] [(4, {g := some false}), (5, {g := some false}), (6, {g := some false}), (7, {b := some false})] [(decide (a0 ≥ a1)) = false, (decide (a0 ≥ a1)) = false, (decide (a0 ≥ a1)) = false, (decide (a0 ≥ a1)) = false] (by kernel_rfl) ⟨ha0, ha0, ha0, ha0, trivial⟩) (by simp [ha0])
 ·refine k_ret ?_
  obtain rfl := oi h
  exact e_ret (ls := [(.p (.bool ((decide (a0 ≥ a1)) && (decide (a0 ≤ a2)))), 6)]) (by kernel_rfl) rfl (by kernel_rfl) rfl
theorem wk_spec_l1All {a0 : (List Int)} {a1 : Int} {a2 : Int}  {r : Bool} (h : spec_l1All a0 a1 a2 = some r) : Meets Try.prog 88 [.d false [.sl none (a0.map eI)], wI a1, wI a2] { vals := [.p (.bool r)] } := by
 refine Meets_ofL (by kernel_rfl) Try.func88 rfl (by kernel_rfl) (l0 := [(0, .d false [.sl none (a0.map eI)]), (1, .p (iV a1)), (2, .p (iV a2))]) (by kernel_rfl) ?_
 unfold spec_l1All at h
 refine k_sreg (r_go [(0, .d false [.sl none (a0.map eI)]), (1, .p (iV a1)), (2, .p (iV a2))] [] [] (by kernel_rfl) trivial) ?_
 refine k_join (J := fun (x : Unit) => []) (K := fun x => spec_l1All_k1 x = some r) (fun x1 h => ?_) ?_
 ·unfold spec_l1All_k1 at h
  refine k_sreg (r_go [(6, .p (.bool true))] [] [] (by kernel_rfl) trivial) ?_
  refine k_ret ?_
  obtain rfl := oi h
  exact e_ret (ls := [(.p (.bool true), 6)]) (by kernel_rfl) rfl (by kernel_rfl) rfl
 ·refine k_sreg (r_go [(1, .p (iV a1)), (2, .p (iV a2)), (9, .d false [.sl none (a0.map eI)]), (10, .p (iV (a0.length : Int))), (11, .p (iV 0))] [(1, {n := some a0.length})] [(a0.map eI).length = a0.length] (by kernel_rfl) ⟨(List.length_map ..), trivial⟩) ?_
  refine k_block ?_
  obtain ⟨y3, hl_x2, hk_x2⟩ := bs' h
  clear h
  refine k_loop (J := fun (x : Int) => [(1, .p (iV a1)), (2, .p (iV a2)), (9, .d false [.sl none (a0.map eI)]), (10, .p (iV (a0.length : Int))), (11, .p (iV x))]) hl_x2 (wk_of (by kernel_rfl) (by kernel_rfl)) (fun x2 o_x2 h hy_x2 => ?_)
  unfold spec_l1All_b1 at h
  refine k_sreg (r_go [(1, .p (iV a1)), (2, .p (iV a2)), (9, .d false [.sl none (a0.map eI)]), (10, .p (iV (a0.length : Int))), (11, .p (iV x2)), (12, .p (.bool (decide (x2 < (a0.length : Int)))))] [] [] (by kernel_rfl) trivial) ?_
  refine k_seq ?_
  refine k_cond (b := (decide (x2 < (a0.length : Int)))) (by kernel_rfl) (fun hc5_3 => ?_) (fun hc5_3 => ?_)
  ·replace h := ite_t hc5_3 h
   refine k_skip ?_
   refine q_n ?_
   refine k_seq ?_
   refine k_block ?_
   replace h := bs' h
   obtain ⟨v5, hv5, h⟩ := h
   refine k_sreg (r_go [(1, .p (iV a1)), (2, .p (iV a2)), (8, .p (iV v5)), (9, .d false [.sl none (a0.map eI)]), (10, .p (iV (a0.length : Int))), (11, .p (iV x2))] [(0, {row := some (eI v5)})] [0 ≤ x2, (a0.map eI)[(Int.toNat x2)]? = some (eI v5)] (by kernel_rfl) ⟨(idxO_some hv5).1, (map_get eI (idxO_some hv5).2), trivial⟩) ?_
   replace h := bs' h
   obtain ⟨v6, hv6, h⟩ := h
   refine k_sreg (r_go [(1, .p (iV a1)), (2, .p (iV a2)), (9, .d false [.sl none (a0.map eI)]), (10, .p (iV (a0.length : Int))), (11, .p (iV x2)), (19, .p (.bool (!v6)))] [(3, {call := some ([wI v5, wI a1, wI a2], [.p (.bool v6)], true)})] [([wI v5, wI a1, wI a2] : List Arg) = [wI v5, wI a1, wI a2], Meets Try.prog 78 ([wI v5, wI a1, wI a2] ++ []) { vals := [.p (.bool v6)] }, (!true || List.all [.p (.bool v6)] simpleR) = true] (by kernel_rfl) ⟨rfl, (wk_spec_l1In hv6), (bt rfl), trivial⟩) ?_
   refine k_cond (b := (!v6)) (by kernel_rfl) (fun hc6_6 => ?_) (fun hc6_6 => ?_)
   ·replace h := ite_t hc6_6 h
    refine k_sreg (r_go [(6, .p (.bool false))] [] [] (by kernel_rfl) trivial) ?_
    refine k_ret ?_
    refine b_r ?_
    refine q_r ?_
    refine lq_r ?_
    refine b_r ?_
    refine q_r ?_
    have hyy := hy_x2 _ (oi h).symm
    subst hyy
    have h := hk_x2
    dsimp only [Sum.elim] at h
    obtain rfl := oi h
    exact e_ret (ls := [(.p (.bool false), 6)]) (by kernel_rfl) rfl (by kernel_rfl) rfl
   ·replace h := ite_f hc6_6 h
    refine k_skip ?_
    refine b_n ?_
    refine q_n ?_
    refine k_reg (r_go [(1, .p (iV a1)), (2, .p (iV a2)), (9, .d false [.sl none (a0.map eI)]), (10, .p (iV (a0.length : Int))), (11, .p (iV (w64 (x2 + 1))))] [] [] (by kernel_rfl) trivial) ?_
    exact lq_n (w64 (x2 + 1)) (oi h).symm (wk_of (by kernel_rfl) (by kernel_rfl))
  ·replace h := ite_f hc5_3 h
   refine k_exit ?_
   refine q_x ?_
   refine lq_x ?_
   refine b_x ?_
   have hyy := hy_x2 _ (oi h).symm
   subst hyy
   have h := hk_x2
   dsimp only [Sum.elim] at h
   refine q_n ?_
   exact ⟨(), h, (wk_of (by kernel_rfl) (by kernel_rfl))⟩
theorem wk_spec_grGood {a0 : (List (List Int))}  {r : Bool} (h : spec_grGood a0 = some r) : Meets Try.prog 65 [.d false [.sl none (a0.map (eF eI))]] { vals := [.p (.bool r)] } := by
 refine Meets_ofL (by kernel_rfl) Try.func65 rfl (by kernel_rfl) (l0 := [(0, .d false [.sl none (a0.map (eF eI))])]) (by kernel_rfl) ?_
 unfold spec_grGood at h
 refine k_sreg (r_go [(0, .d false [.sl none (a0.map (eF eI))])] [] [] (by kernel_rfl) trivial) ?_
 refine k_seq ?_
 replace h := bs' h
 obtain ⟨v1, hv1, h⟩ := h
 refine k_sreg (r_go [(0, .d false [.sl none (a0.map (eF eI))]), (8, .p (.bool (!v1)))] [(1, {n := some a0.length}), (2, {call := some ([wI (a0.length : Int), wI 1, wI 8], [.p (.bool v1)], true)})] [(a0.map (eF eI)).length = a0.length, ([wI (a0.length : Int), wI 1, wI 8] : List Arg) = [wI (a0.length : Int), wI 1, wI 8], Meets Try.prog 78 ([wI (a0.length : Int), wI 1, wI 8] ++ []) { vals := [.p (.bool v1)] }, (!true || List.all [.p (.bool v1)] simpleR) = true] (by kernel_rfl) ⟨(List.length_map ..), rfl, (wk_spec_l1In hv1), (bt rfl), trivial⟩) ?_
 refine k_cond (b := (!v1)) (by kernel_rfl) (fun hc2_1 => ?_) (fun hc2_1 => ?_)
 ·replace h := ite_t hc2_1 h
  refine k_sreg (r_go [(2, .p (.bool false))] [] [] (by kernel_rfl) trivial) ?_
  refine k_ret ?_
  refine q_r ?_
  obtain rfl := oi h
  exact e_ret (ls := [(.p (.bool false), 2)]) (by kernel_rfl) rfl (by kernel_rfl) rfl
 ·replace h := ite_f hc2_1 h
  refine k_skip ?_
  refine q_n ?_
  refine k_join (J := fun (x : Unit) => []) (K := fun x => spec_grGood_k1 x = some r) (fun x3 h => ?_) ?_
  ·unfold spec_grGood_k1 at h
   refine k_sreg (r_go [(2, .p (.bool true))] [] [] (by kernel_rfl) trivial) ?_
   refine k_ret ?_
   obtain rfl := oi h
   exact e_ret (ls := [(.p (.bool true), 2)]) (by kernel_rfl) rfl (by kernel_rfl) rfl
  ·refine k_sreg (r_go [(0, .d false [.sl none (a0.map (eF eI))]), (9, .d false [.sl none (a0.map (eF eI))]), (10, .p (iV (a0.length : Int))), (11, .p (iV 0))] [(1, {n := some a0.length})] [(a0.map (eF eI)).length = a0.length] (by kernel_rfl) ⟨(List.length_map ..), trivial⟩) ?_
   refine k_block ?_
   obtain ⟨y5, hl_x4, hk_x4⟩ := bs' h
   clear h
   refine k_loop (J := fun (x : Int) => [(0, .d false [.sl none (a0.map (eF eI))]), (9, .d false [.sl none (a0.map (eF eI))]), (10, .p (iV (a0.length : Int))), (11, .p (iV x))]) hl_x4 (wk_of (by kernel_rfl) (by kernel_rfl)) (fun x4 o_x4 h hy_x4 => ?_)
   unfold spec_grGood_b1 at h
   refine k_sreg (r_go [(0, .d false [.sl none (a0.map (eF eI))]), (9, .d false [.sl none (a0.map (eF eI))]), (10, .p (iV (a0.length : Int))), (11, .p (iV x4)), (12, .p (.bool (decide (x4 < (a0.length : Int)))))] [] [] (by kernel_rfl) trivial) ?_
   refine k_seq ?_
   refine k_cond (b := (decide (x4 < (a0.length : Int)))) (by kernel_rfl) (fun hc5_5 => ?_) (fun hc5_5 => ?_)
   ·replace h := ite_t hc5_5 h
    refine k_skip ?_
    refine q_n ?_
    refine k_seq ?_
    refine k_block ?_
    replace h := bs' h
    obtain ⟨v7, hv7, h⟩ := h
    refine k_sreg (r_go [(0, .d false [.sl none (a0.map (eF eI))]), (4, .d false [.sl none (v7.map eI)]), (9, .d false [.sl none (a0.map (eF eI))]), (10, .p (iV (a0.length : Int))), (11, .p (iV x4))] [(0, {row := some [.sl none (v7.map eI)]})] [0 ≤ x4, (a0.map (eF eI))[(Int.toNat x4)]? = some [.sl none (v7.map eI)]] (by kernel_rfl) ⟨(idxO_some hv7).1, (map_get (eF eI) (idxO_some hv7).2), trivial⟩) ?_
    replace h := bs' h
    obtain ⟨w9, hw9, h⟩ := h
    refine k_sreg (l1 := [(0, .d false [.sl none (a0.map (eF eI))]), (9, .d false [.sl none (a0.map (eF eI))]), (10, .p (iV (a0.length : Int))), (11, .p (iV x4)), (24, .p (.bool w9))]) ?_ ?_
    ·clear h
     rcases ft ((v7.length : Int) != (a0.length : Int)) with ha2 | ha2
     ·replace hw9 := ite_t ha2 hw9
      have hw9 := oi hw9
      subst hw9
      exact (r_go [(0, .d false [.sl none (a0.map (eF eI))]), (9, .d false [.sl none (a0.map (eF eI))]), (10, .p (iV (a0.length : Int))), (11, .p (iV x4)), (24, .p (.bool true))] [(1, {n := some v7.length}), (3, {n := some a0.length}), (6, {g := some true}), (7, {g := some true}), (8, {g := some true}), (9, {b := some true})] [(v7.map eI).length = v7.length, (a0.map (eF eI)).length = a0.length, ((v7.length : Int) != (a0.length : Int)) = true, ((v7.length : Int) != (a0.length : Int)) = true, ((v7.length : Int) != (a0.length : Int)) = true, ((v7.length : Int) != (a0.length : Int)) = true] (by kernel_rfl) ⟨(List.length_map ..), (List.length_map ..), ha2, ha2, ha2, ha2, trivial⟩)
     ·replace hw9 := ite_f ha2 hw9
      replace hw9 := bs' hw9
      obtain ⟨v8, hv8, hw9⟩ := hw9
      have hw9 := oi hw9
      subst hw9
      exact (r_go [(0, .d false [.sl none (a0.map (eF eI))]), (9, .d false [.sl none (a0.map (eF eI))]), (10, .p (iV (a0.length : Int))), (11, .p (iV x4)), (24, .p (.bool (!v8)))] [(1, {n := some v7.length}), (3, {n := some a0.length}), (6, {g := some false}), (7, {g := some false, call := some ([.d false [.sl none (v7.map eI)], wI 0, wI 9], [.p (.bool v8)], true)}), (8, {g := some false}), (9, {b := some false})] [(v7.map eI).length = v7.length, (a0.map (eF eI)).length = a0.length, ((v7.length : Int) != (a0.length : Int)) = false, ((v7.length : Int) != (a0.length : Int)) = false, ([.d false [.sl none (v7.map eI)], wI 0, wI 9] : List Arg) = [.d false [.sl none (v7.map eI)], wI 0, wI 9], Meets Try.prog 88 ([.d false [.sl none (v7.map eI)], wI 0, wI 9] ++ []) { vals := [.p (.bool v8)] }, (!true || List.all [.p (.bool v8)] simpleR) = true, ((v7.length : Int) != (a0.length : Int)) = false, ((v7.length : Int) != (a0.length : Int)) = false] (by kernel_rfl) ⟨(List.length_map ..), (List.length_map ..), ha2, ha2, rfl, (wk_spec_l1All hv8), (bt rfl), ha2, ha2, trivial⟩)
    ·refine k_cond (b := w9) (by kernel_rfl) (fun hc6_9 => ?_) (fun hc6_9 => ?_)
     ·replace h := ite_t hc6_9 h
      refine k_sreg (r_go [(2, .p (.bool false))] [] [] (by kernel_rfl) trivial) ?_
      refine k_ret ?_
      refine b_r ?_
      refine q_r ?_
      refine lq_r ?_
      refine b_r ?_
      refine q_r ?_
      have hyy := hy_x4 _ (oi h).symm
      subst hyy
      have h := hk_x4
      dsimp only [Sum.elim] at h
      obtain rfl := oi h
      exact e_ret (ls := [(.p (.bool false), 2)]) (by kernel_rfl) rfl (by kernel_rfl) rfl
     ·replace h := ite_f hc6_9 h
      refine k_skip ?_
      refine b_n ?_
      refine q_n ?_
      refine k_reg (r_go [(0, .d false [.sl none (a0.map (eF eI))]), (9, .d false [.sl none (a0.map (eF eI))]), (10, .p (iV (a0.length : Int))), (11, .p (iV (w64 (x4 + 1))))] [] [] (by kernel_rfl) trivial) ?_
      exact lq_n (w64 (x4 + 1)) (oi h).symm (wk_of (by kernel_rfl) (by kernel_rfl))
   ·replace h := ite_f hc5_5 h
    refine k_exit ?_
    refine q_x ?_
    refine lq_x ?_
    refine b_x ?_
    have hyy := hy_x4 _ (oi h).symm
    subst hyy
    have h := hk_x4
    dsimp only [Sum.elim] at h
    refine q_n ?_
    exact ⟨(), h, (wk_of (by kernel_rfl) (by kernel_rfl))⟩
theorem wk_spec_gwSteps {a0 : Int}  {r : Bool} (h : spec_gwSteps a0 = some r) : Meets Try.prog 90 [wI a0] { vals := [.p (.bool r)] } := by
 refine Meets_ofL (by kernel_rfl) Try.func90 rfl (by kernel_rfl) (l0 := [(0, .p (iV a0))]) (by kernel_rfl) ?_
 unfold spec_gwSteps at h
 refine k_sreg (r_go [(0, .p (iV a0))] [] [] (by kernel_rfl) trivial) ?_
 replace h := bs' h
 obtain ⟨v1, hv1, h⟩ := h
 refine k_sreg (r_go [(2, .p (.bool v1))] [(1, {call := some ([wI a0, wI 0, wI 20], [.p (.bool v1)], true)})] [([wI a0, wI 0, wI 20] : List Arg) = [wI a0, wI 0, wI 20], Meets Try.prog 78 ([wI a0, wI 0, wI 20] ++ []) { vals := [.p (.bool v1)] }, (!true || List.all [.p (.bool v1)] simpleR) = true] (by kernel_rfl) ⟨rfl, (wk_spec_l1In hv1), (bt rfl), trivial⟩) ?_
 refine k_ret ?_
 obtain rfl := oi h
 exact e_ret (ls := [(.p (.bool v1), 2)]) (by kernel_rfl) rfl (by kernel_rfl) rfl
theorem wk_spec_gwTimes {a0 : (List (List Int))} {a1 : (List Int)}  {r : (List Int)} (h : spec_gwTimes a0 a1 = some r) : Meets Try.prog 111 [.d false [.sl none (a0.map (eF eI))], .d false [.sl none (a1.map eI)]] { vals := [.ov false [.sl (some 3) (r.map eI)]] } := by
 refine Meets_ofL (by kernel_rfl) Try.func111 rfl (by kernel_rfl) (l0 := [(0, .d false [.sl none (a0.map (eF eI))]), (1, .d false [.sl none (a1.map eI)])]) (by kernel_rfl) ?_
 unfold spec_gwTimes at h
 refine k_sreg (r_go [(0, .d false [.sl none (a0.map (eF eI))]), (1, .d false [.sl none (a1.map eI)])] [] [] (by kernel_rfl) trivial) ?_
 refine k_sreg (r_go [(0, .d false [.sl none (a0.map (eF eI))]), (1, .d false [.sl none (a1.map eI)]), (5, .ov false [.sl (some 3) []])] [] [] (by kernel_rfl) trivial) ?_
 refine k_join (J := fun (x : (List Int)) => [(5, .ov false [.sl (some 3) (x.map eI)])]) (K := fun x => spec_gwTimes_k1 x = some r) (fun x1 h => ?_) ?_
 ·unfold spec_gwTimes_k1 at h
  refine k_sreg (r_go [(4, .ov false [.sl (some 3) (x1.map eI)])] [] [] (by kernel_rfl) trivial) ?_
  refine k_ret ?_
  obtain rfl := oi h
  exact e_ret (ls := [(.ov false [.sl (some 3) (x1.map eI)], 4)]) (by kernel_rfl) rfl (by kernel_rfl) rfl
 ·refine k_sreg (r_go [(1, .d false [.sl none (a1.map eI)]), (5, .ov false [.sl (some 3) []]), (11, .d false [.sl none (a0.map (eF eI))]), (12, .p (iV (a0.length : Int))), (13, .p (iV 0))] [(1, {n := some a0.length})] [(a0.map (eF eI)).length = a0.length] (by kernel_rfl) ⟨(List.length_map ..), trivial⟩) ?_
  refine k_block ?_
  obtain ⟨y3, hl_x2, hk_x2⟩ := bs' h
  clear h
  refine k_loop (J := fun (x : ((List Int) × Int)) => [(1, .d false [.sl none (a1.map eI)]), (5, .ov false [.sl (some 3) (x.1.map eI)]), (11, .d false [.sl none (a0.map (eF eI))]), (12, .p (iV (a0.length : Int))), (13, .p (iV x.2))]) hl_x2 (wk_of (by kernel_rfl) (by kernel_rfl)) (fun x2 o_x2 h hy_x2 => ?_)
  unfold spec_gwTimes_b1 at h
  refine k_sreg (r_go [(1, .d false [.sl none (a1.map eI)]), (5, .ov false [.sl (some 3) (x2.1.map eI)]), (11, .d false [.sl none (a0.map (eF eI))]), (12, .p (iV (a0.length : Int))), (13, .p (iV x2.2)), (14, .p (.bool (decide (x2.2 < (a0.length : Int)))))] [] [] (by kernel_rfl) trivial) ?_
  refine k_seq ?_
  refine k_cond (b := (decide (x2.2 < (a0.length : Int)))) (by kernel_rfl) (fun hc5_3 => ?_) (fun hc5_3 => ?_)
  ·replace h := ite_t hc5_3 h
   refine k_skip ?_
   refine q_n ?_
   refine k_join (J := fun (x : (List Int)) => [(1, .d false [.sl none (a1.map eI)]), (5, .ov false [.sl (some 3) (x.map eI)]), (11, .d false [.sl none (a0.map (eF eI))]), (12, .p (iV (a0.length : Int))), (13, .p (iV x2.2))]) (K := fun x => spec_gwTimes_k2 x2 x = some o_x2) (fun x5 h => ?_) ?_
   ·unfold spec_gwTimes_k2 at h
    refine k_reg (r_go [(1, .d false [.sl none (a1.map eI)]), (5, .ov false [.sl (some 3) (x5.map eI)]), (11, .d false [.sl none (a0.map (eF eI))]), (12, .p (iV (a0.length : Int))), (13, .p (iV (w64 (x2.2 + 1))))] [] [] (by kernel_rfl) trivial) ?_
    exact lq_n (x5, (w64 (x2.2 + 1))) (oi h).symm (wk_of (by kernel_rfl) (by kernel_rfl))
   ·refine k_block ?_
    replace h := bs' h
    obtain ⟨v6, hv6, h⟩ := h
    refine k_sreg (r_go [(1, .d false [.sl none (a1.map eI)]), (5, .ov false [.sl (some 3) (x2.1.map eI)]), (7, .d false [.sl none (v6.map eI)]), (11, .d false [.sl none (a0.map (eF eI))]), (12, .p (iV (a0.length : Int))), (13, .p (iV x2.2))] [(0, {row := some [.sl none (v6.map eI)]})] [0 ≤ x2.2, (a0.map (eF eI))[(Int.toNat x2.2)]? = some [.sl none (v6.map eI)]] (by kernel_rfl) ⟨(idxO_some hv6).1, (map_get (eF eI) (idxO_some hv6).2), trivial⟩) ?_
    refine k_sreg (r_go [(1, .d false [.sl none (a1.map eI)]), (5, .ov false [.sl (some 3) (x2.1.map eI)]), (7, .d false [.sl none (v6.map eI)]), (8, .p (iV 0)), (11, .d false [.sl none (a0.map (eF eI))]), (12, .p (iV (a0.length : Int))), (13, .p (iV x2.2))] [] [] (by kernel_rfl) trivial) ?_
    refine k_join (J := fun (x : Int) => [(1, .d false [.sl none (a1.map eI)]), (5, .ov false [.sl (some 3) (x2.1.map eI)]), (8, .p (iV x)), (11, .d false [.sl none (a0.map (eF eI))]), (12, .p (iV (a0.length : Int))), (13, .p (iV x2.2))]) (K := fun x => spec_gwTimes_k3 x2 x = some o_x2) (fun x7 h => ?_) ?_
    ·unfold spec_gwTimes_k3 at h
     replace h := bs' h
     obtain ⟨u8, hu8, h⟩ := h
     refine k_reg (r_go [(1, .d false [.sl none (a1.map eI)]), (5, .ov false [.sl (some 3) ((x2.1 ++ [x7]).map eI)]), (11, .d false [.sl none (a0.map (eF eI))]), (12, .p (iV (a0.length : Int))), (13, .p (iV x2.2))] [(3, {fix := some (36, .ov false [.sl (some 3) ((x2.1 ++ [x7]).map eI)])})] [List.length ((x2.1.map eI) : List (List C)) + List.length ((([x7]).map eI) : List (List C)) ≤ 1099511627776, ∀ row ∈ ((([x7]).map eI) : List (List C)), row.length = 1, (SV.ov false [.sl (some 3) ((x2.1.map eI) ++ (([x7]).map eI))] : SV) = .ov false [.sl (some 3) ((x2.1 ++ [x7]).map eI)]] (by kernel_rfl) ⟨(by have hg := (guardO_some hu8); simpa using hg), (rows_len fun _ => rfl), (congrArg (fun z => SV.ov false [.sl (some 3) z]) (List.map_append ..).symm), trivial⟩) ?_
     refine b_n ?_
     refine q_n ?_
     exact ⟨(x2.1 ++ [x7]), h, (wk_of (by kernel_rfl) (by kernel_rfl))⟩
    ·refine k_sreg (r_go [(1, .d false [.sl none (a1.map eI)]), (5, .ov false [.sl (some 3) (x2.1.map eI)]), (8, .p (iV 0)), (11, .d false [.sl none (a0.map (eF eI))]), (12, .p (iV (a0.length : Int))), (13, .p (iV x2.2)), (17, .d false [.sl none (v6.map eI)]), (18, .p (iV (v6.length : Int))), (19, .p (iV 0))] [(1, {n := some v6.length})] [(v6.map eI).length = v6.length] (by kernel_rfl) ⟨(List.length_map ..), trivial⟩) ?_
     refine k_block ?_
     obtain ⟨y10, hl_x9, hk_x9⟩ := bs' h
     clear h
     refine k_loop (J := fun (x : Qr) => [(1, .d false [.sl none (a1.map eI)]), (5, .ov false [.sl (some 3) (x2.1.map eI)]), (8, .p (iV x.1)), (11, .d false [.sl none (a0.map (eF eI))]), (12, .p (iV (a0.length : Int))), (13, .p (iV x2.2)), (17, .d false [.sl none (v6.map eI)]), (18, .p (iV (v6.length : Int))), (19, .p (iV x.2))]) hl_x9 (wk_of (by kernel_rfl) (by kernel_rfl)) (fun x9 o_x9 h hy_x9 => ?_)
     unfold spec_gwTimes_b2 at h
     refine k_sreg (r_go [(1, .d false [.sl none (a1.map eI)]), (5, .ov false [.sl (some 3) (x2.1.map eI)]), (8, .p (iV x9.1)), (11, .d false [.sl none (a0.map (eF eI))]), (12, .p (iV (a0.length : Int))), (13, .p (iV x2.2)), (17, .d false [.sl none (v6.map eI)]), (18, .p (iV (v6.length : Int))), (19, .p (iV x9.2)), (20, .p (.bool (decide (x9.2 < (v6.length : Int)))))] [] [] (by kernel_rfl) trivial) ?_
     refine k_seq ?_
     refine k_cond (b := (decide (x9.2 < (v6.length : Int)))) (by kernel_rfl) (fun hc10_10 => ?_) (fun hc10_10 => ?_)
     ·replace h := ite_t hc10_10 h
      refine k_skip ?_
      refine q_n ?_
      refine k_seq ?_
      refine k_block ?_
      replace h := bs' h
      obtain ⟨v12, hv12, h⟩ := h
      refine k_sreg (r_go [(1, .d false [.sl none (a1.map eI)]), (5, .ov false [.sl (some 3) (x2.1.map eI)]), (8, .p (iV x9.1)), (9, .p (iV x9.2)), (10, .p (iV v12)), (11, .d false [.sl none (a0.map (eF eI))]), (12, .p (iV (a0.length : Int))), (13, .p (iV x2.2)), (17, .d false [.sl none (v6.map eI)]), (18, .p (iV (v6.length : Int))), (19, .p (iV x9.2))] [(1, {row := some (eI v12)})] [0 ≤ x9.2, (v6.map eI)[(Int.toNat x9.2)]? = some (eI v12)] (by kernel_rfl) ⟨(idxO_some hv12).1, (map_get eI (idxO_some hv12).2), trivial⟩) ?_
      replace h := bs' h
      obtain ⟨v13, hv13, h⟩ := h
      refine k_reg (r_go [(1, .d false [.sl none (a1.map eI)]), (5, .ov false [.sl (some 3) (x2.1.map eI)]), (8, .p (iV (w64 (x9.1 + (w64 (v12 * v13)))))), (11, .d false [.sl none (a0.map (eF eI))]), (12, .p (iV (a0.length : Int))), (13, .p (iV x2.2)), (17, .d false [.sl none (v6.map eI)]), (18, .p (iV (v6.length : Int))), (19, .p (iV x9.2))] [(4, {row := some (eI v13)})] [0 ≤ x9.2, (a1.map eI)[(Int.toNat x9.2)]? = some (eI v13)] (by kernel_rfl) ⟨(idxO_some hv13).1, (map_get eI (idxO_some hv13).2), trivial⟩) ?_
      refine b_n ?_
      refine q_n ?_
      refine k_reg (r_go [(1, .d false [.sl none (a1.map eI)]), (5, .ov false [.sl (some 3) (x2.1.map eI)]), (8, .p (iV (w64 (x9.1 + (w64 (v12 * v13)))))), (11, .d false [.sl none (a0.map (eF eI))]), (12, .p (iV (a0.length : Int))), (13, .p (iV x2.2)), (17, .d false [.sl none (v6.map eI)]), (18, .p (iV (v6.length : Int))), (19, .p (iV (w64 (x9.2 + 1))))] [] [] (by kernel_rfl) trivial) ?_
      exact lq_n ((w64 (x9.1 + (w64 (v12 * v13)))), (w64 (x9.2 + 1))) (oi h).symm (wk_of (by kernel_rfl) (by kernel_rfl))
     ·replace h := ite_f hc10_10 h
      refine k_exit ?_
      refine q_x ?_
      refine lq_x ?_
      refine b_x ?_
      have hyy := hy_x9 _ (oi h).symm
      subst hyy
      have h := hk_x9
      refine q_n ?_
      exact ⟨x9.1, h, (wk_of (by kernel_rfl) (by kernel_rfl))⟩
  ·replace h := ite_f hc5_3 h
   refine k_exit ?_
   refine q_x ?_
   refine lq_x ?_
   refine b_x ?_
   have hyy := hy_x2 _ (oi h).symm
   subst hyy
   have h := hk_x2
   refine q_n ?_
   exact ⟨x2.1, h, (wk_of (by kernel_rfl) (by kernel_rfl))⟩
theorem wk_spec_gwVector {a0 : (List Int)}  {r : Bool} (h : spec_gwVector a0 = some r) : Meets Try.prog 113 [.d false [.sl none (a0.map eI)]] { vals := [.p (.bool r)] } := by
 refine Meets_ofL (by kernel_rfl) Try.func113 rfl (by kernel_rfl) (l0 := [(0, .d false [.sl none (a0.map eI)])]) (by kernel_rfl) ?_
 unfold spec_gwVector at h
 refine k_sreg (r_go [(0, .d false [.sl none (a0.map eI)])] [] [] (by kernel_rfl) trivial) ?_
 replace h := bs' h
 obtain ⟨v1, hv1, h⟩ := h
 replace h := bs' h
 obtain ⟨w3, hw3, h⟩ := h
 refine k_sreg (l1 := [(2, .p (.bool w3))]) ?_ ?_
 ·clear h
  rcases ft v1 with ha0 | ha0
  ·replace hw3 := ite_t ha0 hw3
   replace hw3 := bs' hw3
   obtain ⟨v2, hv2, hw3⟩ := hw3
   have hw3 := oi hw3
   subst hw3
   exact (r_go [(2, .p (.bool v2))] [(1, {n := some a0.length}), (2, {call := some ([wI (a0.length : Int), wI 1, wI 8], [.p (.bool v1)], true)}), (4, {g := some true}), (5, {g := some true, call := some ([.d false [.sl none (a0.map eI)], wI 1, wI 1000000], [.p (.bool v2)], true)}), (6, {b := some true})] [(a0.map eI).length = a0.length, ([wI (a0.length : Int), wI 1, wI 8] : List Arg) = [wI (a0.length : Int), wI 1, wI 8], Meets Try.prog 78 ([wI (a0.length : Int), wI 1, wI 8] ++ []) { vals := [.p (.bool v1)] }, (!true || List.all [.p (.bool v1)] simpleR) = true, v1 = true, v1 = true, ([.d false [.sl none (a0.map eI)], wI 1, wI 1000000] : List Arg) = [.d false [.sl none (a0.map eI)], wI 1, wI 1000000], Meets Try.prog 88 ([.d false [.sl none (a0.map eI)], wI 1, wI 1000000] ++ []) { vals := [.p (.bool v2)] }, (!true || List.all [.p (.bool v2)] simpleR) = true, v1 = true] (by kernel_rfl) ⟨(List.length_map ..), rfl, (wk_spec_l1In hv1), (bt rfl), ha0, ha0, rfl, (wk_spec_l1All hv2), (bt rfl), ha0, trivial⟩)
  ·replace hw3 := ite_f ha0 hw3
   have hw3 := oi hw3
   subst hw3
   exact (r_go [(2, .p (.bool false))] [(1, {n := some a0.length}), (2, {call := some ([wI (a0.length : Int), wI 1, wI 8], [.p (.bool v1)], true)}), (4, {g := some false}), (5, {g := some false}), (6, {b := some false})] [(a0.map eI).length = a0.length, ([wI (a0.length : Int), wI 1, wI 8] : List Arg) = [wI (a0.length : Int), wI 1, wI 8], Meets Try.prog 78 ([wI (a0.length : Int), wI 1, wI 8] ++ []) { vals := [.p (.bool v1)] }, (!true || List.all [.p (.bool v1)] simpleR) = true, v1 = false, v1 = false, v1 = false] (by kernel_rfl) ⟨(List.length_map ..), rfl, (wk_spec_l1In hv1), (bt rfl), ha0, ha0, ha0, trivial⟩)
 ·refine k_ret ?_
  obtain rfl := oi h
  exact e_ret (ls := [(.p (.bool w3), 2)]) (by kernel_rfl) rfl (by kernel_rfl) rfl
theorem wk_spec_gwWalks {a0 : (List (List Int))} {a1 : Int}  {r : ((List Int) × Bool)} (h : spec_gwWalks a0 a1 = some r) : Meets Try.prog 91 [.d false [.sl none (a0.map (eF eI))], wI a1] { vals := [.ov false [.sl (some 3) (r.1.map eI)], .p (.bool r.2)] } := by
 refine Meets_ofL (by kernel_rfl) Try.func91 rfl (by kernel_rfl) (l0 := [(0, .d false [.sl none (a0.map (eF eI))]), (1, .p (iV a1))]) (by kernel_rfl) ?_
 unfold spec_gwWalks at h
 refine k_sreg (r_go [(0, .d false [.sl none (a0.map (eF eI))]), (1, .p (iV a1))] [] [] (by kernel_rfl) trivial) ?_
 replace h := bs' h
 obtain ⟨u1, hu1, h⟩ := h
 refine k_sreg (r_go [(0, .d false [.sl none (a0.map (eF eI))]), (1, .p (iV a1)), (6, .ov false [.sl (some 3) ((List.replicate (Int.toNat (a0.length : Int)) (0 : Int)).map eI)])] [(1, {n := some a0.length}), (2, {fix := some (12, .ov false [.sl (some 3) ((List.replicate (Int.toNat (a0.length : Int)) (0 : Int)).map eI)])})] [(a0.map (eF eI)).length = a0.length, (a0.length : Int) = (a0.length : Int), 0 ≤ (a0.length : Int), (a0.length : Int) ≤ 1099511627776, (SV.ov false [.sl (some 3) (List.replicate (Int.toNat (a0.length : Int)) [rI 0])] : SV) = .ov false [.sl (some 3) ((List.replicate (Int.toNat (a0.length : Int)) (0 : Int)).map eI)]] (by kernel_rfl) ⟨(List.length_map ..), rfl, (guardO_some hu1).1, (guardO_some hu1).2, (congrArg (fun z => SV.ov false [.sl (some 3) z]) (rep_fix eI (0 : Int))), trivial⟩) ?_
 refine k_join (J := fun (x : (List Int)) => [(0, .d false [.sl none (a0.map (eF eI))]), (1, .p (iV a1)), (6, .ov false [.sl (some 3) (x.map eI)])]) (K := fun x => spec_gwWalks_k1 a0 a1 x = some r) (fun x2 h => ?_) ?_
 ·unfold spec_gwWalks_k1 at h
  refine k_join (J := fun (x : (List Int)) => [(6, .ov false [.sl (some 3) (x.map eI)])]) (K := fun x => spec_gwWalks_k2 x = some r) (fun x3 h => ?_) ?_
  ·unfold spec_gwWalks_k2 at h
   refine k_sreg (r_go [(4, .ov false [.sl (some 3) (x3.map eI)]), (5, .p (.bool true))] [] [] (by kernel_rfl) trivial) ?_
   refine k_ret ?_
   obtain rfl := oi h
   exact e_ret (ls := [(.ov false [.sl (some 3) (x3.map eI)], 4), (.p (.bool true), 5)]) (by kernel_rfl) rfl (by kernel_rfl) rfl
  ·refine k_block ?_
   obtain ⟨y5, hl_x4, hk_x4⟩ := bs' h
   clear h
   refine k_loop (J := fun (x : (Int × (List Int))) => [(0, .d false [.sl none (a0.map (eF eI))]), (1, .p (iV x.1)), (6, .ov false [.sl (some 3) (x.2.map eI)])]) hl_x4 (wk_of (by kernel_rfl) (by kernel_rfl)) (fun x4 o_x4 h hy_x4 => ?_)
   unfold spec_gwWalks_b1 at h
   refine k_seq ?_
   refine k_sreg (r_go [(0, .d false [.sl none (a0.map (eF eI))]), (1, .p (iV x4.1)), (6, .ov false [.sl (some 3) (x4.2.map eI)]), (23, .p (.bool (decide (x4.1 > 0))))] [] [] (by kernel_rfl) trivial) ?_
   refine k_cond (b := (decide (x4.1 > 0))) (by kernel_rfl) (fun hc5_5 => ?_) (fun hc5_5 => ?_)
   ·replace h := ite_t hc5_5 h
    refine k_skip ?_
    refine q_n ?_
    refine k_join (J := fun (x : (List Int)) => [(0, .d false [.sl none (a0.map (eF eI))]), (1, .p (iV x4.1)), (6, .ov false [.sl (some 3) (x.map eI)])]) (K := fun x => spec_gwWalks_k3 x4 x = some o_x4) (fun x7 h => ?_) ?_
    ·unfold spec_gwWalks_k3 at h
     refine k_reg (r_go [(0, .d false [.sl none (a0.map (eF eI))]), (1, .p (iV (w64 (x4.1 - 1)))), (6, .ov false [.sl (some 3) (x7.map eI)])] [] [] (by kernel_rfl) trivial) ?_
     exact lq_n ((w64 (x4.1 - 1)), x7) (oi h).symm (wk_of (by kernel_rfl) (by kernel_rfl))
    ·refine k_block ?_
     refine k_join (J := fun (x : (List Int)) => [(0, .d false [.sl none (a0.map (eF eI))]), (1, .p (iV x4.1)), (6, .ov false [.sl (some 3) (x.map eI)])]) (K := fun x => spec_gwWalks_k4 x4 x = some o_x4) (fun x8 h => ?_) ?_
     ·unfold spec_gwWalks_k4 at h
      replace h := bs' h
      obtain ⟨v9, hv9, h⟩ := h
      refine k_sreg (r_go [(0, .d false [.sl none (a0.map (eF eI))]), (1, .p (iV x4.1)), (6, .ov false [.sl (some 3) (x8.map eI)]), (45, .p (.bool (!v9)))] [(1, {call := some ([.d false [.sl none (x8.map eI)]], [.p (.bool v9)], true)})] [([.d false [.sl none (eraL (x8.map eI))]] : List Arg) = [.d false [.sl none (x8.map eI)]], Meets Try.prog 113 ([.d false [.sl none (x8.map eI)]] ++ []) { vals := [.p (.bool v9)] }, (!true || List.all [.p (.bool v9)] simpleR) = true] (by kernel_rfl) ⟨(by simp only [eraL_enc (h := eI) er_I]), (wk_spec_gwVector hv9), (bt rfl), trivial⟩) ?_
      refine k_cond (b := (!v9)) (by kernel_rfl) (fun hc6_9 => ?_) (fun hc6_9 => ?_)
      ·replace h := ite_t hc6_9 h
       refine k_sreg (r_go [(4, .ov false [.sl (some 3) []]), (5, .p (.bool false))] [] [] (by kernel_rfl) trivial) ?_
       refine k_ret ?_
       refine b_r ?_
       refine q_r ?_
       refine lq_r ?_
       refine b_r ?_
       refine q_r ?_
       have hyy := hy_x4 _ (oi h).symm
       subst hyy
       have h := hk_x4
       dsimp only [Sum.elim] at h
       obtain rfl := oi h
       exact e_ret (ls := [(.ov false [.sl (some 3) []], 4), (.p (.bool false), 5)]) (by kernel_rfl) rfl (by kernel_rfl) rfl
      ·replace h := ite_f hc6_9 h
       refine k_skip ?_
       refine b_n ?_
       refine q_n ?_
       exact ⟨x8, h, (wk_of (by kernel_rfl) (by kernel_rfl))⟩
     ·replace h := bs' h
      obtain ⟨v11, hv11, h⟩ := h
      refine k_sreg (r_go [(0, .d false [.sl none (a0.map (eF eI))]), (1, .p (iV x4.1)), (6, .ov false [.sl (some 3) (x4.2.map eI)]), (28, .ov false [.sl (some 3) (v11.map eI)]), (29, .p (iV (v11.length : Int))), (30, .p (iV 0))] [(2, {call := some ([.d false [.sl none (a0.map (eF eI))], .d false [.sl none (x4.2.map eI)]], [.ov false [.sl (some 3) (v11.map eI)]], true)}), (3, {n := some v11.length})] [([.d false [.sl none (a0.map (eF eI))], .d false [.sl none (eraL (x4.2.map eI))]] : List Arg) = [.d false [.sl none (a0.map (eF eI))], .d false [.sl none (x4.2.map eI)]], Meets Try.prog 111 ([.d false [.sl none (a0.map (eF eI))], .d false [.sl none (x4.2.map eI)]] ++ []) { vals := [.ov false [.sl (some 3) (v11.map eI)]] }, (!true || List.all [.ov false [.sl (some 3) (v11.map eI)]] simpleR) = true, (v11.map eI).length = v11.length] (by kernel_rfl) ⟨(by simp only [eraL_enc (h := eI) er_I]), (wk_spec_gwTimes hv11), (bt (sa_o (wnR1 (wnL_enc wn_I) rfl) rfl)), (List.length_map ..), trivial⟩) ?_
      refine k_block ?_
      obtain ⟨y13, hl_x12, hk_x12⟩ := bs' h
      clear h
      refine k_loop (J := fun (x : ((List Int) × Int)) => [(0, .d false [.sl none (a0.map (eF eI))]), (1, .p (iV x4.1)), (6, .ov false [.sl (some 3) (x.1.map eI)]), (28, .ov false [.sl (some 3) (v11.map eI)]), (29, .p (iV (v11.length : Int))), (30, .p (iV x.2))]) hl_x12 (wk_of (by kernel_rfl) (by kernel_rfl)) (fun x12 o_x12 h hy_x12 => ?_)
      unfold spec_gwWalks_b2 at h
      refine k_sreg (r_go [(0, .d false [.sl none (a0.map (eF eI))]), (1, .p (iV x4.1)), (6, .ov false [.sl (some 3) (x12.1.map eI)]), (28, .ov false [.sl (some 3) (v11.map eI)]), (29, .p (iV (v11.length : Int))), (30, .p (iV x12.2)), (31, .p (.bool (decide (x12.2 < (v11.length : Int)))))] [] [] (by kernel_rfl) trivial) ?_
      refine k_seq ?_
      refine k_cond (b := (decide (x12.2 < (v11.length : Int)))) (by kernel_rfl) (fun hc10_13 => ?_) (fun hc10_13 => ?_)
      ·replace h := ite_t hc10_13 h
       refine k_skip ?_
       refine q_n ?_
       refine k_seq ?_
       refine k_block ?_
       replace h := bs' h
       obtain ⟨v15, hv15, h⟩ := h
       refine k_sreg (r_go [(0, .d false [.sl none (a0.map (eF eI))]), (1, .p (iV x4.1)), (6, .ov false [.sl (some 3) (x12.1.map eI)]), (8, .p (iV x12.2)), (9, .p (iV v15)), (28, .ov false [.sl (some 3) (v11.map eI)]), (29, .p (iV (v11.length : Int))), (30, .p (iV x12.2))] [(1, {row := some (eI v15)}), (2, {row := some (eI v15)})] [0 ≤ x12.2, (v11.map eI)[(Int.toNat x12.2)]? = some (eI v15), getRow [[.sl (some 3) (v11.map eI)]] [(0, 0), ((Int.toNat x12.2), 0)] = some (eI v15)] (by kernel_rfl) ⟨(idxO_some hv15).1, (map_get eI (idxO_some hv15).2), ((gr0 rfl).trans (gre (map_get eI (idxO_some hv15).2))), trivial⟩) ?_
       replace h := bs' h
       obtain ⟨v16, hv16, h⟩ := h
       refine k_reg (r_go [(0, .d false [.sl none (a0.map (eF eI))]), (1, .p (iV x4.1)), (6, .ov false [.sl (some 3) ((x12.1.set (Int.toNat x12.2) (w64 (v16 + v15))).map eI)]), (28, .ov false [.sl (some 3) (v11.map eI)]), (29, .p (iV (v11.length : Int))), (30, .p (iV x12.2))] [(2, {row := some (eI v16)}), (3, {row := some (eI v16)}), (6, {row := some (eI v16)}), (7, {row := some (eI v16), fix := some (6, .ov false [.sl (some 3) ((x12.1.set (Int.toNat x12.2) (w64 (v16 + v15))).map eI)])})] [0 ≤ x12.2, (x12.1.map eI)[(Int.toNat x12.2)]? = some (eI v16), getRow [[.sl (some 3) (x12.1.map eI)]] [(0, 0), ((Int.toNat x12.2), 0)] = some (eI v16), 0 ≤ x12.2, (x12.1.map eI)[(Int.toNat x12.2)]? = some (eI v16), getRow [[.sl (some 3) (x12.1.map eI)]] [(0, 0), ((Int.toNat x12.2), 0)] = some (eI v16), (SV.ov false [.sl (some 3) (setL (x12.1.map eI) [((Int.toNat x12.2), 0)] [rI (w64 (v16 + v15))])] : SV) = .ov false [.sl (some 3) ((x12.1.set (Int.toNat x12.2) (w64 (v16 + v15))).map eI)]] (by kernel_rfl) ⟨(idxO_some hv16).1, (map_get eI (idxO_some hv16).2), ((gr0 rfl).trans (gre (map_get eI (idxO_some hv16).2))), (idxO_some hv16).1, (map_get eI (idxO_some hv16).2), ((gr0 rfl).trans (gre (map_get eI (idxO_some hv16).2))), (congrArg (fun z => SV.ov false [.sl (some 3) z]) (set1 (f := eI) (y := (w64 (v16 + v15))) (idxO_some hv16).2 rfl)), trivial⟩) ?_
       refine b_n ?_
       refine q_n ?_
       refine k_reg (r_go [(0, .d false [.sl none (a0.map (eF eI))]), (1, .p (iV x4.1)), (6, .ov false [.sl (some 3) ((x12.1.set (Int.toNat x12.2) (w64 (v16 + v15))).map eI)]), (28, .ov false [.sl (some 3) (v11.map eI)]), (29, .p (iV (v11.length : Int))), (30, .p (iV (w64 (x12.2 + 1))))] [] [] (by kernel_rfl) trivial) ?_
       exact lq_n ((x12.1.set (Int.toNat x12.2) (w64 (v16 + v15))), (w64 (x12.2 + 1))) (oi h).symm (wk_of (by kernel_rfl) (by kernel_rfl))
      ·replace h := ite_f hc10_13 h
       refine k_exit ?_
       refine q_x ?_
       refine lq_x ?_
       refine b_x ?_
       have hyy := hy_x12 _ (oi h).symm
       subst hyy
       have h := hk_x12
       refine q_n ?_
       exact ⟨x12.1, h, (wk_of (by kernel_rfl) (by kernel_rfl))⟩
   ·replace h := ite_f hc5_5 h
    refine k_exit ?_
    refine q_x ?_
    refine lq_x ?_
    refine b_x ?_
    have hyy := hy_x4 _ (oi h).symm
    subst hyy
    have h := hk_x4
    dsimp only [Sum.elim] at h
    refine q_n ?_
    exact ⟨x4.2, h, (wk_of (by kernel_rfl) (by kernel_rfl))⟩
 ·refine k_sreg (r_go [(0, .d false [.sl none (a0.map (eF eI))]), (1, .p (iV a1)), (6, .ov false [.sl (some 3) ((List.replicate (Int.toNat (a0.length : Int)) (0 : Int)).map eI)]), (14, .p (iV ((List.replicate (Int.toNat (a0.length : Int)) (0 : Int)).length : Int))), (15, .p (iV 0))] [(1, {n := some (List.replicate (Int.toNat (a0.length : Int)) (0 : Int)).length})] [((List.replicate (Int.toNat (a0.length : Int)) (0 : Int)).map eI).length = (List.replicate (Int.toNat (a0.length : Int)) (0 : Int)).length] (by kernel_rfl) ⟨(List.length_map ..), trivial⟩) ?_
  refine k_block ?_
  obtain ⟨y18, hl_x17, hk_x17⟩ := bs' h
  clear h
  refine k_loop (J := fun (x : ((List Int) × Int)) => [(0, .d false [.sl none (a0.map (eF eI))]), (1, .p (iV a1)), (6, .ov false [.sl (some 3) (x.1.map eI)]), (14, .p (iV ((List.replicate (Int.toNat (a0.length : Int)) (0 : Int)).length : Int))), (15, .p (iV x.2))]) hl_x17 (wk_of (by kernel_rfl) (by kernel_rfl)) (fun x17 o_x17 h hy_x17 => ?_)
  unfold spec_gwWalks_b3 at h
  refine k_sreg (r_go [(0, .d false [.sl none (a0.map (eF eI))]), (1, .p (iV a1)), (6, .ov false [.sl (some 3) (x17.1.map eI)]), (14, .p (iV ((List.replicate (Int.toNat (a0.length : Int)) (0 : Int)).length : Int))), (15, .p (iV x17.2)), (16, .p (.bool (decide (x17.2 < ((List.replicate (Int.toNat (a0.length : Int)) (0 : Int)).length : Int)))))] [] [] (by kernel_rfl) trivial) ?_
  refine k_seq ?_
  refine k_cond (b := (decide (x17.2 < ((List.replicate (Int.toNat (a0.length : Int)) (0 : Int)).length : Int)))) (by kernel_rfl) (fun hc5_18 => ?_) (fun hc5_18 => ?_)
  ·replace h := ite_t hc5_18 h
   refine k_skip ?_
   refine q_n ?_
   refine k_seq ?_
   refine k_block ?_
   refine k_sreg (r_go [(0, .d false [.sl none (a0.map (eF eI))]), (1, .p (iV a1)), (6, .ov false [.sl (some 3) (x17.1.map eI)]), (7, .p (iV x17.2)), (14, .p (iV ((List.replicate (Int.toNat (a0.length : Int)) (0 : Int)).length : Int))), (15, .p (iV x17.2))] [] [] (by kernel_rfl) trivial) ?_
   replace h := bs' h
   obtain ⟨v20, hv20, h⟩ := h
   refine k_reg (r_go [(0, .d false [.sl none (a0.map (eF eI))]), (1, .p (iV a1)), (6, .ov false [.sl (some 3) ((x17.1.set (Int.toNat x17.2) 1).map eI)]), (14, .p (iV ((List.replicate (Int.toNat (a0.length : Int)) (0 : Int)).length : Int))), (15, .p (iV x17.2))] [(2, {row := some (eI v20)}), (3, {row := some (eI v20), fix := some (6, .ov false [.sl (some 3) ((x17.1.set (Int.toNat x17.2) 1).map eI)])})] [0 ≤ x17.2, (x17.1.map eI)[(Int.toNat x17.2)]? = some (eI v20), getRow [[.sl (some 3) (x17.1.map eI)]] [(0, 0), ((Int.toNat x17.2), 0)] = some (eI v20), (SV.ov false [.sl (some 3) (setL (x17.1.map eI) [((Int.toNat x17.2), 0)] [rI 1])] : SV) = .ov false [.sl (some 3) ((x17.1.set (Int.toNat x17.2) 1).map eI)]] (by kernel_rfl) ⟨(idxO_some hv20).1, (map_get eI (idxO_some hv20).2), ((gr0 rfl).trans (gre (map_get eI (idxO_some hv20).2))), (congrArg (fun z => SV.ov false [.sl (some 3) z]) (set1 (f := eI) (y := 1) (idxO_some hv20).2 rfl)), trivial⟩) ?_
   refine b_n ?_
   refine q_n ?_
   refine k_reg (r_go [(0, .d false [.sl none (a0.map (eF eI))]), (1, .p (iV a1)), (6, .ov false [.sl (some 3) ((x17.1.set (Int.toNat x17.2) 1).map eI)]), (14, .p (iV ((List.replicate (Int.toNat (a0.length : Int)) (0 : Int)).length : Int))), (15, .p (iV (w64 (x17.2 + 1))))] [] [] (by kernel_rfl) trivial) ?_
   exact lq_n ((x17.1.set (Int.toNat x17.2) 1), (w64 (x17.2 + 1))) (oi h).symm (wk_of (by kernel_rfl) (by kernel_rfl))
  ·replace h := ite_f hc5_18 h
   refine k_exit ?_
   refine q_x ?_
   refine lq_x ?_
   refine b_x ?_
   have hyy := hy_x17 _ (oi h).symm
   subst hyy
   have h := hk_x17
   refine q_n ?_
   exact ⟨x17.1, h, (wk_of (by kernel_rfl) (by kernel_rfl))⟩
theorem wk_spec_l1Most {a0 : Int} {a1 : Int}  {r : Int} (h : spec_l1Most a0 a1 = some r) : Meets Try.prog 156 [wI a0, wI a1] { vals := [.p (iV r)] } := by
 refine Meets_ofL (by kernel_rfl) Try.func156 rfl (by kernel_rfl) (l0 := [(0, .p (iV a0)), (1, .p (iV a1))]) (by kernel_rfl) ?_
 unfold spec_l1Most at h
 refine k_sreg (r_go [(0, .p (iV a0)), (1, .p (iV a1))] [] [] (by kernel_rfl) trivial) ?_
 refine k_seq ?_
 refine k_sreg (r_go [(0, .p (iV a0)), (1, .p (iV a1)), (7, .p (.bool (decide (a0 > a1))))] [] [] (by kernel_rfl) trivial) ?_
 refine k_cond (b := (decide (a0 > a1))) (by kernel_rfl) (fun hc2_0 => ?_) (fun hc2_0 => ?_)
 ·replace h := ite_t hc2_0 h
  refine k_sreg (r_go [(4, .p (iV a0))] [] [] (by kernel_rfl) trivial) ?_
  refine k_ret ?_
  refine q_r ?_
  obtain rfl := oi h
  exact e_ret (ls := [(.p (iV a0), 4)]) (by kernel_rfl) rfl (by kernel_rfl) rfl
 ·replace h := ite_f hc2_0 h
  refine k_skip ?_
  refine q_n ?_
  refine k_sreg (r_go [(4, .p (iV a1))] [] [] (by kernel_rfl) trivial) ?_
  refine k_ret ?_
  obtain rfl := oi h
  exact e_ret (ls := [(.p (iV a1), 4)]) (by kernel_rfl) rfl (by kernel_rfl) rfl
theorem wk_spec_l1Abs {a0 : Int}  {r : Int} (h : spec_l1Abs a0 = some r) : Meets Try.prog 146 [wI a0] { vals := [.p (iV r)] } := by
 refine Meets_ofL (by kernel_rfl) Try.func146 rfl (by kernel_rfl) (l0 := [(0, .p (iV a0))]) (by kernel_rfl) ?_
 unfold spec_l1Abs at h
 refine k_sreg (r_go [(0, .p (iV a0))] [] [] (by kernel_rfl) trivial) ?_
 replace h := bs' h
 obtain ⟨v1, hv1, h⟩ := h
 refine k_sreg (r_go [(2, .p (iV v1))] [(3, {call := some ([wI a0, wI (w64 (0 - a0))], [.p (iV v1)], true)})] [([wI a0, wI (w64 (0 - a0))] : List Arg) = [wI a0, wI (w64 (0 - a0))], Meets Try.prog 156 ([wI a0, wI (w64 (0 - a0))] ++ []) { vals := [.p (iV v1)] }, (!true || List.all [.p (iV v1)] simpleR) = true] (by kernel_rfl) ⟨rfl, (wk_spec_l1Most hv1), (bt rfl), trivial⟩) ?_
 refine k_ret ?_
 obtain rfl := oi h
 exact e_ret (ls := [(.p (iV v1), 2)]) (by kernel_rfl) rfl (by kernel_rfl) rfl
theorem wk_spec_raCommon {a0 : Int} {a1 : Int}  {r : Int} (h : spec_raCommon a0 a1 = some r) : Meets Try.prog 145 [wI a0, wI a1] { vals := [.p (iV r)] } := by
 refine Meets_ofL (by kernel_rfl) Try.func145 rfl (by kernel_rfl) (l0 := [(0, .p (iV a0)), (1, .p (iV a1))]) (by kernel_rfl) ?_
 unfold spec_raCommon at h
 refine k_sreg (r_go [(0, .p (iV a0)), (1, .p (iV a1))] [] [] (by kernel_rfl) trivial) ?_
 refine k_join (J := fun (x : Int) => [(0, .p (iV x))]) (K := fun x => spec_raCommon_k1 x = some r) (fun x1 h => ?_) ?_
 ·unfold spec_raCommon_k1 at h
  refine k_sreg (r_go [(4, .p (iV x1))] [] [] (by kernel_rfl) trivial) ?_
  refine k_ret ?_
  obtain rfl := oi h
  exact e_ret (ls := [(.p (iV x1), 4)]) (by kernel_rfl) rfl (by kernel_rfl) rfl
 ·refine k_block ?_
  obtain ⟨y3, hl_x2, hk_x2⟩ := bs' h
  clear h
  refine k_loop (J := fun (x : Qr) => [(0, .p (iV x.1)), (1, .p (iV x.2))]) hl_x2 (wk_of (by kernel_rfl) (by kernel_rfl)) (fun x2 o_x2 h hy_x2 => ?_)
  unfold spec_raCommon_b1 at h
  refine k_seq ?_
  refine k_sreg (r_go [(0, .p (iV x2.1)), (1, .p (iV x2.2)), (7, .p (.bool (decide (x2.2 > 0))))] [] [] (by kernel_rfl) trivial) ?_
  refine k_cond (b := (decide (x2.2 > 0))) (by kernel_rfl) (fun hc5_3 => ?_) (fun hc5_3 => ?_)
  ·replace h := ite_t hc5_3 h
   refine k_skip ?_
   refine q_n ?_
   refine k_block ?_
   replace h := bs' h
   obtain ⟨u5, hu5, h⟩ := h
   refine k_sreg (r_go [(1, .p (iV x2.2)), (5, .p (iV (Int.tmod x2.1 x2.2)))] [] [x2.2 ≠ (0 : Int)] (by kernel_rfl) ⟨(guardO_some hu5), trivial⟩) ?_
   refine k_sreg (r_go [(0, .p (iV x2.2)), (5, .p (iV (Int.tmod x2.1 x2.2)))] [] [] (by kernel_rfl) trivial) ?_
   refine k_reg (r_go [(0, .p (iV x2.2)), (1, .p (iV (Int.tmod x2.1 x2.2)))] [] [] (by kernel_rfl) trivial) ?_
   refine b_n ?_
   exact lq_n (x2.2, (Int.tmod x2.1 x2.2)) (oi h).symm (wk_of (by kernel_rfl) (by kernel_rfl))
  ·replace h := ite_f hc5_3 h
   refine k_exit ?_
   refine q_x ?_
   refine lq_x ?_
   refine b_x ?_
   have hyy := hy_x2 _ (oi h).symm
   subst hyy
   have h := hk_x2
   refine q_n ?_
   exact ⟨x2.1, h, (wk_of (by kernel_rfl) (by kernel_rfl))⟩
end Go.PV

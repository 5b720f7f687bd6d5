/-
  Walks through the functions that the law reaches: each answers as its plain definition does.
  Conditions: none.
-/
import Derived.KernelRfl
import Derived.Test.YteppmfabggkiiaaWExactLiftOrbitPartA
import Derived.Test.YteppmfabggkiiaaProg
open Go Go.PV Go.Proofs
set_option linter.all false
namespace Go.PV
attribute [local irreducible] pvC pvL pvD sOp seqQ blockQ Meets MeetsB Ok OkL RegOk agree endQ seqL blockL loopQ endL endLB
theorem wk_impl_calc_slope {a0 : Bool} {a1 : Qp} {a2 : Qp}  {r : (Qr × Bool)} (h : impl_calc_slope a0 a1 a2 = some r) : MeetsB Try.prog 109 (.box [.raw (.bool a0)]) [.v (vPt a1), .v (vPt a2)] [.p (vRt r.1)] (.box [.raw (.bool r.2)]) := by
 refine MeetsB_ofL (by kernel_rfl) Try.func109 rfl (by kernel_rfl) rfl (l0 := [(0, .box [.raw (.bool a0)]), (1, .p (vPt a1)), (2, .p (vPt a2))]) (by kernel_rfl) ?_
 unfold impl_calc_slope at h
 refine k_sreg (r_go [(0, .box [.raw (.bool a0)]), (4, .box (ePt a1)), (5, .box (ePt a2)), (6, .box [.raw (.int .i64 0), .raw (.int .i64 0)])] [] [] (by kernel_rfl) trivial) ?_
 replace h := bind_some' h
 obtain ⟨v1, hv1, h⟩ := h
 replace h := bind_some' h
 obtain ⟨v2, hv2, h⟩ := h
 replace h := bind_some' h
 obtain ⟨v3, hv3, h⟩ := h
 refine k_sreg (r_draw Try_mixed 13 [(6, 0), (12, 0)] [(0, .box [.raw (.bool v3.2)]), (6, .box (eRt v3.1))] [(6, {lend := some ([.v (vRt a2.2), .v (vRt a1.2)], [.p (vRt v1.1)], .box [.raw (.bool v1.2)], true)}), (12, {lend := some ([.v (vRt a2.1), .v (vRt a1.1)], [.p (vRt v2.1)], .box [.raw (.bool v2.2)], true)}), (13, {lend := some ([.v (vRt v1.1), .v (vRt v2.1)], [.p (vRt v3.1)], .box [.raw (.bool v3.2)], true)})] [([.v (vRt a2.2), .v (vRt a1.2)] : List Arg) = [.v (vRt a2.2), .v (vRt a1.2)], MeetsB Try.prog 62 (.box [.raw (.bool a0)]) [.v (vRt a2.2), .v (vRt a1.2)] [.p (vRt v1.1)] (.box [.raw (.bool v1.2)]), List.all [.p (vRt v1.1)] simpleR = true, ([.v (vRt a2.1), .v (vRt a1.1)] : List Arg) = [.v (vRt a2.1), .v (vRt a1.1)], MeetsB Try.prog 62 (.box [.raw (.bool v1.2)]) [.v (vRt a2.1), .v (vRt a1.1)] [.p (vRt v2.1)] (.box [.raw (.bool v2.2)]), List.all [.p (vRt v2.1)] simpleR = true, ([.v (vRt v1.1), .v (vRt v2.1)] : List Arg) = [.v (vRt v1.1), .v (vRt v2.1)], MeetsB Try.prog 61 (.box [.raw (.bool v2.2)]) [.v (vRt v1.1), .v (vRt v2.1)] [.p (vRt v3.1)] (.box [.raw (.bool v3.2)]), (!true || (List.all [.p (vRt v3.1)] simpleR && wnS (.box [.raw (.bool v3.2)]))) = true] (by kernel_rfl) ⟨rfl, (wk_impl_calc_sub hv1), rfl, rfl, (wk_impl_calc_sub hv2), rfl, rfl, (wk_impl_calc_div hv3), (bt (ls_t rfl (wnc rfl))), trivial⟩) ?_
 refine k_ret ?_
 obtain rfl := Option.some.inj h
 exact eb_ret (ls := [(.p (vRt v3.1), 6)]) (by kernel_rfl) rfl rfl (by kernel_rfl) (by kernel_rfl)
theorem wk_impl_MultiplyRats {a0 : Qr} {a1 : Qr}  {r : (Qr × Bool)} (h : impl_MultiplyRats a0 a1 = some r) : Meets Try.prog 116 [.v (vRt a0), .v (vRt a1)] { vals := [.p (vRt r.1), .p (.bool r.2)] } := by
 refine Meets_ofL (by kernel_rfl) Try.func116 rfl (by kernel_rfl) (l0 := [(0, .p (vRt a0)), (1, .p (vRt a1))]) (by kernel_rfl) ?_
 unfold impl_MultiplyRats at h
 refine k_sreg (r_go [(2, .box (eRt a0)), (3, .box (eRt a1)), (4, .box [.raw (.int .i64 0), .raw (.int .i64 0)])] [] [] (by kernel_rfl) trivial) ?_
 refine k_seq ?_
 replace h := bind_some' h
 obtain ⟨v1, hv1, h⟩ := h
 refine k_sreg (r_go [(2, .box (eRt a0)), (3, .box (eRt a1)), (4, .box [.raw (.int .i64 0), .raw (.int .i64 0)]), (10, .p (.bool (!v1)))] [(3, {call := some ([.d false [.sl none (([a0, a1]).map eRt)]], [.p (.bool v1)], true)})] [([.d false [.sl none (eraL (([a0, a1]).map eRt))]] : List Arg) = [.d false [.sl none (([a0, a1]).map eRt)]], Meets Try.prog 95 ([.d false [.sl none (([a0, a1]).map eRt)]] ++ []) { vals := [.p (.bool v1)] }, (!true || List.all [.p (.bool v1)] simpleR) = true] (by kernel_rfl) ⟨(by simp only [eraL_enc (h := eRt) (era_P er_I er_I)]), (wk_impl_areRats hv1), (bt rfl), trivial⟩) ?_
 refine k_cond (b := (!v1)) (by kernel_rfl) (fun hc2_1 => ?_) (fun hc2_1 => ?_)
 ·replace h := ite_t hc2_1 h
  refine k_sreg (r_go [(4, .box [.raw (.int .i64 0), .raw (.int .i64 0)]), (5, .p (.bool false))] [] [] (by kernel_rfl) trivial) ?_
  refine k_ret ?_
  refine q_r ?_
  obtain rfl := Option.some.inj h
  exact e_ret (ls := [(.p (.agg #[.int .i64 0, .int .i64 0]), 4), (.p (.bool false), 5)]) (by kernel_rfl) rfl (by kernel_rfl) rfl
 ·replace h := ite_f hc2_1 h
  refine k_skip ?_
  refine q_n ?_
  replace h := bind_some' h
  obtain ⟨v3, hv3, h⟩ := h
  refine k_sreg (r_go [(4, .box (eRt v3.1)), (5, .p (.bool v3.2))] [(10, {call := some ([.v (.int .i64 (w64 (a0.1 * a1.1))), .v (.int .i64 (w64 (a0.2 * a1.2)))], [.p (vRt v3.1), .p (.bool v3.2)], true)})] [([.v (.int .i64 (w64 (a0.1 * a1.1))), .v (.int .i64 (w64 (a0.2 * a1.2)))] : List Arg) = [.v (.int .i64 (w64 (a0.1 * a1.1))), .v (.int .i64 (w64 (a0.2 * a1.2)))], Meets Try.prog 67 ([.v (.int .i64 (w64 (a0.1 * a1.1))), .v (.int .i64 (w64 (a0.2 * a1.2)))] ++ []) { vals := [.p (vRt v3.1), .p (.bool v3.2)] }, (!true || List.all [.p (vRt v3.1), .p (.bool v3.2)] simpleR) = true] (by kernel_rfl) ⟨rfl, (wk_impl_lowest hv3), (bt rfl), trivial⟩) ?_
  refine k_ret ?_
  obtain rfl := Option.some.inj h
  exact e_ret (ls := [(.p (vRt v3.1), 4), (.p (.bool v3.2), 5)]) (by kernel_rfl) rfl (by kernel_rfl) rfl
theorem wk_impl_calc_mul {a0 : Bool} {a1 : Qr} {a2 : Qr}  {r : (Qr × Bool)} (h : impl_calc_mul a0 a1 a2 = some r) : MeetsB Try.prog 115 (.box [.raw (.bool a0)]) [.v (vRt a1), .v (vRt a2)] [.p (vRt r.1)] (.box [.raw (.bool r.2)]) := by
 refine MeetsB_ofL (by kernel_rfl) Try.func115 rfl (by kernel_rfl) rfl (l0 := [(0, .box [.raw (.bool a0)]), (1, .p (vRt a1)), (2, .p (vRt a2))]) (by kernel_rfl) ?_
 unfold impl_calc_mul at h
 refine k_sreg (r_go [(0, .box [.raw (.bool a0)]), (4, .box (eRt a1)), (5, .box (eRt a2)), (6, .box [.raw (.int .i64 0), .raw (.int .i64 0)])] [] [] (by kernel_rfl) trivial) ?_
 replace h := bind_some' h
 obtain ⟨v1, hv1, h⟩ := h
 replace h := bind_some' h
 obtain ⟨v2, hv2, h⟩ := h
 refine k_sreg (r_go [(0, .box [.raw (.bool v2.2)]), (6, .box (eRt v2.1))] [(3, {call := some ([.v (vRt a1), .v (vRt a2)], [.p (vRt v1.1), .p (.bool v1.2)], true)}), (6, {lend := some ([.v (vRt v1.1), .v (.bool v1.2)], [.p (vRt v2.1)], .box [.raw (.bool v2.2)], true)})] [([.v (vRt a1), .v (vRt a2)] : List Arg) = [.v (vRt a1), .v (vRt a2)], Meets Try.prog 116 ([.v (vRt a1), .v (vRt a2)] ++ []) { vals := [.p (vRt v1.1), .p (.bool v1.2)] }, (!true || List.all [.p (vRt v1.1), .p (.bool v1.2)] simpleR) = true, ([.v (vRt v1.1), .v (.bool v1.2)] : List Arg) = [.v (vRt v1.1), .v (.bool v1.2)], MeetsB Try.prog 66 (.box [.raw (.bool a0)]) [.v (vRt v1.1), .v (.bool v1.2)] [.p (vRt v2.1)] (.box [.raw (.bool v2.2)]), (!true || (List.all [.p (vRt v2.1)] simpleR && wnS (.box [.raw (.bool v2.2)]))) = true] (by kernel_rfl) ⟨rfl, (wk_impl_MultiplyRats hv1), (bt rfl), rfl, (wk_impl_calc_keep hv2), (bt (ls_t rfl (wnc rfl))), trivial⟩) ?_
 refine k_ret ?_
 obtain rfl := Option.some.inj h
 exact eb_ret (ls := [(.p (vRt v2.1), 6)]) (by kernel_rfl) rfl rfl (by kernel_rfl) (by kernel_rfl)
theorem wk_impl_calc_add {a0 : Bool} {a1 : Qr} {a2 : Qr}  {r : (Qr × Bool)} (h : impl_calc_add a0 a1 a2 = some r) : MeetsB Try.prog 85 (.box [.raw (.bool a0)]) [.v (vRt a1), .v (vRt a2)] [.p (vRt r.1)] (.box [.raw (.bool r.2)]) := by
 refine MeetsB_ofL (by kernel_rfl) Try.func85 rfl (by kernel_rfl) rfl (l0 := [(0, .box [.raw (.bool a0)]), (1, .p (vRt a1)), (2, .p (vRt a2))]) (by kernel_rfl) ?_
 unfold impl_calc_add at h
 refine k_sreg (r_go [(0, .box [.raw (.bool a0)]), (4, .box (eRt a1)), (5, .box (eRt a2)), (6, .box [.raw (.int .i64 0), .raw (.int .i64 0)])] [] [] (by kernel_rfl) trivial) ?_
 replace h := bind_some' h
 obtain ⟨v1, hv1, h⟩ := h
 replace h := bind_some' h
 obtain ⟨v2, hv2, h⟩ := h
 refine k_sreg (r_go [(0, .box [.raw (.bool v2.2)]), (6, .box (eRt v2.1))] [(3, {call := some ([.v (vRt a1), .v (vRt a2)], [.p (vRt v1.1), .p (.bool v1.2)], true)}), (6, {lend := some ([.v (vRt v1.1), .v (.bool v1.2)], [.p (vRt v2.1)], .box [.raw (.bool v2.2)], true)})] [([.v (vRt a1), .v (vRt a2)] : List Arg) = [.v (vRt a1), .v (vRt a2)], Meets Try.prog 57 ([.v (vRt a1), .v (vRt a2)] ++ []) { vals := [.p (vRt v1.1), .p (.bool v1.2)] }, (!true || List.all [.p (vRt v1.1), .p (.bool v1.2)] simpleR) = true, ([.v (vRt v1.1), .v (.bool v1.2)] : List Arg) = [.v (vRt v1.1), .v (.bool v1.2)], MeetsB Try.prog 66 (.box [.raw (.bool a0)]) [.v (vRt v1.1), .v (.bool v1.2)] [.p (vRt v2.1)] (.box [.raw (.bool v2.2)]), (!true || (List.all [.p (vRt v2.1)] simpleR && wnS (.box [.raw (.bool v2.2)]))) = true] (by kernel_rfl) ⟨rfl, (wk_impl_AddRats hv1), (bt rfl), rfl, (wk_impl_calc_keep hv2), (bt (ls_t rfl (wnc rfl))), trivial⟩) ?_
 refine k_ret ?_
 obtain rfl := Option.some.inj h
 exact eb_ret (ls := [(.p (vRt v2.1), 6)]) (by kernel_rfl) rfl rfl (by kernel_rfl) (by kernel_rfl)
theorem wk_impl_calc_line {a0 : Bool} {a1 : Qp} {a2 : Qr} {a3 : Qr}  {r : (Qr × Bool)} (h : impl_calc_line a0 a1 a2 a3 = some r) : MeetsB Try.prog 108 (.box [.raw (.bool a0)]) [.v (vPt a1), .v (vRt a2), .v (vRt a3)] [.p (vRt r.1)] (.box [.raw (.bool r.2)]) := by
 refine MeetsB_ofL (by kernel_rfl) Try.func108 rfl (by kernel_rfl) rfl (l0 := [(0, .box [.raw (.bool a0)]), (1, .p (vPt a1)), (2, .p (vRt a2)), (3, .p (vRt a3))]) (by kernel_rfl) ?_
 unfold impl_calc_line at h
 refine k_sreg (r_go [(0, .box [.raw (.bool a0)]), (5, .box (ePt a1)), (6, .box (eRt a2)), (7, .box (eRt a3)), (8, .box [.raw (.int .i64 0), .raw (.int .i64 0)])] [] [] (by kernel_rfl) trivial) ?_
 replace h := bind_some' h
 obtain ⟨v1, hv1, h⟩ := h
 replace h := bind_some' h
 obtain ⟨v2, hv2, h⟩ := h
 replace h := bind_some' h
 obtain ⟨v3, hv3, h⟩ := h
 refine k_sreg (r_draw Try_mixed 11 [(9, 0), (10, 0)] [(0, .box [.raw (.bool v3.2)]), (8, .box (eRt v3.1))] [(9, {lend := some ([.v (vRt a3), .v (vRt a1.1)], [.p (vRt v1.1)], .box [.raw (.bool v1.2)], true)}), (10, {lend := some ([.v (vRt a2), .v (vRt v1.1)], [.p (vRt v2.1)], .box [.raw (.bool v2.2)], true)}), (11, {lend := some ([.v (vRt a1.2), .v (vRt v2.1)], [.p (vRt v3.1)], .box [.raw (.bool v3.2)], true)})] [([.v (vRt a3), .v (vRt a1.1)] : List Arg) = [.v (vRt a3), .v (vRt a1.1)], MeetsB Try.prog 62 (.box [.raw (.bool a0)]) [.v (vRt a3), .v (vRt a1.1)] [.p (vRt v1.1)] (.box [.raw (.bool v1.2)]), List.all [.p (vRt v1.1)] simpleR = true, ([.v (vRt a2), .v (vRt v1.1)] : List Arg) = [.v (vRt a2), .v (vRt v1.1)], MeetsB Try.prog 115 (.box [.raw (.bool v1.2)]) [.v (vRt a2), .v (vRt v1.1)] [.p (vRt v2.1)] (.box [.raw (.bool v2.2)]), List.all [.p (vRt v2.1)] simpleR = true, ([.v (vRt a1.2), .v (vRt v2.1)] : List Arg) = [.v (vRt a1.2), .v (vRt v2.1)], MeetsB Try.prog 85 (.box [.raw (.bool v2.2)]) [.v (vRt a1.2), .v (vRt v2.1)] [.p (vRt v3.1)] (.box [.raw (.bool v3.2)]), (!true || (List.all [.p (vRt v3.1)] simpleR && wnS (.box [.raw (.bool v3.2)]))) = true] (by kernel_rfl) ⟨rfl, (wk_impl_calc_sub hv1), rfl, rfl, (wk_impl_calc_mul hv2), rfl, rfl, (wk_impl_calc_add hv3), (bt (ls_t rfl (wnc rfl))), trivial⟩) ?_
 refine k_ret ?_
 obtain rfl := Option.some.inj h
 exact eb_ret (ls := [(.p (vRt v3.1), 8)]) (by kernel_rfl) rfl rfl (by kernel_rfl) (by kernel_rfl)
theorem wk_impl_calc_value {a0 : Bool} {a1 : (List Qp)} {a2 : Qr}  {r : (Qr × Bool)} (h : impl_calc_value a0 a1 a2 = some r) : MeetsB Try.prog 86 (.box [.raw (.bool a0)]) [.d false [.sl none (a1.map ePt)], .v (vRt a2)] [.p (vRt r.1)] (.box [.raw (.bool r.2)]) := by
 refine MeetsB_ofL (by kernel_rfl) Try.func86 rfl (by kernel_rfl) rfl (l0 := [(0, .box [.raw (.bool a0)]), (1, .d false [.sl none (a1.map ePt)]), (2, .p (vRt a2))]) (by kernel_rfl) ?_
 unfold impl_calc_value at h
 refine k_sreg (r_go [(0, .box [.raw (.bool a0)]), (1, .d false [.sl none (a1.map ePt)]), (5, .box (eRt a2)), (6, .box [.raw (.int .i64 0), .raw (.int .i64 0)])] [] [] (by kernel_rfl) trivial) ?_
 replace h := bind_some' h
 obtain ⟨v1, hv1, h⟩ := h
 refine k_sreg (r_go [(0, .box [.raw (.bool a0)]), (1, .d false [.sl none (a1.map ePt)]), (5, .box (eRt a2)), (6, .box [.raw (.int .i64 0), .raw (.int .i64 0)]), (7, .p (.int .i64 v1))] [(2, {call := some ([.d false [.sl none (a1.map ePt)], .v (vRt a2)], [.p (.int .i64 v1)], true)})] [([.d false [.sl none (a1.map ePt)], .v (vRt a2)] : List Arg) = [.d false [.sl none (a1.map ePt)], .v (vRt a2)], Meets Try.prog 107 ([.d false [.sl none (a1.map ePt)], .v (vRt a2)] ++ []) { vals := [.p (.int .i64 v1)] }, (!true || List.all [.p (.int .i64 v1)] simpleR) = true] (by kernel_rfl) ⟨rfl, (wk_impl_pieceAt hv1), (bt rfl), trivial⟩) ?_
 replace h := bind_some' h
 obtain ⟨v2, hv2, h⟩ := h
 replace h := bind_some' h
 obtain ⟨v3, hv3, h⟩ := h
 replace h := bind_some' h
 obtain ⟨v4, hv4, h⟩ := h
 replace h := bind_some' h
 obtain ⟨v5, hv5, h⟩ := h
 refine k_sreg (r_draw Try_mixed 17 [(15, 0)] [(0, .box [.raw (.bool v5.2)]), (6, .box (eRt v5.1))] [(3, {row := some (ePt v2)}), (8, {row := some (ePt v2)}), (13, {row := some (ePt v3)}), (15, {lend := some ([.v (vPt v2), .v (vPt v3)], [.p (vRt v4.1)], .box [.raw (.bool v4.2)], true)}), (17, {lend := some ([.v (vPt v2), .v (vRt v4.1), .v (vRt a2)], [.p (vRt v5.1)], .box [.raw (.bool v5.2)], true)})] [0 ≤ v1, (a1.map ePt)[(Int.toNat v1)]? = some (ePt v2), 0 ≤ v1, (a1.map ePt)[(Int.toNat v1)]? = some (ePt v2), 0 ≤ (w64 (v1 + 1)), (a1.map ePt)[(Int.toNat (w64 (v1 + 1)))]? = some (ePt v3), ([.v (vPt v2), .v (vPt v3)] : List Arg) = [.v (vPt v2), .v (vPt v3)], MeetsB Try.prog 109 (.box [.raw (.bool a0)]) [.v (vPt v2), .v (vPt v3)] [.p (vRt v4.1)] (.box [.raw (.bool v4.2)]), List.all [.p (vRt v4.1)] simpleR = true, ([.v (vPt v2), .v (vRt v4.1), .v (vRt a2)] : List Arg) = [.v (vPt v2), .v (vRt v4.1), .v (vRt a2)], MeetsB Try.prog 108 (.box [.raw (.bool v4.2)]) [.v (vPt v2), .v (vRt v4.1), .v (vRt a2)] [.p (vRt v5.1)] (.box [.raw (.bool v5.2)]), (!true || (List.all [.p (vRt v5.1)] simpleR && wnS (.box [.raw (.bool v5.2)]))) = true] (by kernel_rfl) ⟨(idxO_some hv2).1, (map_get ePt (idxO_some hv2).2), (idxO_some hv2).1, (map_get ePt (idxO_some hv2).2), (idxO_some hv3).1, (map_get ePt (idxO_some hv3).2), rfl, (wk_impl_calc_slope hv4), rfl, rfl, (wk_impl_calc_line hv5), (bt (ls_t rfl (wnc rfl))), trivial⟩) ?_
 refine k_ret ?_
 obtain rfl := Option.some.inj h
 exact eb_ret (ls := [(.p (vRt v5.1), 6)]) (by kernel_rfl) rfl rfl (by kernel_rfl) (by kernel_rfl)
theorem wk_impl_calc_lift {a0 : Bool} {a1 : (List Qp)} {a2 : Qr}  {r : (Qr × Bool)} (h : impl_calc_lift a0 a1 a2 = some r) : MeetsB Try.prog 43 (.box [.raw (.bool a0)]) [.d true [.sl none (a1.map ePt)], .v (vRt a2)] [.p (vRt r.1)] (.box [.raw (.bool r.2)]) := by
 refine MeetsB_ofL (by kernel_rfl) Try.func43 rfl (by kernel_rfl) rfl (l0 := [(0, .box [.raw (.bool a0)]), (1, .d true [.sl none (a1.map ePt)]), (2, .p (vRt a2))]) (by kernel_rfl) ?_
 unfold impl_calc_lift at h
 refine k_sreg (r_go [(0, .box [.raw (.bool a0)]), (4, .box [.sl none (a1.map ePt)]), (5, .box (eRt a2)), (6, .box [.raw (.int .i64 0), .raw (.int .i64 0)])] [] [] (by kernel_rfl) trivial) ?_
 replace h := bind_some' h
 obtain ⟨v1, hv1, h⟩ := h
 replace h := bind_some' h
 obtain ⟨v2, hv2, h⟩ := h
 refine k_sreg (r_go [(0, .box [.raw (.bool a0)]), (4, .box [.sl none (a1.map ePt)]), (5, .box (eRt a2)), (6, .box [.raw (.int .i64 0), .raw (.int .i64 0)]), (7, .box (eRt v2))] [(1, {call := some ([.v (vRt a2)], [.p (.int .i64 v1)], true)}), (2, {call := some ([.v (.int .i64 v1)], [.p (vRt v2)], true)})] [([.v (vRt a2)] : List Arg) = [.v (vRt a2)], Meets Try.prog 65 ([.v (vRt a2)] ++ []) { vals := [.p (.int .i64 v1)] }, (!true || List.all [.p (.int .i64 v1)] simpleR) = true, ([.v (.int .i64 v1)] : List Arg) = [.v (.int .i64 v1)], Meets Try.prog 58 ([.v (.int .i64 v1)] ++ []) { vals := [.p (vRt v2)] }, (!true || List.all [.p (vRt v2)] simpleR) = true] (by kernel_rfl) ⟨rfl, (wk_impl_floor hv1), (bt rfl), rfl, (wk_impl_whole hv2), (bt rfl), trivial⟩) ?_
 replace h := bind_some' h
 obtain ⟨v3, hv3, h⟩ := h
 replace h := bind_some' h
 obtain ⟨v4, hv4, h⟩ := h
 replace h := bind_some' h
 obtain ⟨v5, hv5, h⟩ := h
 refine k_sreg (r_draw Try_mixed 10 [(7, 0), (8, 0)] [(0, .box [.raw (.bool v5.2)]), (6, .box (eRt v5.1))] [(3, {b := some true}), (7, {lend := some ([.v (vRt a2), .v (vRt v2)], [.p (vRt v3.1)], .box [.raw (.bool v3.2)], true)}), (8, {lend := some ([.d false [.sl none (a1.map ePt)], .v (vRt v3.1)], [.p (vRt v4.1)], .box [.raw (.bool v4.2)], true)}), (10, {lend := some ([.v (vRt v4.1), .v (vRt v2)], [.p (vRt v5.1)], .box [.raw (.bool v5.2)], true)})] [frR [.sl none (a1.map ePt)] = true, ([.v (vRt a2), .v (vRt v2)] : List Arg) = [.v (vRt a2), .v (vRt v2)], MeetsB Try.prog 62 (.box [.raw (.bool a0)]) [.v (vRt a2), .v (vRt v2)] [.p (vRt v3.1)] (.box [.raw (.bool v3.2)]), List.all [.p (vRt v3.1)] simpleR = true, ([.d false [.sl none (a1.map ePt)], .v (vRt v3.1)] : List Arg) = [.d false [.sl none (a1.map ePt)], .v (vRt v3.1)], MeetsB Try.prog 86 (.box [.raw (.bool v3.2)]) [.d false [.sl none (a1.map ePt)], .v (vRt v3.1)] [.p (vRt v4.1)] (.box [.raw (.bool v4.2)]), List.all [.p (vRt v4.1)] simpleR = true, ([.v (vRt v4.1), .v (vRt v2)] : List Arg) = [.v (vRt v4.1), .v (vRt v2)], MeetsB Try.prog 85 (.box [.raw (.bool v4.2)]) [.v (vRt v4.1), .v (vRt v2)] [.p (vRt v5.1)] (.box [.raw (.bool v5.2)]), (!true || (List.all [.p (vRt v5.1)] simpleR && wnS (.box [.raw (.bool v5.2)]))) = true] (by kernel_rfl) ⟨(frR1 (frL_enc (fr_P (fr_P fr_I fr_I) (fr_P fr_I fr_I))) rfl), rfl, (wk_impl_calc_sub hv3), rfl, rfl, (wk_impl_calc_value hv4), rfl, rfl, (wk_impl_calc_add hv5), (bt (ls_t rfl (wnc rfl))), trivial⟩) ?_
 refine k_ret ?_
 obtain rfl := Option.some.inj h
 exact eb_ret (ls := [(.p (vRt v5.1), 6)]) (by kernel_rfl) rfl rfl (by kernel_rfl) (by kernel_rfl)
theorem wk_impl_liftOrbit {a0 : (List Qp)} {a1 : Qr} {a2 : Int}  {r : ((List Qr) × Bool)} (h : impl_liftOrbit a0 a1 a2 = some r) : Meets Try.prog 73 [.d true [.sl none (a0.map ePt)], .v (vRt a1), .v (.int .i64 a2)] { vals := [.ov false [.sl (some 28) (r.1.map eRt)], .p (.bool r.2)] } := by
 refine Meets_ofL (by kernel_rfl) Try.func73 rfl (by kernel_rfl) (l0 := [(0, .d true [.sl none (a0.map ePt)]), (1, .p (vRt a1)), (2, .p (.int .i64 a2))]) (by kernel_rfl) ?_
 unfold impl_liftOrbit at h
 refine k_sreg (r_go [(2, .p (.int .i64 a2)), (3, .box [.sl none (a0.map ePt)]), (4, .box (eRt a1))] [] [] (by kernel_rfl) trivial) ?_
 refine k_sreg (r_go [(2, .p (.int .i64 a2)), (3, .box [.sl none (a0.map ePt)]), (4, .box (eRt a1)), (8, .box [.raw (.bool false)])] [] [] (by kernel_rfl) trivial) ?_
 refine k_sreg (r_go [(2, .p (.int .i64 a2)), (3, .box [.sl none (a0.map ePt)]), (4, .box (eRt a1)), (8, .box [.raw (.bool false)]), (9, .ov false [.sl (some 28) (([a1]).map eRt)])] [] [] (by kernel_rfl) trivial) ?_
 refine k_join (J := fun (x : (List Qr)) => [(9, .ov false [.sl (some 28) (x.map eRt)])]) (K := fun x => impl_liftOrbit_k1 x = some r) (fun x1 h => ?_) ?_
 ·unfold impl_liftOrbit_k1 at h
  refine k_sreg (r_go [(6, .ov false [.sl (some 28) (x1.map eRt)]), (7, .p (.bool true))] [] [] (by kernel_rfl) trivial) ?_
  refine k_ret ?_
  obtain rfl := Option.some.inj h
  exact e_ret (ls := [(.ov false [.sl (some 28) (x1.map eRt)], 6), (.p (.bool true), 7)]) (by kernel_rfl) rfl (by kernel_rfl) rfl
 ·refine k_sreg (r_go [(3, .box [.sl none (a0.map ePt)]), (4, .box (eRt a1)), (8, .box [.raw (.bool false)]), (9, .ov false [.sl (some 28) (([a1]).map eRt)]), (12, .p (.int .i64 a2)), (13, .p (.int .i64 0))] [] [] (by kernel_rfl) trivial) ?_
  refine k_block ?_
  obtain ⟨y3, hl_x2, hk_x2⟩ := bind_some' h
  clear h
  refine k_loop (J := fun (x : (Int × Int × Bool × (List Qr) × Int)) => [(3, .box [.sl none (a0.map ePt)]), (4, .box [.raw (.int .i64 x.1), .raw (.int .i64 x.2.1)]), (8, .box [.raw (.bool x.2.2.1)]), (9, .ov false [.sl (some 28) (x.2.2.2.1.map eRt)]), (12, .p (.int .i64 a2)), (13, .p (.int .i64 x.2.2.2.2))]) hl_x2 (wk_of (by kernel_rfl) (by kernel_rfl)) (fun x2 o_x2 h hy_x2 => ?_)
  unfold impl_liftOrbit_b1 at h
  refine k_sreg (r_go [(3, .box [.sl none (a0.map ePt)]), (4, .box [.raw (.int .i64 x2.1), .raw (.int .i64 x2.2.1)]), (8, .box [.raw (.bool x2.2.2.1)]), (9, .ov false [.sl (some 28) (x2.2.2.2.1.map eRt)]), (12, .p (.int .i64 a2)), (13, .p (.int .i64 x2.2.2.2.2)), (14, .p (.bool (decide (x2.2.2.2.2 < a2))))] [] [] (by kernel_rfl) trivial) ?_
  refine k_seq ?_
  refine k_cond (b := (decide (x2.2.2.2.2 < a2))) (by kernel_rfl) (fun hc5_3 => ?_) (fun hc5_3 => ?_)
  ·replace h := ite_t hc5_3 h
   refine k_skip ?_
   refine q_n ?_
   refine k_seq ?_
   refine k_block ?_
   refine k_seq ?_
   replace h := bind_some' h
   obtain ⟨v5, hv5, h⟩ := h
   refine k_sreg (r_go [(3, .box [.sl none (a0.map ePt)]), (4, .box [.raw (.int .i64 x2.1), .raw (.int .i64 x2.2.1)]), (8, .box [.raw (.bool x2.2.2.1)]), (9, .ov false [.sl (some 28) (x2.2.2.2.1.map eRt)]), (12, .p (.int .i64 a2)), (13, .p (.int .i64 x2.2.2.2.2)), (17, .p (.bool (!v5)))] [(1, {call := some ([.v (.agg #[.int .i64 x2.1, .int .i64 x2.2.1])], [.p (.bool v5)], true)})] [([.v (.agg #[.int .i64 x2.1, .int .i64 x2.2.1])] : List Arg) = [.v (.agg #[.int .i64 x2.1, .int .i64 x2.2.1])], Meets Try.prog 42 ([.v (.agg #[.int .i64 x2.1, .int .i64 x2.2.1])] ++ []) { vals := [.p (.bool v5)] }, (!true || List.all [.p (.bool v5)] simpleR) = true] (by kernel_rfl) ⟨rfl, (wk_impl_isFar hv5), (bt rfl), trivial⟩) ?_
   refine k_cond (b := (!v5)) (by kernel_rfl) (fun hc7_5 => ?_) (fun hc7_5 => ?_)
   ·replace h := ite_t hc7_5 h
    refine k_sreg (r_go [(6, .ov false [.sl (some 28) []]), (7, .p (.bool false))] [] [] (by kernel_rfl) trivial) ?_
    refine k_ret ?_
    refine q_r ?_
    refine b_r ?_
    refine q_r ?_
    refine lq_r ?_
    refine b_r ?_
    refine q_r ?_
    have hyy := hy_x2 _ (Option.some.inj h).symm
    subst hyy
    have h := hk_x2
    dsimp only [Sum.elim] at h
    obtain rfl := Option.some.inj h
    exact e_ret (ls := [(.ov false [.sl (some 28) []], 6), (.p (.bool false), 7)]) (by kernel_rfl) rfl (by kernel_rfl) rfl
   ·replace h := ite_f hc7_5 h
    refine k_skip ?_
    refine q_n ?_
    refine k_seq ?_
    replace h := bind_some' h
    obtain ⟨v7, hv7, h⟩ := h
    refine k_sreg (r_go [(3, .box [.sl none (a0.map ePt)]), (4, .box (eRt v7.1)), (8, .box [.raw (.bool v7.2)]), (9, .ov false [.sl (some 28) (x2.2.2.2.1.map eRt)]), (12, .p (.int .i64 a2)), (13, .p (.int .i64 x2.2.2.2.2))] [(0, {b := some true}), (2, {lend := some ([.d true [.sl none (a0.map ePt)], .v (.agg #[.int .i64 x2.1, .int .i64 x2.2.1])], [.p (vRt v7.1)], .box [.raw (.bool v7.2)], true)})] [frR [.sl none (a0.map ePt)] = true, ([.d true [.sl none (a0.map ePt)], .v (.agg #[.int .i64 x2.1, .int .i64 x2.2.1])] : List Arg) = [.d true [.sl none (a0.map ePt)], .v (.agg #[.int .i64 x2.1, .int .i64 x2.2.1])], MeetsB Try.prog 43 (.box [.raw (.bool x2.2.2.1)]) [.d true [.sl none (a0.map ePt)], .v (.agg #[.int .i64 x2.1, .int .i64 x2.2.1])] [.p (vRt v7.1)] (.box [.raw (.bool v7.2)]), (!true || (List.all [.p (vRt v7.1)] simpleR && wnS (.box [.raw (.bool v7.2)]))) = true] (by kernel_rfl) ⟨(frR1 (frL_enc (fr_P (fr_P fr_I fr_I) (fr_P fr_I fr_I))) rfl), rfl, (wk_impl_calc_lift hv7), (bt (ls_t rfl (wnc rfl))), trivial⟩) ?_
    refine k_sreg (r_go [(3, .box [.sl none (a0.map ePt)]), (4, .box (eRt v7.1)), (8, .box [.raw (.bool v7.2)]), (9, .ov false [.sl (some 28) (x2.2.2.2.1.map eRt)]), (12, .p (.int .i64 a2)), (13, .p (.int .i64 x2.2.2.2.2)), (22, .p (.bool v7.2))] [] [] (by kernel_rfl) trivial) ?_
    refine k_cond (b := v7.2) (by kernel_rfl) (fun hc7_7 => ?_) (fun hc7_7 => ?_)
    ·replace h := ite_t hc7_7 h
     refine k_sreg (r_go [(6, .ov false [.sl (some 28) []]), (7, .p (.bool false))] [] [] (by kernel_rfl) trivial) ?_
     refine k_ret ?_
     refine q_r ?_
     refine b_r ?_
     refine q_r ?_
     refine lq_r ?_
     refine b_r ?_
     refine q_r ?_
     have hyy := hy_x2 _ (Option.some.inj h).symm
     subst hyy
     have h := hk_x2
     dsimp only [Sum.elim] at h
     obtain rfl := Option.some.inj h
     exact e_ret (ls := [(.ov false [.sl (some 28) []], 6), (.p (.bool false), 7)]) (by kernel_rfl) rfl (by kernel_rfl) rfl
    ·replace h := ite_f hc7_7 h
     refine k_skip ?_
     refine q_n ?_
     replace h := bind_some' h
     obtain ⟨u9, hu9, h⟩ := h
     refine k_reg (r_go [(3, .box [.sl none (a0.map ePt)]), (4, .box (eRt v7.1)), (8, .box [.raw (.bool v7.2)]), (9, .ov false [.sl (some 28) ((x2.2.2.2.1 ++ [v7.1]).map eRt)]), (12, .p (.int .i64 a2)), (13, .p (.int .i64 x2.2.2.2.2))] [(3, {fix := some (26, .ov false [.sl (some 28) ((x2.2.2.2.1 ++ [v7.1]).map eRt)])})] [List.length ((x2.2.2.2.1.map eRt) : List (List C)) + List.length ((([v7.1]).map eRt) : List (List C)) ≤ 1099511627776, ∀ row ∈ ((([v7.1]).map eRt) : List (List C)), row.length = 2, (SV.ov false [.sl (some 28) ((x2.2.2.2.1.map eRt) ++ (([v7.1]).map eRt))] : SV) = .ov false [.sl (some 28) ((x2.2.2.2.1 ++ [v7.1]).map eRt)]] (by kernel_rfl) ⟨(by have hg := (guardO_some hu9); simpa using hg), (rows_len fun _ => rfl), (congrArg (fun z => SV.ov false [.sl (some 28) z]) (List.map_append ..).symm), trivial⟩) ?_
     refine b_n ?_
     refine q_n ?_
     refine k_reg (r_go [(3, .box [.sl none (a0.map ePt)]), (4, .box (eRt v7.1)), (8, .box [.raw (.bool v7.2)]), (9, .ov false [.sl (some 28) ((x2.2.2.2.1 ++ [v7.1]).map eRt)]), (12, .p (.int .i64 a2)), (13, .p (.int .i64 (w64 (x2.2.2.2.2 + 1))))] [] [] (by kernel_rfl) trivial) ?_
     exact lq_n (v7.1.1, v7.1.2, v7.2, (x2.2.2.2.1 ++ [v7.1]), (w64 (x2.2.2.2.2 + 1))) (Option.some.inj h).symm (wk_of (by kernel_rfl) (by kernel_rfl))
  ·replace h := ite_f hc5_3 h
   refine k_exit ?_
   refine q_x ?_
   refine lq_x ?_
   refine b_x ?_
   have hyy := hy_x2 _ (Option.some.inj h).symm
   subst hyy
   have h := hk_x2
   dsimp only [Sum.elim] at h
   refine q_n ?_
   exact ⟨x2.2.2.2.1, h, (wk_of (by kernel_rfl) (by kernel_rfl))⟩
theorem wk_impl_LiftOrbit {a0 : (List Qp)} {a1 : Qr} {a2 : Int}  {r : ((List Qr) × Bool)} (h : impl_LiftOrbit a0 a1 a2 = some r) : Meets Try.prog 31 [.d true [.sl none (a0.map ePt)], .v (vRt a1), .v (.int .i64 a2)] { vals := [.ov false [.sl (some 28) (r.1.map eRt)], .p (.bool r.2)] } := by
 refine Meets_ofL (by kernel_rfl) Try.func31 rfl (by kernel_rfl) (l0 := [(0, .d true [.sl none (a0.map ePt)]), (1, .p (vRt a1)), (2, .p (.int .i64 a2))]) (by kernel_rfl) ?_
 unfold impl_LiftOrbit at h
 refine k_sreg (r_go [(2, .p (.int .i64 a2)), (3, .box [.sl none (a0.map ePt)]), (4, .box (eRt a1))] [] [] (by kernel_rfl) trivial) ?_
 refine k_seq ?_
 replace h := bind_some' h
 obtain ⟨v1, hv1, h⟩ := h
 replace h := bind_some' h
 obtain ⟨w4, hw4, h⟩ := h
 refine k_sreg (l1 := [(2, .p (.int .i64 a2)), (3, .box [.sl none (a0.map ePt)]), (4, .box (eRt a1)), (20, .p (.bool w4))]) ?_ ?_
 ·clear h
  rcases Bool.eq_false_or_eq_true (!v1) with ha0 | ha0
  ·replace hw4 := ite_t ha0 hw4
   have hw4 := Option.some.inj hw4
   subst hw4
   exact (r_go [(2, .p (.int .i64 a2)), (3, .box [.sl none (a0.map ePt)]), (4, .box (eRt a1)), (20, .p (.bool true))] [(0, {b := some true}), (1, {call := some ([.d true [.sl none (a0.map ePt)]], [.p (.bool v1)], true)}), (4, {g := some true}), (5, {g := some true}), (6, {g := some true}), (7, {b := some true}), (9, {g := some true}), (10, {g := some true}), (11, {g := some true}), (12, {b := some true})] [frR [.sl none (a0.map ePt)] = true, ([.d true [.sl none (a0.map ePt)]] : List Arg) = [.d true [.sl none (a0.map ePt)]], Meets Try.prog 41 ([.d true [.sl none (a0.map ePt)]] ++ []) { vals := [.p (.bool v1)] }, (!true || List.all [.p (.bool v1)] simpleR) = true, (!v1) = true, (!v1) = true, (!v1) = true, (!v1) = true, true = true, true = true, true = true, true = true] (by kernel_rfl) ⟨(frR1 (frL_enc (fr_P (fr_P fr_I fr_I) (fr_P fr_I fr_I))) rfl), rfl, (wk_impl_isLift hv1), (bt rfl), ha0, ha0, ha0, ha0, rfl, rfl, rfl, rfl, trivial⟩)
  ·replace hw4 := ite_f ha0 hw4
   replace hw4 := bind_some' hw4
   obtain ⟨v2, hv2, hw4⟩ := hw4
   rcases Bool.eq_false_or_eq_true (!v2) with ha1 | ha1
   ·replace hw4 := ite_t ha1 hw4
    have hw4 := Option.some.inj hw4
    subst hw4
    exact (r_go [(2, .p (.int .i64 a2)), (3, .box [.sl none (a0.map ePt)]), (4, .box (eRt a1)), (20, .p (.bool true))] [(0, {b := some true}), (1, {call := some ([.d true [.sl none (a0.map ePt)]], [.p (.bool v1)], true)}), (4, {g := some false}), (5, {g := some false, call := some ([.v (vRt a1)], [.p (.bool v2)], true)}), (6, {g := some false}), (7, {b := some false}), (9, {g := some true}), (10, {g := some true}), (11, {g := some true}), (12, {b := some true})] [frR [.sl none (a0.map ePt)] = true, ([.d true [.sl none (a0.map ePt)]] : List Arg) = [.d true [.sl none (a0.map ePt)]], Meets Try.prog 41 ([.d true [.sl none (a0.map ePt)]] ++ []) { vals := [.p (.bool v1)] }, (!true || List.all [.p (.bool v1)] simpleR) = true, (!v1) = false, (!v1) = false, ([.v (vRt a1)] : List Arg) = [.v (vRt a1)], Meets Try.prog 42 ([.v (vRt a1)] ++ []) { vals := [.p (.bool v2)] }, (!true || List.all [.p (.bool v2)] simpleR) = true, (!v1) = false, (!v1) = false, (!v2) = true, (!v2) = true, (!v2) = true, (!v2) = true] (by kernel_rfl) ⟨(frR1 (frL_enc (fr_P (fr_P fr_I fr_I) (fr_P fr_I fr_I))) rfl), rfl, (wk_impl_isLift hv1), (bt rfl), ha0, ha0, rfl, (wk_impl_isFar hv2), (bt rfl), ha0, ha0, ha1, ha1, ha1, ha1, trivial⟩)
   ·replace hw4 := ite_f ha1 hw4
    replace hw4 := bind_some' hw4
    obtain ⟨v3, hv3, hw4⟩ := hw4
    have hw4 := Option.some.inj hw4
    subst hw4
    exact (r_go [(2, .p (.int .i64 a2)), (3, .box [.sl none (a0.map ePt)]), (4, .box (eRt a1)), (20, .p (.bool (!v3)))] [(0, {b := some true}), (1, {call := some ([.d true [.sl none (a0.map ePt)]], [.p (.bool v1)], true)}), (4, {g := some false}), (5, {g := some false, call := some ([.v (vRt a1)], [.p (.bool v2)], true)}), (6, {g := some false}), (7, {b := some false}), (9, {g := some false}), (10, {g := some false, call := some ([.v (.int .i64 a2), .v (.int .i64 0), .v (.int .i64 60)], [.p (.bool v3)], true)}), (11, {g := some false}), (12, {b := some false})] [frR [.sl none (a0.map ePt)] = true, ([.d true [.sl none (a0.map ePt)]] : List Arg) = [.d true [.sl none (a0.map ePt)]], Meets Try.prog 41 ([.d true [.sl none (a0.map ePt)]] ++ []) { vals := [.p (.bool v1)] }, (!true || List.all [.p (.bool v1)] simpleR) = true, (!v1) = false, (!v1) = false, ([.v (vRt a1)] : List Arg) = [.v (vRt a1)], Meets Try.prog 42 ([.v (vRt a1)] ++ []) { vals := [.p (.bool v2)] }, (!true || List.all [.p (.bool v2)] simpleR) = true, (!v1) = false, (!v1) = false, (!v2) = false, (!v2) = false, ([.v (.int .i64 a2), .v (.int .i64 0), .v (.int .i64 60)] : List Arg) = [.v (.int .i64 a2), .v (.int .i64 0), .v (.int .i64 60)], Meets Try.prog 72 ([.v (.int .i64 a2), .v (.int .i64 0), .v (.int .i64 60)] ++ []) { vals := [.p (.bool v3)] }, (!true || List.all [.p (.bool v3)] simpleR) = true, (!v2) = false, (!v2) = false] (by kernel_rfl) ⟨(frR1 (frL_enc (fr_P (fr_P fr_I fr_I) (fr_P fr_I fr_I))) rfl), rfl, (wk_impl_isLift hv1), (bt rfl), ha0, ha0, rfl, (wk_impl_isFar hv2), (bt rfl), ha0, ha0, ha1, ha1, rfl, (wk_impl_within hv3), (bt rfl), ha1, ha1, trivial⟩)
 ·refine k_cond (b := w4) (by kernel_rfl) (fun hc2_4 => ?_) (fun hc2_4 => ?_)
  ·replace h := ite_t hc2_4 h
   refine k_sreg (r_go [(6, .ov false [.sl (some 28) []]), (7, .p (.bool false))] [] [] (by kernel_rfl) trivial) ?_
   refine k_ret ?_
   refine q_r ?_
   obtain rfl := Option.some.inj h
   exact e_ret (ls := [(.ov false [.sl (some 28) []], 6), (.p (.bool false), 7)]) (by kernel_rfl) rfl (by kernel_rfl) rfl
  ·replace h := ite_f hc2_4 h
   refine k_skip ?_
   refine q_n ?_
   replace h := bind_some' h
   obtain ⟨v6, hv6, h⟩ := h
   refine k_sreg (r_go [(6, .ov false [.sl (some 28) (v6.1.map eRt)]), (7, .p (.bool v6.2))] [(0, {b := some true}), (3, {call := some ([.d true [.sl none (a0.map ePt)], .v (vRt a1), .v (.int .i64 a2)], [.ov false [.sl (some 28) (v6.1.map eRt)], .p (.bool v6.2)], true)})] [frR [.sl none (a0.map ePt)] = true, ([.d true [.sl none (a0.map ePt)], .v (vRt a1), .v (.int .i64 a2)] : List Arg) = [.d true [.sl none (a0.map ePt)], .v (vRt a1), .v (.int .i64 a2)], Meets Try.prog 73 ([.d true [.sl none (a0.map ePt)], .v (vRt a1), .v (.int .i64 a2)] ++ []) { vals := [.ov false [.sl (some 28) (v6.1.map eRt)], .p (.bool v6.2)] }, (!true || List.all [.ov false [.sl (some 28) (v6.1.map eRt)], .p (.bool v6.2)] simpleR) = true] (by kernel_rfl) ⟨(frR1 (frL_enc (fr_P (fr_P fr_I fr_I) (fr_P fr_I fr_I))) rfl), rfl, (wk_impl_liftOrbit hv6), (bt (sa_o (wnR1 (wnL_enc (wn_P wn_I wn_I)) rfl) (sa_p rfl))), trivial⟩) ?_
   refine k_ret ?_
   obtain rfl := Option.some.inj h
   exact e_ret (ls := [(.ov false [.sl (some 28) (v6.1.map eRt)], 6), (.p (.bool v6.2), 7)]) (by kernel_rfl) rfl (by kernel_rfl) rfl
theorem wk_laws_eqRat {a0 : Qr} {a1 : Qr}  {r : Bool} (h : laws_eqRat a0 a1 = some r) : Meets Try.prog 16 [.v (vRt a0), .v (vRt a1)] { vals := [.p (.bool r)] } := by
 refine Meets_ofL (by kernel_rfl) Try.func16 rfl (by kernel_rfl) (l0 := [(0, .p (vRt a0)), (1, .p (vRt a1))]) (by kernel_rfl) ?_
 unfold laws_eqRat at h
 refine k_sreg (r_go [(2, .box (eRt a0)), (3, .box (eRt a1))] [] [] (by kernel_rfl) trivial) ?_
 refine k_seq ?_
 refine k_sreg (r_go [(2, .box (eRt a0)), (3, .box (eRt a1)), (9, .p (.bool (a0.1 != a1.1)))] [] [] (by kernel_rfl) trivial) ?_
 refine k_cond (b := (a0.1 != a1.1)) (by kernel_rfl) (fun hc2_0 => ?_) (fun hc2_0 => ?_)
 ·replace h := ite_t hc2_0 h
  refine k_sreg (r_go [(4, .p (.bool false))] [] [] (by kernel_rfl) trivial) ?_
  refine k_ret ?_
  refine q_r ?_
  obtain rfl := Option.some.inj h
  exact e_ret (ls := [(.p (.bool false), 4)]) (by kernel_rfl) rfl (by kernel_rfl) rfl
 ·replace h := ite_f hc2_0 h
  refine k_skip ?_
  refine q_n ?_
  refine k_seq ?_
  refine k_sreg (r_go [(14, .p (.bool (a0.2 != a1.2)))] [] [] (by kernel_rfl) trivial) ?_
  refine k_cond (b := (a0.2 != a1.2)) (by kernel_rfl) (fun hc2_1 => ?_) (fun hc2_1 => ?_)
  ·replace h := ite_t hc2_1 h
   refine k_sreg (r_go [(4, .p (.bool false))] [] [] (by kernel_rfl) trivial) ?_
   refine k_ret ?_
   refine q_r ?_
   obtain rfl := Option.some.inj h
   exact e_ret (ls := [(.p (.bool false), 4)]) (by kernel_rfl) rfl (by kernel_rfl) rfl
  ·replace h := ite_f hc2_1 h
   refine k_skip ?_
   refine q_n ?_
   refine k_sreg (r_go [(4, .p (.bool true))] [] [] (by kernel_rfl) trivial) ?_
   refine k_ret ?_
   obtain rfl := Option.some.inj h
   exact e_ret (ls := [(.p (.bool true), 4)]) (by kernel_rfl) rfl (by kernel_rfl) rfl
theorem wk_laws_eqRatS {a0 : (List Qr)} {a1 : (List Qr)}  {r : Bool} (h : laws_eqRatS a0 a1 = some r) : Meets Try.prog 32 [.d false [.sl none (a0.map eRt)], .d false [.sl none (a1.map eRt)]] { vals := [.p (.bool r)] } := by
 refine Meets_ofL (by kernel_rfl) Try.func32 rfl (by kernel_rfl) (l0 := [(0, .d false [.sl none (a0.map eRt)]), (1, .d false [.sl none (a1.map eRt)])]) (by kernel_rfl) ?_
 unfold laws_eqRatS at h
 refine k_sreg (r_go [(0, .d false [.sl none (a0.map eRt)]), (1, .d false [.sl none (a1.map eRt)])] [] [] (by kernel_rfl) trivial) ?_
 refine k_seq ?_
 refine k_sreg (r_go [(0, .d false [.sl none (a0.map eRt)]), (1, .d false [.sl none (a1.map eRt)]), (10, .p (.bool ((a0.length : Int) != (a1.length : Int))))] [(1, {n := some a0.length}), (3, {n := some a1.length})] [(a0.map eRt).length = a0.length, (a1.map eRt).length = a1.length] (by kernel_rfl) ⟨(List.length_map ..), (List.length_map ..), trivial⟩) ?_
 refine k_cond (b := ((a0.length : Int) != (a1.length : Int))) (by kernel_rfl) (fun hc2_0 => ?_) (fun hc2_0 => ?_)
 ·replace h := ite_t hc2_0 h
  refine k_sreg (r_go [(4, .p (.bool false))] [] [] (by kernel_rfl) trivial) ?_
  refine k_ret ?_
  refine q_r ?_
  obtain rfl := Option.some.inj h
  exact e_ret (ls := [(.p (.bool false), 4)]) (by kernel_rfl) rfl (by kernel_rfl) rfl
 ·replace h := ite_f hc2_0 h
  refine k_skip ?_
  refine q_n ?_
  refine k_join (J := fun (x : Unit) => []) (K := fun x => laws_eqRatS_k1 x = some r) (fun x2 h => ?_) ?_
  ·unfold laws_eqRatS_k1 at h
   refine k_sreg (r_go [(4, .p (.bool true))] [] [] (by kernel_rfl) trivial) ?_
   refine k_ret ?_
   obtain rfl := Option.some.inj h
   exact e_ret (ls := [(.p (.bool true), 4)]) (by kernel_rfl) rfl (by kernel_rfl) rfl
  ·refine k_sreg (r_go [(0, .d false [.sl none (a0.map eRt)]), (1, .d false [.sl none (a1.map eRt)]), (5, .p (.int .i64 0))] [] [] (by kernel_rfl) trivial) ?_
   refine k_block ?_
   obtain ⟨y4, hl_x3, hk_x3⟩ := bind_some' h
   clear h
   refine k_loop (J := fun (x : Int) => [(0, .d false [.sl none (a0.map eRt)]), (1, .d false [.sl none (a1.map eRt)]), (5, .p (.int .i64 x))]) hl_x3 (wk_of (by kernel_rfl) (by kernel_rfl)) (fun x3 o_x3 h hy_x3 => ?_)
   unfold laws_eqRatS_b1 at h
   refine k_seq ?_
   refine k_sreg (r_go [(0, .d false [.sl none (a0.map eRt)]), (1, .d false [.sl none (a1.map eRt)]), (5, .p (.int .i64 x3)), (14, .p (.bool (decide (x3 < (a0.length : Int)))))] [(2, {n := some a0.length})] [(a0.map eRt).length = a0.length] (by kernel_rfl) ⟨(List.length_map ..), trivial⟩) ?_
   refine k_cond (b := (decide (x3 < (a0.length : Int)))) (by kernel_rfl) (fun hc5_4 => ?_) (fun hc5_4 => ?_)
   ·replace h := ite_t hc5_4 h
    refine k_skip ?_
    refine q_n ?_
    refine k_seq ?_
    refine k_block ?_
    replace h := bind_some' h
    obtain ⟨v6, hv6, h⟩ := h
    replace h := bind_some' h
    obtain ⟨v7, hv7, h⟩ := h
    replace h := bind_some' h
    obtain ⟨v8, hv8, h⟩ := h
    refine k_sreg (r_draw Try_mixed 8 [] [(0, .d false [.sl none (a0.map eRt)]), (1, .d false [.sl none (a1.map eRt)]), (5, .p (.int .i64 x3)), (26, .p (.bool (!v8)))] [(2, {row := some (eRt v6)}), (6, {row := some (eRt v7)}), (8, {call := some ([.v (vRt v6), .v (vRt v7)], [.p (.bool v8)], true)})] [0 ≤ x3, (a0.map eRt)[(Int.toNat x3)]? = some (eRt v6), 0 ≤ x3, (a1.map eRt)[(Int.toNat x3)]? = some (eRt v7), ([.v (vRt v6), .v (vRt v7)] : List Arg) = [.v (vRt v6), .v (vRt v7)], Meets Try.prog 16 ([.v (vRt v6), .v (vRt v7)] ++ []) { vals := [.p (.bool v8)] }, (!true || List.all [.p (.bool v8)] simpleR) = true] (by kernel_rfl) ⟨(idxO_some hv6).1, (map_get eRt (idxO_some hv6).2), (idxO_some hv7).1, (map_get eRt (idxO_some hv7).2), rfl, (wk_laws_eqRat hv8), (bt rfl), trivial⟩) ?_
    refine k_cond (b := (!v8)) (by kernel_rfl) (fun hc6_8 => ?_) (fun hc6_8 => ?_)
    ·replace h := ite_t hc6_8 h
     refine k_sreg (r_go [(4, .p (.bool false))] [] [] (by kernel_rfl) trivial) ?_
     refine k_ret ?_
     refine b_r ?_
     refine q_r ?_
     refine lq_r ?_
     refine b_r ?_
     refine q_r ?_
     have hyy := hy_x3 _ (Option.some.inj h).symm
     subst hyy
     have h := hk_x3
     dsimp only [Sum.elim] at h
     obtain rfl := Option.some.inj h
     exact e_ret (ls := [(.p (.bool false), 4)]) (by kernel_rfl) rfl (by kernel_rfl) rfl
    ·replace h := ite_f hc6_8 h
     refine k_skip ?_
     refine b_n ?_
     refine q_n ?_
     refine k_reg (r_go [(0, .d false [.sl none (a0.map eRt)]), (1, .d false [.sl none (a1.map eRt)]), (5, .p (.int .i64 (w64 (x3 + 1))))] [] [] (by kernel_rfl) trivial) ?_
     exact lq_n (w64 (x3 + 1)) (Option.some.inj h).symm (wk_of (by kernel_rfl) (by kernel_rfl))
   ·replace h := ite_f hc5_4 h
    refine k_exit ?_
    refine q_x ?_
    refine lq_x ?_
    refine b_x ?_
    have hyy := hy_x3 _ (Option.some.inj h).symm
    subst hyy
    have h := hk_x3
    dsimp only [Sum.elim] at h
    refine q_n ?_
    exact ⟨(), h, (wk_of (by kernel_rfl) (by kernel_rfl))⟩
theorem wk_laws_eqPoint {a0 : Qp} {a1 : Qp}  {r : Bool} (h : laws_eqPoint a0 a1 = some r) : Meets Try.prog 87 [.v (vPt a0), .v (vPt a1)] { vals := [.p (.bool r)] } := by
 refine Meets_ofL (by kernel_rfl) Try.func87 rfl (by kernel_rfl) (l0 := [(0, .p (vPt a0)), (1, .p (vPt a1))]) (by kernel_rfl) ?_
 unfold laws_eqPoint at h
 refine k_sreg (r_go [(2, .box (ePt a0)), (3, .box (ePt a1))] [] [] (by kernel_rfl) trivial) ?_
 refine k_seq ?_
 replace h := bind_some' h
 obtain ⟨v1, hv1, h⟩ := h
 refine k_sreg (r_go [(2, .box (ePt a0)), (3, .box (ePt a1)), (10, .p (.bool (!v1)))] [(4, {call := some ([.v (vRt a0.1), .v (vRt a1.1)], [.p (.bool v1)], true)})] [([.v (vRt a0.1), .v (vRt a1.1)] : List Arg) = [.v (vRt a0.1), .v (vRt a1.1)], Meets Try.prog 16 ([.v (vRt a0.1), .v (vRt a1.1)] ++ []) { vals := [.p (.bool v1)] }, (!true || List.all [.p (.bool v1)] simpleR) = true] (by kernel_rfl) ⟨rfl, (wk_laws_eqRat hv1), (bt rfl), trivial⟩) ?_
 refine k_cond (b := (!v1)) (by kernel_rfl) (fun hc2_1 => ?_) (fun hc2_1 => ?_)
 ·replace h := ite_t hc2_1 h
  refine k_sreg (r_go [(4, .p (.bool false))] [] [] (by kernel_rfl) trivial) ?_
  refine k_ret ?_
  refine q_r ?_
  obtain rfl := Option.some.inj h
  exact e_ret (ls := [(.p (.bool false), 4)]) (by kernel_rfl) rfl (by kernel_rfl) rfl
 ·replace h := ite_f hc2_1 h
  refine k_skip ?_
  refine q_n ?_
  refine k_seq ?_
  replace h := bind_some' h
  obtain ⟨v3, hv3, h⟩ := h
  refine k_sreg (r_go [(16, .p (.bool (!v3)))] [(4, {call := some ([.v (vRt a0.2), .v (vRt a1.2)], [.p (.bool v3)], true)})] [([.v (vRt a0.2), .v (vRt a1.2)] : List Arg) = [.v (vRt a0.2), .v (vRt a1.2)], Meets Try.prog 16 ([.v (vRt a0.2), .v (vRt a1.2)] ++ []) { vals := [.p (.bool v3)] }, (!true || List.all [.p (.bool v3)] simpleR) = true] (by kernel_rfl) ⟨rfl, (wk_laws_eqRat hv3), (bt rfl), trivial⟩) ?_
  refine k_cond (b := (!v3)) (by kernel_rfl) (fun hc2_3 => ?_) (fun hc2_3 => ?_)
  ·replace h := ite_t hc2_3 h
   refine k_sreg (r_go [(4, .p (.bool false))] [] [] (by kernel_rfl) trivial) ?_
   refine k_ret ?_
   refine q_r ?_
   obtain rfl := Option.some.inj h
   exact e_ret (ls := [(.p (.bool false), 4)]) (by kernel_rfl) rfl (by kernel_rfl) rfl
  ·replace h := ite_f hc2_3 h
   refine k_skip ?_
   refine q_n ?_
   refine k_sreg (r_go [(4, .p (.bool true))] [] [] (by kernel_rfl) trivial) ?_
   refine k_ret ?_
   obtain rfl := Option.some.inj h
   exact e_ret (ls := [(.p (.bool true), 4)]) (by kernel_rfl) rfl (by kernel_rfl) rfl
theorem wk_laws_eqPointS {a0 : (List Qp)} {a1 : (List Qp)}  {r : Bool} (h : laws_eqPointS a0 a1 = some r) : Meets Try.prog 44 [.d false [.sl none (a0.map ePt)], .d false [.sl none (a1.map ePt)]] { vals := [.p (.bool r)] } := by
 refine Meets_ofL (by kernel_rfl) Try.func44 rfl (by kernel_rfl) (l0 := [(0, .d false [.sl none (a0.map ePt)]), (1, .d false [.sl none (a1.map ePt)])]) (by kernel_rfl) ?_
 unfold laws_eqPointS at h
 refine k_sreg (r_go [(0, .d false [.sl none (a0.map ePt)]), (1, .d false [.sl none (a1.map ePt)])] [] [] (by kernel_rfl) trivial) ?_
 refine k_seq ?_
 refine k_sreg (r_go [(0, .d false [.sl none (a0.map ePt)]), (1, .d false [.sl none (a1.map ePt)]), (10, .p (.bool ((a0.length : Int) != (a1.length : Int))))] [(1, {n := some a0.length}), (3, {n := some a1.length})] [(a0.map ePt).length = a0.length, (a1.map ePt).length = a1.length] (by kernel_rfl) ⟨(List.length_map ..), (List.length_map ..), trivial⟩) ?_
 refine k_cond (b := ((a0.length : Int) != (a1.length : Int))) (by kernel_rfl) (fun hc2_0 => ?_) (fun hc2_0 => ?_)
 ·replace h := ite_t hc2_0 h
  refine k_sreg (r_go [(4, .p (.bool false))] [] [] (by kernel_rfl) trivial) ?_
  refine k_ret ?_
  refine q_r ?_
  obtain rfl := Option.some.inj h
  exact e_ret (ls := [(.p (.bool false), 4)]) (by kernel_rfl) rfl (by kernel_rfl) rfl
 ·replace h := ite_f hc2_0 h
  refine k_skip ?_
  refine q_n ?_
  refine k_join (J := fun (x : Unit) => []) (K := fun x => laws_eqPointS_k1 x = some r) (fun x2 h => ?_) ?_
  ·unfold laws_eqPointS_k1 at h
   refine k_sreg (r_go [(4, .p (.bool true))] [] [] (by kernel_rfl) trivial) ?_
   refine k_ret ?_
   obtain rfl := Option.some.inj h
   exact e_ret (ls := [(.p (.bool true), 4)]) (by kernel_rfl) rfl (by kernel_rfl) rfl
  ·refine k_sreg (r_go [(0, .d false [.sl none (a0.map ePt)]), (1, .d false [.sl none (a1.map ePt)]), (5, .p (.int .i64 0))] [] [] (by kernel_rfl) trivial) ?_
   refine k_block ?_
   obtain ⟨y4, hl_x3, hk_x3⟩ := bind_some' h
   clear h
   refine k_loop (J := fun (x : Int) => [(0, .d false [.sl none (a0.map ePt)]), (1, .d false [.sl none (a1.map ePt)]), (5, .p (.int .i64 x))]) hl_x3 (wk_of (by kernel_rfl) (by kernel_rfl)) (fun x3 o_x3 h hy_x3 => ?_)
   unfold laws_eqPointS_b1 at h
   refine k_seq ?_
   refine k_sreg (r_go [(0, .d false [.sl none (a0.map ePt)]), (1, .d false [.sl none (a1.map ePt)]), (5, .p (.int .i64 x3)), (14, .p (.bool (decide (x3 < (a0.length : Int)))))] [(2, {n := some a0.length})] [(a0.map ePt).length = a0.length] (by kernel_rfl) ⟨(List.length_map ..), trivial⟩) ?_
   refine k_cond (b := (decide (x3 < (a0.length : Int)))) (by kernel_rfl) (fun hc5_4 => ?_) (fun hc5_4 => ?_)
   ·replace h := ite_t hc5_4 h
    refine k_skip ?_
    refine q_n ?_
    refine k_seq ?_
    refine k_block ?_
    replace h := bind_some' h
    obtain ⟨v6, hv6, h⟩ := h
    replace h := bind_some' h
    obtain ⟨v7, hv7, h⟩ := h
    replace h := bind_some' h
    obtain ⟨v8, hv8, h⟩ := h
    refine k_sreg (r_draw Try_mixed 8 [] [(0, .d false [.sl none (a0.map ePt)]), (1, .d false [.sl none (a1.map ePt)]), (5, .p (.int .i64 x3)), (26, .p (.bool (!v8)))] [(2, {row := some (ePt v6)}), (6, {row := some (ePt v7)}), (8, {call := some ([.v (vPt v6), .v (vPt v7)], [.p (.bool v8)], true)})] [0 ≤ x3, (a0.map ePt)[(Int.toNat x3)]? = some (ePt v6), 0 ≤ x3, (a1.map ePt)[(Int.toNat x3)]? = some (ePt v7), ([.v (vPt v6), .v (vPt v7)] : List Arg) = [.v (vPt v6), .v (vPt v7)], Meets Try.prog 87 ([.v (vPt v6), .v (vPt v7)] ++ []) { vals := [.p (.bool v8)] }, (!true || List.all [.p (.bool v8)] simpleR) = true] (by kernel_rfl) ⟨(idxO_some hv6).1, (map_get ePt (idxO_some hv6).2), (idxO_some hv7).1, (map_get ePt (idxO_some hv7).2), rfl, (wk_laws_eqPoint hv8), (bt rfl), trivial⟩) ?_
    refine k_cond (b := (!v8)) (by kernel_rfl) (fun hc6_8 => ?_) (fun hc6_8 => ?_)
    ·replace h := ite_t hc6_8 h
     refine k_sreg (r_go [(4, .p (.bool false))] [] [] (by kernel_rfl) trivial) ?_
     refine k_ret ?_
     refine b_r ?_
     refine q_r ?_
     refine lq_r ?_
     refine b_r ?_
     refine q_r ?_
     have hyy := hy_x3 _ (Option.some.inj h).symm
     subst hyy
     have h := hk_x3
     dsimp only [Sum.elim] at h
     obtain rfl := Option.some.inj h
     exact e_ret (ls := [(.p (.bool false), 4)]) (by kernel_rfl) rfl (by kernel_rfl) rfl
    ·replace h := ite_f hc6_8 h
     refine k_skip ?_
     refine b_n ?_
     refine q_n ?_
     refine k_reg (r_go [(0, .d false [.sl none (a0.map ePt)]), (1, .d false [.sl none (a1.map ePt)]), (5, .p (.int .i64 (w64 (x3 + 1))))] [] [] (by kernel_rfl) trivial) ?_
     exact lq_n (w64 (x3 + 1)) (Option.some.inj h).symm (wk_of (by kernel_rfl) (by kernel_rfl))
   ·replace h := ite_f hc5_4 h
    refine k_exit ?_
    refine q_x ?_
    refine lq_x ?_
    refine b_x ?_
    have hyy := hy_x3 _ (Option.some.inj h).symm
    subst hyy
    have h := hk_x3
    dsimp only [Sum.elim] at h
    refine q_n ?_
    exact ⟨(), h, (wk_of (by kernel_rfl) (by kernel_rfl))⟩
theorem wk_laws_eqLift {a0 : (List Qp)} {a1 : (List Qp)}  {r : Bool} (h : laws_eqLift a0 a1 = some r) : Meets Try.prog 17 [.d true [.sl none (a0.map ePt)], .d true [.sl none (a1.map ePt)]] { vals := [.p (.bool r)] } := by
 refine Meets_ofL (by kernel_rfl) Try.func17 rfl (by kernel_rfl) (l0 := [(0, .d true [.sl none (a0.map ePt)]), (1, .d true [.sl none (a1.map ePt)])]) (by kernel_rfl) ?_
 unfold laws_eqLift at h
 refine k_sreg (r_go [(2, .box [.sl none (a0.map ePt)]), (3, .box [.sl none (a1.map ePt)])] [] [] (by kernel_rfl) trivial) ?_
 refine k_seq ?_
 replace h := bind_some' h
 obtain ⟨v1, hv1, h⟩ := h
 refine k_sreg (r_go [(10, .p (.bool (!v1)))] [(1, {b := some true}), (3, {b := some true}), (4, {call := some ([.d false [.sl none (a0.map ePt)], .d false [.sl none (a1.map ePt)]], [.p (.bool v1)], true)})] [frR [.sl none (a0.map ePt)] = true, frR [.sl none (a1.map ePt)] = true, ([.d false [.sl none (a0.map ePt)], .d false [.sl none (a1.map ePt)]] : List Arg) = [.d false [.sl none (a0.map ePt)], .d false [.sl none (a1.map ePt)]], Meets Try.prog 44 ([.d false [.sl none (a0.map ePt)], .d false [.sl none (a1.map ePt)]] ++ []) { vals := [.p (.bool v1)] }, (!true || List.all [.p (.bool v1)] simpleR) = true] (by kernel_rfl) ⟨(frR1 (frL_enc (fr_P (fr_P fr_I fr_I) (fr_P fr_I fr_I))) rfl), (frR1 (frL_enc (fr_P (fr_P fr_I fr_I) (fr_P fr_I fr_I))) rfl), rfl, (wk_laws_eqPointS hv1), (bt rfl), trivial⟩) ?_
 refine k_cond (b := (!v1)) (by kernel_rfl) (fun hc2_1 => ?_) (fun hc2_1 => ?_)
 ·replace h := ite_t hc2_1 h
  refine k_sreg (r_go [(4, .p (.bool false))] [] [] (by kernel_rfl) trivial) ?_
  refine k_ret ?_
  refine q_r ?_
  obtain rfl := Option.some.inj h
  exact e_ret (ls := [(.p (.bool false), 4)]) (by kernel_rfl) rfl (by kernel_rfl) rfl
 ·replace h := ite_f hc2_1 h
  refine k_skip ?_
  refine q_n ?_
  refine k_sreg (r_go [(4, .p (.bool true))] [] [] (by kernel_rfl) trivial) ?_
  refine k_ret ?_
  obtain rfl := Option.some.inj h
  exact e_ret (ls := [(.p (.bool true), 4)]) (by kernel_rfl) rfl (by kernel_rfl) rfl
theorem wk_laws_markPointS {a0 : (List Qp)} {a1 : Int}  {r : (Int × (List Qp))} (h : laws_markPointS a0 a1 = some r) : MeetsB Try.prog 74 (.ov false [.sl (some 66) (a0.map ePt)]) [.v (.int .i64 a1)] [.p (.int .i64 r.1)] (.ov false [.sl (some 66) (r.2.map ePt)]) := by
 refine MeetsB_ofL (by kernel_rfl) Try.func74 rfl (by kernel_rfl) rfl (l0 := [(0, .ov false [.sl (some 66) (a0.map ePt)]), (1, .p (.int .i64 a1))]) (by kernel_rfl) ?_
 unfold laws_markPointS at h
 refine k_sreg (r_go [(0, .ov false [.sl (some 66) (a0.map ePt)]), (1, .p (.int .i64 a1))] [] [] (by kernel_rfl) trivial) ?_
 refine k_join (J := fun (x : ((List Qp) × Int)) => [(0, .ov false [.sl (some 66) (x.1.map ePt)]), (1, .p (.int .i64 x.2))]) (K := fun x => laws_markPointS_k1 x = some r) (fun x1 h => ?_) ?_
 ·unfold laws_markPointS_k1 at h
  refine k_sreg (r_go [(0, .ov false [.sl (some 66) (x1.1.map ePt)]), (4, .p (.int .i64 x1.2))] [] [] (by kernel_rfl) trivial) ?_
  refine k_ret ?_
  obtain rfl := Option.some.inj h
  exact eb_ret (ls := [(.p (.int .i64 x1.2), 4)]) (by kernel_rfl) rfl rfl (by kernel_rfl) (by kernel_rfl)
 ·refine k_sreg (r_go [(0, .ov false [.sl (some 66) (a0.map ePt)]), (1, .p (.int .i64 a1)), (5, .p (.int .i64 0))] [] [] (by kernel_rfl) trivial) ?_
  refine k_block ?_
  obtain ⟨y3, hl_x2, hk_x2⟩ := bind_some' h
  clear h
  refine k_loop (J := fun (x : ((List Qp) × Int × Int)) => [(0, .ov false [.sl (some 66) (x.1.map ePt)]), (1, .p (.int .i64 x.2.1)), (5, .p (.int .i64 x.2.2))]) hl_x2 (wk_of (by kernel_rfl) (by kernel_rfl)) (fun x2 o_x2 h hy_x2 => ?_)
  unfold laws_markPointS_b1 at h
  refine k_seq ?_
  refine k_sreg (r_go [(0, .ov false [.sl (some 66) (x2.1.map ePt)]), (1, .p (.int .i64 x2.2.1)), (5, .p (.int .i64 x2.2.2)), (9, .p (.bool (decide (x2.2.2 < (x2.1.length : Int)))))] [(2, {n := some x2.1.length})] [(x2.1.map ePt).length = x2.1.length] (by kernel_rfl) ⟨(List.length_map ..), trivial⟩) ?_
  refine k_cond (b := (decide (x2.2.2 < (x2.1.length : Int)))) (by kernel_rfl) (fun hc5_3 => ?_) (fun hc5_3 => ?_)
  ·replace h := ite_t hc5_3 h
   refine k_skip ?_
   refine q_n ?_
   refine k_seq ?_
   refine k_block ?_
   replace h := bind_some' h
   obtain ⟨v5, hv5, h⟩ := h
   refine k_sreg (r_go [(0, .ov false [.sl (some 66) ((x2.1.set (Int.toNat x2.2.2) ((x2.2.1, v5.1.2), v5.2)).map ePt)]), (1, .p (.int .i64 x2.2.1)), (5, .p (.int .i64 x2.2.2))] [(3, {row := some (ePt v5)}), (6, {row := some (ePt v5), fix := some (0, .ov false [.sl (some 66) ((x2.1.set (Int.toNat x2.2.2) ((x2.2.1, v5.1.2), v5.2)).map ePt)])})] [0 ≤ x2.2.2, (x2.1.map ePt)[(Int.toNat x2.2.2)]? = some (ePt v5), getRow [[.sl (some 66) (x2.1.map ePt)]] [(0, 0), ((Int.toNat x2.2.2), 0)] = some (ePt v5), (SV.ov false [.sl (some 66) (setL (x2.1.map ePt) [((Int.toNat x2.2.2), 0)] (eI x2.2.1))] : SV) = .ov false [.sl (some 66) ((x2.1.set (Int.toNat x2.2.2) ((x2.2.1, v5.1.2), v5.2)).map ePt)]] (by kernel_rfl) ⟨(idxO_some hv5).1, (map_get ePt (idxO_some hv5).2), ((gr0 rfl).trans (gre (map_get ePt (idxO_some hv5).2))), (congrArg (fun z => SV.ov false [.sl (some 66) z]) (set1 (f := ePt) (y := ((x2.2.1, v5.1.2), v5.2)) (idxO_some hv5).2 rfl)), trivial⟩) ?_
   refine k_sreg (r_go [(0, .ov false [.sl (some 66) ((x2.1.set (Int.toNat x2.2.2) ((x2.2.1, v5.1.2), v5.2)).map ePt)]), (1, .p (.int .i64 (w64 (x2.2.1 + 1)))), (5, .p (.int .i64 x2.2.2))] [] [] (by kernel_rfl) trivial) ?_
   replace h := bind_some' h
   obtain ⟨v6, hv6, h⟩ := h
   refine k_sreg (r_go [(0, .ov false [.sl (some 66) (((x2.1.set (Int.toNat x2.2.2) ((x2.2.1, v5.1.2), v5.2)).set (Int.toNat x2.2.2) ((v6.1.1, (w64 (x2.2.1 + 1))), v6.2)).map ePt)]), (1, .p (.int .i64 (w64 (x2.2.1 + 1)))), (5, .p (.int .i64 x2.2.2))] [(3, {row := some (ePt v6)}), (6, {row := some [.raw (.int .i64 v6.1.2), .raw (.int .i64 v6.2.1), .raw (.int .i64 v6.2.2)], fix := some (0, .ov false [.sl (some 66) (((x2.1.set (Int.toNat x2.2.2) ((x2.2.1, v5.1.2), v5.2)).set (Int.toNat x2.2.2) ((v6.1.1, (w64 (x2.2.1 + 1))), v6.2)).map ePt)])})] [0 ≤ x2.2.2, ((x2.1.set (Int.toNat x2.2.2) ((x2.2.1, v5.1.2), v5.2)).map ePt)[(Int.toNat x2.2.2)]? = some (ePt v6), getRow [[.sl (some 66) ((x2.1.set (Int.toNat x2.2.2) ((x2.2.1, v5.1.2), v5.2)).map ePt)]] [(0, 0), ((Int.toNat x2.2.2), 1)] = some [.raw (.int .i64 v6.1.2), .raw (.int .i64 v6.2.1), .raw (.int .i64 v6.2.2)], (SV.ov false [.sl (some 66) (setL ((x2.1.set (Int.toNat x2.2.2) ((x2.2.1, v5.1.2), v5.2)).map ePt) [((Int.toNat x2.2.2), 1)] [.raw (.int .i64 (w64 (x2.2.1 + 1)))])] : SV) = .ov false [.sl (some 66) (((x2.1.set (Int.toNat x2.2.2) ((x2.2.1, v5.1.2), v5.2)).set (Int.toNat x2.2.2) ((v6.1.1, (w64 (x2.2.1 + 1))), v6.2)).map ePt)]] (by kernel_rfl) ⟨(idxO_some hv6).1, (map_get ePt (idxO_some hv6).2), ((gr0 rfl).trans (gre (map_get ePt (idxO_some hv6).2))), (congrArg (fun z => SV.ov false [.sl (some 66) z]) (set1 (f := ePt) (y := ((v6.1.1, (w64 (x2.2.1 + 1))), v6.2)) (idxO_some hv6).2 rfl)), trivial⟩) ?_
   refine k_sreg (r_go [(0, .ov false [.sl (some 66) (((x2.1.set (Int.toNat x2.2.2) ((x2.2.1, v5.1.2), v5.2)).set (Int.toNat x2.2.2) ((v6.1.1, (w64 (x2.2.1 + 1))), v6.2)).map ePt)]), (1, .p (.int .i64 (w64 ((w64 (x2.2.1 + 1)) + 1)))), (5, .p (.int .i64 x2.2.2))] [] [] (by kernel_rfl) trivial) ?_
   replace h := bind_some' h
   obtain ⟨v7, hv7, h⟩ := h
   refine k_sreg (r_go [(0, .ov false [.sl (some 66) ((((x2.1.set (Int.toNat x2.2.2) ((x2.2.1, v5.1.2), v5.2)).set (Int.toNat x2.2.2) ((v6.1.1, (w64 (x2.2.1 + 1))), v6.2)).set (Int.toNat x2.2.2) (v7.1, ((w64 ((w64 (x2.2.1 + 1)) + 1)), v7.2.2))).map ePt)]), (1, .p (.int .i64 (w64 ((w64 (x2.2.1 + 1)) + 1)))), (5, .p (.int .i64 x2.2.2))] [(3, {row := some (ePt v7)}), (6, {row := some (eRt v7.2), fix := some (0, .ov false [.sl (some 66) ((((x2.1.set (Int.toNat x2.2.2) ((x2.2.1, v5.1.2), v5.2)).set (Int.toNat x2.2.2) ((v6.1.1, (w64 (x2.2.1 + 1))), v6.2)).set (Int.toNat x2.2.2) (v7.1, ((w64 ((w64 (x2.2.1 + 1)) + 1)), v7.2.2))).map ePt)])})] [0 ≤ x2.2.2, (((x2.1.set (Int.toNat x2.2.2) ((x2.2.1, v5.1.2), v5.2)).set (Int.toNat x2.2.2) ((v6.1.1, (w64 (x2.2.1 + 1))), v6.2)).map ePt)[(Int.toNat x2.2.2)]? = some (ePt v7), getRow [[.sl (some 66) (((x2.1.set (Int.toNat x2.2.2) ((x2.2.1, v5.1.2), v5.2)).set (Int.toNat x2.2.2) ((v6.1.1, (w64 (x2.2.1 + 1))), v6.2)).map ePt)]] [(0, 0), ((Int.toNat x2.2.2), 2)] = some (eRt v7.2), (SV.ov false [.sl (some 66) (setL (((x2.1.set (Int.toNat x2.2.2) ((x2.2.1, v5.1.2), v5.2)).set (Int.toNat x2.2.2) ((v6.1.1, (w64 (x2.2.1 + 1))), v6.2)).map ePt) [((Int.toNat x2.2.2), 2)] [.raw (.int .i64 (w64 ((w64 (x2.2.1 + 1)) + 1)))])] : SV) = .ov false [.sl (some 66) ((((x2.1.set (Int.toNat x2.2.2) ((x2.2.1, v5.1.2), v5.2)).set (Int.toNat x2.2.2) ((v6.1.1, (w64 (x2.2.1 + 1))), v6.2)).set (Int.toNat x2.2.2) (v7.1, ((w64 ((w64 (x2.2.1 + 1)) + 1)), v7.2.2))).map ePt)]] (by kernel_rfl) ⟨(idxO_some hv7).1, (map_get ePt (idxO_some hv7).2), ((gr0 rfl).trans (gre (map_get ePt (idxO_some hv7).2))), (congrArg (fun z => SV.ov false [.sl (some 66) z]) (set1 (f := ePt) (y := (v7.1, ((w64 ((w64 (x2.2.1 + 1)) + 1)), v7.2.2))) (idxO_some hv7).2 rfl)), trivial⟩) ?_
   refine k_sreg (r_go [(0, .ov false [.sl (some 66) ((((x2.1.set (Int.toNat x2.2.2) ((x2.2.1, v5.1.2), v5.2)).set (Int.toNat x2.2.2) ((v6.1.1, (w64 (x2.2.1 + 1))), v6.2)).set (Int.toNat x2.2.2) (v7.1, ((w64 ((w64 (x2.2.1 + 1)) + 1)), v7.2.2))).map ePt)]), (1, .p (.int .i64 (w64 ((w64 ((w64 (x2.2.1 + 1)) + 1)) + 1)))), (5, .p (.int .i64 x2.2.2))] [] [] (by kernel_rfl) trivial) ?_
   replace h := bind_some' h
   obtain ⟨v8, hv8, h⟩ := h
   refine k_sreg (r_go [(0, .ov false [.sl (some 66) (((((x2.1.set (Int.toNat x2.2.2) ((x2.2.1, v5.1.2), v5.2)).set (Int.toNat x2.2.2) ((v6.1.1, (w64 (x2.2.1 + 1))), v6.2)).set (Int.toNat x2.2.2) (v7.1, ((w64 ((w64 (x2.2.1 + 1)) + 1)), v7.2.2))).set (Int.toNat x2.2.2) (v8.1, (v8.2.1, (w64 ((w64 ((w64 (x2.2.1 + 1)) + 1)) + 1))))).map ePt)]), (1, .p (.int .i64 (w64 ((w64 ((w64 (x2.2.1 + 1)) + 1)) + 1)))), (5, .p (.int .i64 x2.2.2))] [(3, {row := some (ePt v8)}), (6, {row := some (eI v8.2.2), fix := some (0, .ov false [.sl (some 66) (((((x2.1.set (Int.toNat x2.2.2) ((x2.2.1, v5.1.2), v5.2)).set (Int.toNat x2.2.2) ((v6.1.1, (w64 (x2.2.1 + 1))), v6.2)).set (Int.toNat x2.2.2) (v7.1, ((w64 ((w64 (x2.2.1 + 1)) + 1)), v7.2.2))).set (Int.toNat x2.2.2) (v8.1, (v8.2.1, (w64 ((w64 ((w64 (x2.2.1 + 1)) + 1)) + 1))))).map ePt)])})] [0 ≤ x2.2.2, ((((x2.1.set (Int.toNat x2.2.2) ((x2.2.1, v5.1.2), v5.2)).set (Int.toNat x2.2.2) ((v6.1.1, (w64 (x2.2.1 + 1))), v6.2)).set (Int.toNat x2.2.2) (v7.1, ((w64 ((w64 (x2.2.1 + 1)) + 1)), v7.2.2))).map ePt)[(Int.toNat x2.2.2)]? = some (ePt v8), getRow [[.sl (some 66) ((((x2.1.set (Int.toNat x2.2.2) ((x2.2.1, v5.1.2), v5.2)).set (Int.toNat x2.2.2) ((v6.1.1, (w64 (x2.2.1 + 1))), v6.2)).set (Int.toNat x2.2.2) (v7.1, ((w64 ((w64 (x2.2.1 + 1)) + 1)), v7.2.2))).map ePt)]] [(0, 0), ((Int.toNat x2.2.2), 3)] = some (eI v8.2.2), (SV.ov false [.sl (some 66) (setL ((((x2.1.set (Int.toNat x2.2.2) ((x2.2.1, v5.1.2), v5.2)).set (Int.toNat x2.2.2) ((v6.1.1, (w64 (x2.2.1 + 1))), v6.2)).set (Int.toNat x2.2.2) (v7.1, ((w64 ((w64 (x2.2.1 + 1)) + 1)), v7.2.2))).map ePt) [((Int.toNat x2.2.2), 3)] [.raw (.int .i64 (w64 ((w64 ((w64 (x2.2.1 + 1)) + 1)) + 1)))])] : SV) = .ov false [.sl (some 66) (((((x2.1.set (Int.toNat x2.2.2) ((x2.2.1, v5.1.2), v5.2)).set (Int.toNat x2.2.2) ((v6.1.1, (w64 (x2.2.1 + 1))), v6.2)).set (Int.toNat x2.2.2) (v7.1, ((w64 ((w64 (x2.2.1 + 1)) + 1)), v7.2.2))).set (Int.toNat x2.2.2) (v8.1, (v8.2.1, (w64 ((w64 ((w64 (x2.2.1 + 1)) + 1)) + 1))))).map ePt)]] (by kernel_rfl) ⟨(idxO_some hv8).1, (map_get ePt (idxO_some hv8).2), ((gr0 rfl).trans (gre (map_get ePt (idxO_some hv8).2))), (congrArg (fun z => SV.ov false [.sl (some 66) z]) (set1 (f := ePt) (y := (v8.1, (v8.2.1, (w64 ((w64 ((w64 (x2.2.1 + 1)) + 1)) + 1))))) (idxO_some hv8).2 rfl)), trivial⟩) ?_
   refine k_reg (r_go [(0, .ov false [.sl (some 66) (((((x2.1.set (Int.toNat x2.2.2) ((x2.2.1, v5.1.2), v5.2)).set (Int.toNat x2.2.2) ((v6.1.1, (w64 (x2.2.1 + 1))), v6.2)).set (Int.toNat x2.2.2) (v7.1, ((w64 ((w64 (x2.2.1 + 1)) + 1)), v7.2.2))).set (Int.toNat x2.2.2) (v8.1, (v8.2.1, (w64 ((w64 ((w64 (x2.2.1 + 1)) + 1)) + 1))))).map ePt)]), (1, .p (.int .i64 (w64 ((w64 ((w64 ((w64 (x2.2.1 + 1)) + 1)) + 1)) + 1)))), (5, .p (.int .i64 x2.2.2))] [] [] (by kernel_rfl) trivial) ?_
   refine b_n ?_
   refine q_n ?_
   refine k_reg (r_go [(0, .ov false [.sl (some 66) (((((x2.1.set (Int.toNat x2.2.2) ((x2.2.1, v5.1.2), v5.2)).set (Int.toNat x2.2.2) ((v6.1.1, (w64 (x2.2.1 + 1))), v6.2)).set (Int.toNat x2.2.2) (v7.1, ((w64 ((w64 (x2.2.1 + 1)) + 1)), v7.2.2))).set (Int.toNat x2.2.2) (v8.1, (v8.2.1, (w64 ((w64 ((w64 (x2.2.1 + 1)) + 1)) + 1))))).map ePt)]), (1, .p (.int .i64 (w64 ((w64 ((w64 ((w64 (x2.2.1 + 1)) + 1)) + 1)) + 1)))), (5, .p (.int .i64 (w64 (x2.2.2 + 1))))] [] [] (by kernel_rfl) trivial) ?_
   exact lq_n (((((x2.1.set (Int.toNat x2.2.2) ((x2.2.1, v5.1.2), v5.2)).set (Int.toNat x2.2.2) ((v6.1.1, (w64 (x2.2.1 + 1))), v6.2)).set (Int.toNat x2.2.2) (v7.1, ((w64 ((w64 (x2.2.1 + 1)) + 1)), v7.2.2))).set (Int.toNat x2.2.2) (v8.1, (v8.2.1, (w64 ((w64 ((w64 (x2.2.1 + 1)) + 1)) + 1))))), (w64 ((w64 ((w64 ((w64 (x2.2.1 + 1)) + 1)) + 1)) + 1)), (w64 (x2.2.2 + 1))) (Option.some.inj h).symm (wk_of (by kernel_rfl) (by kernel_rfl))
  ·replace h := ite_f hc5_3 h
   refine k_exit ?_
   refine q_x ?_
   refine lq_x ?_
   refine b_x ?_
   have hyy := hy_x2 _ (Option.some.inj h).symm
   subst hyy
   have h := hk_x2
   refine q_n ?_
   exact ⟨(x2.1, x2.2.1), h, (wk_of (by kernel_rfl) (by kernel_rfl))⟩
theorem wk_laws_markLift {a0 : (List Qp)} {a1 : Int} {r : (Int × (List Qp))} (h : laws_markLift a0 a1 = some r) : MeetsB Try.prog 33 (.ov true [.sl (some 66) (a0.map ePt)]) [.v (.int .i64 a1)] [.p (.int .i64 r.1)] (.ov true [.sl (some 66) (r.2.map ePt)]) := by
 unfold laws_markLift at h
 refine wrap_lent (T := 33) (S := 31) (by kernel_rfl) Try.func33 rfl ⟨rfl, rfl, rfl⟩ ⟨rfl, rfl, rfl⟩ ⟨rfl, rfl, rfl⟩ ⟨rfl, rfl, rfl⟩ ⟨rfl, rfl, rfl⟩ ⟨rfl, rfl, rfl⟩ ⟨rfl, rfl, rfl⟩ (by kernel_rfl) (by kernel_rfl) (by kernel_rfl) (wk_laws_markPointS h) ?_
 refine k_sreg (r_go [(4, .p (.int .i64 r.1))] [] [] (by kernel_rfl) trivial) ?_
 refine k_ret ?_
 exact e_ret (ls := [(.p (.int .i64 r.1), 4)]) (by kernel_rfl) rfl (by kernel_rfl) rfl
theorem wk_laws_markRatS {a0 : (List Qr)} {a1 : Int}  {r : (Int × (List Qr))} (h : laws_markRatS a0 a1 = some r) : MeetsB Try.prog 34 (.ov false [.sl (some 28) (a0.map eRt)]) [.v (.int .i64 a1)] [.p (.int .i64 r.1)] (.ov false [.sl (some 28) (r.2.map eRt)]) := by
 refine MeetsB_ofL (by kernel_rfl) Try.func34 rfl (by kernel_rfl) rfl (l0 := [(0, .ov false [.sl (some 28) (a0.map eRt)]), (1, .p (.int .i64 a1))]) (by kernel_rfl) ?_
 unfold laws_markRatS at h
 refine k_sreg (r_go [(0, .ov false [.sl (some 28) (a0.map eRt)]), (1, .p (.int .i64 a1))] [] [] (by kernel_rfl) trivial) ?_
 refine k_join (J := fun (x : ((List Qr) × Int)) => [(0, .ov false [.sl (some 28) (x.1.map eRt)]), (1, .p (.int .i64 x.2))]) (K := fun x => laws_markRatS_k1 x = some r) (fun x1 h => ?_) ?_
 ·unfold laws_markRatS_k1 at h
  refine k_sreg (r_go [(0, .ov false [.sl (some 28) (x1.1.map eRt)]), (4, .p (.int .i64 x1.2))] [] [] (by kernel_rfl) trivial) ?_
  refine k_ret ?_
  obtain rfl := Option.some.inj h
  exact eb_ret (ls := [(.p (.int .i64 x1.2), 4)]) (by kernel_rfl) rfl rfl (by kernel_rfl) (by kernel_rfl)
 ·refine k_sreg (r_go [(0, .ov false [.sl (some 28) (a0.map eRt)]), (1, .p (.int .i64 a1)), (5, .p (.int .i64 0))] [] [] (by kernel_rfl) trivial) ?_
  refine k_block ?_
  obtain ⟨y3, hl_x2, hk_x2⟩ := bind_some' h
  clear h
  refine k_loop (J := fun (x : ((List Qr) × Int × Int)) => [(0, .ov false [.sl (some 28) (x.1.map eRt)]), (1, .p (.int .i64 x.2.1)), (5, .p (.int .i64 x.2.2))]) hl_x2 (wk_of (by kernel_rfl) (by kernel_rfl)) (fun x2 o_x2 h hy_x2 => ?_)
  unfold laws_markRatS_b1 at h
  refine k_seq ?_
  refine k_sreg (r_go [(0, .ov false [.sl (some 28) (x2.1.map eRt)]), (1, .p (.int .i64 x2.2.1)), (5, .p (.int .i64 x2.2.2)), (9, .p (.bool (decide (x2.2.2 < (x2.1.length : Int)))))] [(2, {n := some x2.1.length})] [(x2.1.map eRt).length = x2.1.length] (by kernel_rfl) ⟨(List.length_map ..), trivial⟩) ?_
  refine k_cond (b := (decide (x2.2.2 < (x2.1.length : Int)))) (by kernel_rfl) (fun hc5_3 => ?_) (fun hc5_3 => ?_)
  ·replace h := ite_t hc5_3 h
   refine k_skip ?_
   refine q_n ?_
   refine k_seq ?_
   refine k_block ?_
   replace h := bind_some' h
   obtain ⟨v5, hv5, h⟩ := h
   refine k_sreg (r_go [(0, .ov false [.sl (some 28) ((x2.1.set (Int.toNat x2.2.2) (x2.2.1, v5.2)).map eRt)]), (1, .p (.int .i64 x2.2.1)), (5, .p (.int .i64 x2.2.2))] [(3, {row := some (eRt v5)}), (5, {row := some (eRt v5), fix := some (0, .ov false [.sl (some 28) ((x2.1.set (Int.toNat x2.2.2) (x2.2.1, v5.2)).map eRt)])})] [0 ≤ x2.2.2, (x2.1.map eRt)[(Int.toNat x2.2.2)]? = some (eRt v5), getRow [[.sl (some 28) (x2.1.map eRt)]] [(0, 0), ((Int.toNat x2.2.2), 0)] = some (eRt v5), (SV.ov false [.sl (some 28) (setL (x2.1.map eRt) [((Int.toNat x2.2.2), 0)] (eI x2.2.1))] : SV) = .ov false [.sl (some 28) ((x2.1.set (Int.toNat x2.2.2) (x2.2.1, v5.2)).map eRt)]] (by kernel_rfl) ⟨(idxO_some hv5).1, (map_get eRt (idxO_some hv5).2), ((gr0 rfl).trans (gre (map_get eRt (idxO_some hv5).2))), (congrArg (fun z => SV.ov false [.sl (some 28) z]) (set1 (f := eRt) (y := (x2.2.1, v5.2)) (idxO_some hv5).2 rfl)), trivial⟩) ?_
   refine k_sreg (r_go [(0, .ov false [.sl (some 28) ((x2.1.set (Int.toNat x2.2.2) (x2.2.1, v5.2)).map eRt)]), (1, .p (.int .i64 (w64 (x2.2.1 + 1)))), (5, .p (.int .i64 x2.2.2))] [] [] (by kernel_rfl) trivial) ?_
   replace h := bind_some' h
   obtain ⟨v6, hv6, h⟩ := h
   refine k_sreg (r_go [(0, .ov false [.sl (some 28) (((x2.1.set (Int.toNat x2.2.2) (x2.2.1, v5.2)).set (Int.toNat x2.2.2) (v6.1, (w64 (x2.2.1 + 1)))).map eRt)]), (1, .p (.int .i64 (w64 (x2.2.1 + 1)))), (5, .p (.int .i64 x2.2.2))] [(3, {row := some (eRt v6)}), (5, {row := some (eI v6.2), fix := some (0, .ov false [.sl (some 28) (((x2.1.set (Int.toNat x2.2.2) (x2.2.1, v5.2)).set (Int.toNat x2.2.2) (v6.1, (w64 (x2.2.1 + 1)))).map eRt)])})] [0 ≤ x2.2.2, ((x2.1.set (Int.toNat x2.2.2) (x2.2.1, v5.2)).map eRt)[(Int.toNat x2.2.2)]? = some (eRt v6), getRow [[.sl (some 28) ((x2.1.set (Int.toNat x2.2.2) (x2.2.1, v5.2)).map eRt)]] [(0, 0), ((Int.toNat x2.2.2), 1)] = some (eI v6.2), (SV.ov false [.sl (some 28) (setL ((x2.1.set (Int.toNat x2.2.2) (x2.2.1, v5.2)).map eRt) [((Int.toNat x2.2.2), 1)] [.raw (.int .i64 (w64 (x2.2.1 + 1)))])] : SV) = .ov false [.sl (some 28) (((x2.1.set (Int.toNat x2.2.2) (x2.2.1, v5.2)).set (Int.toNat x2.2.2) (v6.1, (w64 (x2.2.1 + 1)))).map eRt)]] (by kernel_rfl) ⟨(idxO_some hv6).1, (map_get eRt (idxO_some hv6).2), ((gr0 rfl).trans (gre (map_get eRt (idxO_some hv6).2))), (congrArg (fun z => SV.ov false [.sl (some 28) z]) (set1 (f := eRt) (y := (v6.1, (w64 (x2.2.1 + 1)))) (idxO_some hv6).2 rfl)), trivial⟩) ?_
   refine k_reg (r_go [(0, .ov false [.sl (some 28) (((x2.1.set (Int.toNat x2.2.2) (x2.2.1, v5.2)).set (Int.toNat x2.2.2) (v6.1, (w64 (x2.2.1 + 1)))).map eRt)]), (1, .p (.int .i64 (w64 ((w64 (x2.2.1 + 1)) + 1)))), (5, .p (.int .i64 x2.2.2))] [] [] (by kernel_rfl) trivial) ?_
   refine b_n ?_
   refine q_n ?_
   refine k_reg (r_go [(0, .ov false [.sl (some 28) (((x2.1.set (Int.toNat x2.2.2) (x2.2.1, v5.2)).set (Int.toNat x2.2.2) (v6.1, (w64 (x2.2.1 + 1)))).map eRt)]), (1, .p (.int .i64 (w64 ((w64 (x2.2.1 + 1)) + 1)))), (5, .p (.int .i64 (w64 (x2.2.2 + 1))))] [] [] (by kernel_rfl) trivial) ?_
   exact lq_n (((x2.1.set (Int.toNat x2.2.2) (x2.2.1, v5.2)).set (Int.toNat x2.2.2) (v6.1, (w64 (x2.2.1 + 1)))), (w64 ((w64 (x2.2.1 + 1)) + 1)), (w64 (x2.2.2 + 1))) (Option.some.inj h).symm (wk_of (by kernel_rfl) (by kernel_rfl))
  ·replace h := ite_f hc5_3 h
   refine k_exit ?_
   refine q_x ?_
   refine lq_x ?_
   refine b_x ?_
   have hyy := hy_x2 _ (Option.some.inj h).symm
   subst hyy
   have h := hk_x2
   refine q_n ?_
   exact ⟨(x2.1, x2.2.1), h, (wk_of (by kernel_rfl) (by kernel_rfl))⟩
theorem wk_laws_heldRatS {a0 : (List Qr)} {a1 : Int}  {r : Int} (h : laws_heldRatS a0 a1 = some r) : Meets Try.prog 35 [.d false [.sl none (a0.map eRt)], .v (.int .i64 a1)] { vals := [.p (.int .i64 r)] } := by
 refine Meets_ofL (by kernel_rfl) Try.func35 rfl (by kernel_rfl) (l0 := [(0, .d false [.sl none (a0.map eRt)]), (1, .p (.int .i64 a1))]) (by kernel_rfl) ?_
 unfold laws_heldRatS at h
 refine k_sreg (r_go [(0, .d false [.sl none (a0.map eRt)]), (1, .p (.int .i64 a1))] [] [] (by kernel_rfl) trivial) ?_
 refine k_join (J := fun (x : Int) => [(1, .p (.int .i64 x))]) (K := fun x => laws_heldRatS_k1 x = some r) (fun x1 h => ?_) ?_
 ·unfold laws_heldRatS_k1 at h
  refine k_sreg (r_go [(4, .p (.int .i64 x1))] [] [] (by kernel_rfl) trivial) ?_
  refine k_ret ?_
  obtain rfl := Option.some.inj h
  exact e_ret (ls := [(.p (.int .i64 x1), 4)]) (by kernel_rfl) rfl (by kernel_rfl) rfl
 ·refine k_sreg (r_go [(0, .d false [.sl none (a0.map eRt)]), (1, .p (.int .i64 a1)), (5, .p (.int .i64 0))] [] [] (by kernel_rfl) trivial) ?_
  refine k_block ?_
  obtain ⟨y3, hl_x2, hk_x2⟩ := bind_some' h
  clear h
  refine k_loop (J := fun (x : Qr) => [(0, .d false [.sl none (a0.map eRt)]), (1, .p (.int .i64 x.1)), (5, .p (.int .i64 x.2))]) hl_x2 (wk_of (by kernel_rfl) (by kernel_rfl)) (fun x2 o_x2 h hy_x2 => ?_)
  unfold laws_heldRatS_b1 at h
  refine k_seq ?_
  refine k_sreg (r_go [(0, .d false [.sl none (a0.map eRt)]), (1, .p (.int .i64 x2.1)), (5, .p (.int .i64 x2.2)), (9, .p (.bool (decide (x2.2 < (a0.length : Int)))))] [(2, {n := some a0.length})] [(a0.map eRt).length = a0.length] (by kernel_rfl) ⟨(List.length_map ..), trivial⟩) ?_
  refine k_cond (b := (decide (x2.2 < (a0.length : Int)))) (by kernel_rfl) (fun hc5_3 => ?_) (fun hc5_3 => ?_)
  ·replace h := ite_t hc5_3 h
   refine k_skip ?_
   refine q_n ?_
   refine k_seq ?_
   refine k_block ?_
   refine k_seq ?_
   replace h := bind_some' h
   obtain ⟨v5, hv5, h⟩ := h
   refine k_sreg (r_go [(0, .d false [.sl none (a0.map eRt)]), (1, .p (.int .i64 x2.1)), (5, .p (.int .i64 x2.2)), (18, .p (.bool (v5.1 != x2.1)))] [(2, {row := some (eRt v5)})] [0 ≤ x2.2, (a0.map eRt)[(Int.toNat x2.2)]? = some (eRt v5)] (by kernel_rfl) ⟨(idxO_some hv5).1, (map_get eRt (idxO_some hv5).2), trivial⟩) ?_
   refine k_cond (b := (v5.1 != x2.1)) (by kernel_rfl) (fun hc7_5 => ?_) (fun hc7_5 => ?_)
   ·replace h := ite_t hc7_5 h
    refine k_sreg (r_go [(4, .p (.int .i64 (-1)))] [] [] (by kernel_rfl) trivial) ?_
    refine k_ret ?_
    refine q_r ?_
    refine b_r ?_
    refine q_r ?_
    refine lq_r ?_
    refine b_r ?_
    refine q_r ?_
    have hyy := hy_x2 _ (Option.some.inj h).symm
    subst hyy
    have h := hk_x2
    dsimp only [Sum.elim] at h
    obtain rfl := Option.some.inj h
    exact e_ret (ls := [(.p (.int .i64 (-1)), 4)]) (by kernel_rfl) rfl (by kernel_rfl) rfl
   ·replace h := ite_f hc7_5 h
    refine k_skip ?_
    refine q_n ?_
    refine k_sreg (r_go [(0, .d false [.sl none (a0.map eRt)]), (1, .p (.int .i64 (w64 (x2.1 + 1)))), (5, .p (.int .i64 x2.2))] [] [] (by kernel_rfl) trivial) ?_
    refine k_seq ?_
    refine k_sreg (r_go [(0, .d false [.sl none (a0.map eRt)]), (1, .p (.int .i64 (w64 (x2.1 + 1)))), (5, .p (.int .i64 x2.2)), (27, .p (.bool (v5.2 != (w64 (x2.1 + 1)))))] [(2, {row := some (eRt v5)})] [0 ≤ x2.2, (a0.map eRt)[(Int.toNat x2.2)]? = some (eRt v5)] (by kernel_rfl) ⟨(idxO_some hv5).1, (map_get eRt (idxO_some hv5).2), trivial⟩) ?_
    refine k_cond (b := (v5.2 != (w64 (x2.1 + 1)))) (by kernel_rfl) (fun hc7_6 => ?_) (fun hc7_6 => ?_)
    ·replace h := ite_t hc7_6 h
     refine k_sreg (r_go [(4, .p (.int .i64 (-1)))] [] [] (by kernel_rfl) trivial) ?_
     refine k_ret ?_
     refine q_r ?_
     refine b_r ?_
     refine q_r ?_
     refine lq_r ?_
     refine b_r ?_
     refine q_r ?_
     have hyy := hy_x2 _ (Option.some.inj h).symm
     subst hyy
     have h := hk_x2
     dsimp only [Sum.elim] at h
     obtain rfl := Option.some.inj h
     exact e_ret (ls := [(.p (.int .i64 (-1)), 4)]) (by kernel_rfl) rfl (by kernel_rfl) rfl
    ·replace h := ite_f hc7_6 h
     refine k_skip ?_
     refine q_n ?_
     refine k_reg (r_go [(0, .d false [.sl none (a0.map eRt)]), (1, .p (.int .i64 (w64 ((w64 (x2.1 + 1)) + 1)))), (5, .p (.int .i64 x2.2))] [] [] (by kernel_rfl) trivial) ?_
     refine b_n ?_
     refine q_n ?_
     refine k_reg (r_go [(0, .d false [.sl none (a0.map eRt)]), (1, .p (.int .i64 (w64 ((w64 (x2.1 + 1)) + 1)))), (5, .p (.int .i64 (w64 (x2.2 + 1))))] [] [] (by kernel_rfl) trivial) ?_
     exact lq_n ((w64 ((w64 (x2.1 + 1)) + 1)), (w64 (x2.2 + 1))) (Option.some.inj h).symm (wk_of (by kernel_rfl) (by kernel_rfl))
  ·replace h := ite_f hc5_3 h
   refine k_exit ?_
   refine q_x ?_
   refine lq_x ?_
   refine b_x ?_
   have hyy := hy_x2 _ (Option.some.inj h).symm
   subst hyy
   have h := hk_x2
   dsimp only [Sum.elim] at h
   refine q_n ?_
   exact ⟨x2.1, h, (wk_of (by kernel_rfl) (by kernel_rfl))⟩
theorem wk_laws_FnExactLiftOrbit {a0 : (List Qp)} {a1 : Qr} {a2 : Int}  {r : Bool} (h : laws_FnExactLiftOrbit a0 a1 a2 = some r) : Meets Try.prog 10 [.d true [.sl none (a0.map ePt)], .v (vRt a1), .v (.int .i64 a2)] { vals := [.p (.bool r)] } := by
 refine Meets_ofL (by kernel_rfl) Try.func10 rfl (by kernel_rfl) (l0 := [(0, .d true [.sl none (a0.map ePt)]), (1, .p (vRt a1)), (2, .p (.int .i64 a2))]) (by kernel_rfl) ?_
 unfold laws_FnExactLiftOrbit at h
 refine k_sreg (r_go [(2, .p (.int .i64 a2)), (3, .box [.sl none (a0.map ePt)]), (4, .box (eRt a1))] [] [] (by kernel_rfl) trivial) ?_
 refine k_sreg (r_go [(2, .p (.int .i64 a2)), (3, .box [.sl none (a0.map ePt)]), (4, .box (eRt a1)), (7, .p (.int .i64 1048576))] [] [] (by kernel_rfl) trivial) ?_
 replace h := bind_some' h
 obtain ⟨v1, hv1, h⟩ := h
 refine k_sreg (r_go [(2, .p (.int .i64 a2)), (3, .box [.sl none (a0.map ePt)]), (4, .box (eRt a1)), (7, .p (.int .i64 v1))] [(0, {b := some true}), (2, {call := some ([.d true [.sl none (a0.map ePt)], .v (.int .i64 1048576)], [.p (.int .i64 v1)], true)})] [frR [.sl none (a0.map ePt)] = true, ([.d true [.sl none (a0.map ePt)], .v (.int .i64 1048576)] : List Arg) = [.d true [.sl none (a0.map ePt)], .v (.int .i64 1048576)], Meets Try.prog 11 ([.d true [.sl none (a0.map ePt)], .v (.int .i64 1048576)] ++ []) { vals := [.p (.int .i64 v1)] }, (!true || List.all [.p (.int .i64 v1)] simpleR) = true] (by kernel_rfl) ⟨(frR1 (frL_enc (fr_P (fr_P fr_I fr_I) (fr_P fr_I fr_I))) rfl), rfl, (wk_laws_szLift hv1), (bt rfl), trivial⟩) ?_
 refine k_seq ?_
 refine k_sreg (r_go [(2, .p (.int .i64 a2)), (3, .box [.sl none (a0.map ePt)]), (4, .box (eRt a1)), (22, .p (.bool (decide (v1 < 0))))] [] [] (by kernel_rfl) trivial) ?_
 refine k_cond (b := (decide (v1 < 0))) (by kernel_rfl) (fun hc2_1 => ?_) (fun hc2_1 => ?_)
 ·replace h := ite_t hc2_1 h
  refine k_sreg (r_go [(6, .p (.bool true))] [] [] (by kernel_rfl) trivial) ?_
  refine k_ret ?_
  refine q_r ?_
  obtain rfl := Option.some.inj h
  exact e_ret (ls := [(.p (.bool true), 6)]) (by kernel_rfl) rfl (by kernel_rfl) rfl
 ·replace h := ite_f hc2_1 h
  refine k_skip ?_
  refine q_n ?_
  replace h := bind_some' h
  obtain ⟨v3, hv3, h⟩ := h
  replace h := bind_some' h
  obtain ⟨v4, hv4, h⟩ := h
  replace h := bind_some' h
  obtain ⟨v5, hv5, h⟩ := h
  refine k_sreg (r_draw Try_mixed 5 [] [(2, .p (.int .i64 a2)), (3, .box [.sl none (a0.map ePt)]), (4, .box (eRt a1)), (8, .ov false [.sl (some 28) (v5.1.map eRt)]), (9, .p (.bool v5.2))] [(0, {b := some true}), (1, {call := some ([.d true [.sl none (a0.map ePt)]], [.ov true [.sl (some 66) (v3.map ePt)]], true)}), (3, {call := some ([.v (vRt a1)], [.p (vRt v4)], true)}), (5, {call := some ([.d true [.sl none (v3.map ePt)], .v (vRt v4), .v (.int .i64 a2)], [.ov false [.sl (some 28) (v5.1.map eRt)], .p (.bool v5.2)], true)})] [frR [.sl none (a0.map ePt)] = true, ([.d true [.sl none (a0.map ePt)]] : List Arg) = [.d true [.sl none (a0.map ePt)]], Meets Try.prog 13 ([.d true [.sl none (a0.map ePt)]] ++ []) { vals := [.ov true [.sl (some 66) (v3.map ePt)]] }, (!true || List.all [.ov true [.sl (some 66) (v3.map ePt)]] simpleR) = true, ([.v (vRt a1)] : List Arg) = [.v (vRt a1)], Meets Try.prog 14 ([.v (vRt a1)] ++ []) { vals := [.p (vRt v4)] }, (!true || List.all [.p (vRt v4)] simpleR) = true, ([.d true [.sl none (eraL (v3.map ePt))], .v (vRt v4), .v (.int .i64 a2)] : List Arg) = [.d true [.sl none (v3.map ePt)], .v (vRt v4), .v (.int .i64 a2)], Meets Try.prog 30 ([.d true [.sl none (v3.map ePt)], .v (vRt v4), .v (.int .i64 a2)] ++ []) { vals := [.ov false [.sl (some 28) (v5.1.map eRt)], .p (.bool v5.2)] }, (!true || List.all [.ov false [.sl (some 28) (v5.1.map eRt)], .p (.bool v5.2)] simpleR) = true] (by kernel_rfl) ⟨(frR1 (frL_enc (fr_P (fr_P fr_I fr_I) (fr_P fr_I fr_I))) rfl), rfl, (wk_laws_toLift hv3), (bt (sa_o (wnR1 (wnL_enc (wn_P (wn_P wn_I wn_I) (wn_P wn_I wn_I))) rfl) rfl)), rfl, (wk_laws_toRat hv4), (bt rfl), (by simp only [eraL_enc (h := ePt) (era_P (era_P er_I er_I) (era_P er_I er_I))]), (wk_spec_LiftOrbit hv5), (bt (sa_o (wnR1 (wnL_enc (wn_P wn_I wn_I)) rfl) (sa_p rfl))), trivial⟩) ?_
  replace h := bind_some' h
  obtain ⟨v6, hv6, h⟩ := h
  refine k_sreg (r_go [(2, .p (.int .i64 a2)), (3, .box [.sl none (a0.map ePt)]), (4, .box (eRt a1)), (8, .ov false [.sl (some 28) (v5.1.map eRt)]), (9, .p (.bool v5.2)), (10, .box [.sl (some 66) (v6.map ePt)])] [(0, {b := some true}), (1, {call := some ([.d true [.sl none (a0.map ePt)]], [.ov true [.sl (some 66) (v6.map ePt)]], true)})] [frR [.sl none (a0.map ePt)] = true, ([.d true [.sl none (a0.map ePt)]] : List Arg) = [.d true [.sl none (a0.map ePt)]], Meets Try.prog 13 ([.d true [.sl none (a0.map ePt)]] ++ []) { vals := [.ov true [.sl (some 66) (v6.map ePt)]] }, (!true || List.all [.ov true [.sl (some 66) (v6.map ePt)]] simpleR) = true] (by kernel_rfl) ⟨(frR1 (frL_enc (fr_P (fr_P fr_I fr_I) (fr_P fr_I fr_I))) rfl), rfl, (wk_laws_toLift hv6), (bt (sa_o (wnR1 (wnL_enc (wn_P (wn_P wn_I wn_I) (wn_P wn_I wn_I))) rfl) rfl)), trivial⟩) ?_
  replace h := bind_some' h
  obtain ⟨v7, hv7, h⟩ := h
  replace h := bind_some' h
  obtain ⟨v8, hv8, h⟩ := h
  refine k_sreg (r_draw Try_mixed 4 [] [(2, .p (.int .i64 a2)), (3, .box [.sl none (a0.map ePt)]), (4, .box (eRt a1)), (8, .ov false [.sl (some 28) (v5.1.map eRt)]), (9, .p (.bool v5.2)), (10, .box [.sl (some 66) (v6.map ePt)]), (11, .ov false [.sl (some 28) (v8.1.map eRt)]), (12, .p (.bool v8.2))] [(2, {call := some ([.v (vRt a1)], [.p (vRt v7)], true)}), (4, {call := some ([.d true [.sl none (v6.map ePt)], .v (vRt v7), .v (.int .i64 a2)], [.ov false [.sl (some 28) (v8.1.map eRt)], .p (.bool v8.2)], true)})] [frR [.sl (some 66) (v6.map ePt)] = false, ([.v (vRt a1)] : List Arg) = [.v (vRt a1)], Meets Try.prog 14 ([.v (vRt a1)] ++ []) { vals := [.p (vRt v7)] }, (!true || List.all [.p (vRt v7)] simpleR) = true, ([.d true [.sl none (eraL (v6.map ePt))], .v (vRt v7), .v (.int .i64 a2)] : List Arg) = [.d true [.sl none (v6.map ePt)], .v (vRt v7), .v (.int .i64 a2)], Meets Try.prog 31 ([.d true [.sl none (v6.map ePt)], .v (vRt v7), .v (.int .i64 a2)] ++ []) { vals := [.ov false [.sl (some 28) (v8.1.map eRt)], .p (.bool v8.2)] }, (!true || List.all [.ov false [.sl (some 28) (v8.1.map eRt)], .p (.bool v8.2)] simpleR) = true] (by kernel_rfl) ⟨rfl, rfl, (wk_laws_toRat hv7), (bt rfl), (by simp only [eraL_enc (h := ePt) (era_P (era_P er_I er_I) (era_P er_I er_I))]), (wk_impl_LiftOrbit hv8), (bt (sa_o (wnR1 (wnL_enc (wn_P wn_I wn_I)) rfl) (sa_p rfl))), trivial⟩) ?_
  refine k_seq ?_
  replace h := bind_some' h
  obtain ⟨v9, hv9, h⟩ := h
  refine k_sreg (l1 := [(2, .p (.int .i64 a2)), (3, .box [.sl none (a0.map ePt)]), (4, .box (eRt a1)), (8, .ov false [.sl (some 28) (v5.1.map eRt)]), (9, .p (.bool v5.2)), (10, .box [.sl (some 66) (v6.map ePt)]), (11, .ov false [.sl (some 28) (v8.1.map eRt)]), (12, .p (.bool v8.2)), (50, .p (.bool ((!v9) || (!(v8.2 == v5.2)))))]) ?_ ?_
  ·rcases Bool.eq_false_or_eq_true (!v9) with ha1 | ha1
   ·exact RegOk.of_eq (l2 := [(2, .p (.int .i64 a2)), (3, .box [.sl none (a0.map ePt)]), (4, .box (eRt a1)), (8, .ov false [.sl (some 28) (v5.1.map eRt)]), (9, .p (.bool v5.2)), (10, .box [.sl (some 66) (v6.map ePt)]), (11, .ov false [.sl (some 28) (v8.1.map eRt)]), (12, .p (.bool v8.2)), (50, .p (.bool ((!v9) || (!(v8.2 == v5.2)))))]) (r_go [(2, .p (.int .i64 a2)), (3, .box [.sl none (a0.map ePt)]), (4, .box (eRt a1)), (8, .ov false [.sl (some 28) (v5.1.map eRt)]), (9, .p (.bool v5.2)), (10, .box [.sl (some 66) (v6.map ePt)]), (11, .ov false [.sl (some 28) (v8.1.map eRt)]), (12, .p (.bool v8.2)), (50, .p (.bool true))] [(2, {call := some ([.d false [.sl none (v8.1.map eRt)], .d false [.sl none (v5.1.map eRt)]], [.p (.bool v9)], true)}), (5, {g := some true}), (6, {g := some true}), (7, {g := some true}), (8, {b := some true})] [([.d false [.sl none (eraL (v8.1.map eRt))], .d false [.sl none (eraL (v5.1.map eRt))]] : List Arg) = [.d false [.sl none (v8.1.map eRt)], .d false [.sl none (v5.1.map eRt)]], Meets Try.prog 32 ([.d false [.sl none (v8.1.map eRt)], .d false [.sl none (v5.1.map eRt)]] ++ []) { vals := [.p (.bool v9)] }, (!true || List.all [.p (.bool v9)] simpleR) = true, (!v9) = true, (!v9) = true, (!v9) = true, (!v9) = true] (by kernel_rfl) ⟨(by simp only [eraL_enc (h := eRt) (era_P er_I er_I), eraL_enc (h := eRt) (era_P er_I er_I)]), (wk_laws_eqRatS hv9), (bt rfl), ha1, ha1, ha1, ha1, trivial⟩) (by simp [ha1])
   ·exact RegOk.of_eq (l2 := [(2, .p (.int .i64 a2)), (3, .box [.sl none (a0.map ePt)]), (4, .box (eRt a1)), (8, .ov false [.sl (some 28) (v5.1.map eRt)]), (9, .p (.bool v5.2)), (10, .box [.sl (some 66) (v6.map ePt)]), (11, .ov false [.sl (some 28) (v8.1.map eRt)]), (12, .p (.bool v8.2)), (50, .p (.bool ((!v9) || (!(v8.2 == v5.2)))))]) (r_go [(2, .p (.int .i64 a2)), (3, .box [.sl none (a0.map ePt)]), (4, .box (eRt a1)), (8, .ov false [.sl (some 28) (v5.1.map eRt)]), (9, .p (.bool v5.2)), (10, .box [.sl (some 66) (v6.map ePt)]), (11, .ov false [.sl (some 28) (v8.1.map eRt)]), (12, .p (.bool v8.2)), (50, .p (.bool (!(v8.2 == v5.2))))] [(2, {call := some ([.d false [.sl none (v8.1.map eRt)], .d false [.sl none (v5.1.map eRt)]], [.p (.bool v9)], true)}), (5, {g := some false}), (6, {g := some false}), (7, {g := some false}), (8, {b := some false})] [([.d false [.sl none (eraL (v8.1.map eRt))], .d false [.sl none (eraL (v5.1.map eRt))]] : List Arg) = [.d false [.sl none (v8.1.map eRt)], .d false [.sl none (v5.1.map eRt)]], Meets Try.prog 32 ([.d false [.sl none (v8.1.map eRt)], .d false [.sl none (v5.1.map eRt)]] ++ []) { vals := [.p (.bool v9)] }, (!true || List.all [.p (.bool v9)] simpleR) = true, (!v9) = false, (!v9) = false, (!v9) = false, (!v9) = false] (by kernel_rfl) ⟨(by simp only [eraL_enc (h := eRt) (era_P er_I er_I), eraL_enc (h := eRt) (era_P er_I er_I)]), (wk_laws_eqRatS hv9), (bt rfl), ha1, ha1, ha1, ha1, trivial⟩) (by simp [ha1])
  ·refine k_cond (b := ((!v9) || (!(v8.2 == v5.2)))) (by kernel_rfl) (fun hc2_9 => ?_) (fun hc2_9 => ?_)
   ·replace h := ite_t hc2_9 h
    refine k_sreg (r_go [(6, .p (.bool false))] [] [] (by kernel_rfl) trivial) ?_
    refine k_ret ?_
    refine q_r ?_
    obtain rfl := Option.some.inj h
    exact e_ret (ls := [(.p (.bool false), 6)]) (by kernel_rfl) rfl (by kernel_rfl) rfl
   ·replace h := ite_f hc2_9 h
    refine k_skip ?_
    refine q_n ?_
    refine k_seq ?_
    replace h := bind_some' h
    obtain ⟨v11, hv11, h⟩ := h
    replace h := bind_some' h
    obtain ⟨v12, hv12, h⟩ := h
    refine k_sreg (r_draw Try_mixed 3 [] [(2, .p (.int .i64 a2)), (3, .box [.sl none (a0.map ePt)]), (4, .box (eRt a1)), (8, .ov false [.sl (some 28) (v5.1.map eRt)]), (9, .p (.bool v5.2)), (10, .box [.sl (some 66) (v6.map ePt)]), (11, .ov false [.sl (some 28) (v8.1.map eRt)]), (12, .p (.bool v8.2)), (55, .p (.bool (!v12)))] [(1, {b := some true}), (2, {call := some ([.d true [.sl none (a0.map ePt)]], [.ov true [.sl (some 66) (v11.map ePt)]], true)}), (3, {call := some ([.d true [.sl none (v6.map ePt)], .d true [.sl none (v11.map ePt)]], [.p (.bool v12)], true)})] [frR [.sl (some 66) (v6.map ePt)] = false, frR [.sl none (a0.map ePt)] = true, ([.d true [.sl none (a0.map ePt)]] : List Arg) = [.d true [.sl none (a0.map ePt)]], Meets Try.prog 13 ([.d true [.sl none (a0.map ePt)]] ++ []) { vals := [.ov true [.sl (some 66) (v11.map ePt)]] }, (!true || List.all [.ov true [.sl (some 66) (v11.map ePt)]] simpleR) = true, ([.d true [.sl none (eraL (v6.map ePt))], .d true [.sl none (eraL (v11.map ePt))]] : List Arg) = [.d true [.sl none (v6.map ePt)], .d true [.sl none (v11.map ePt)]], Meets Try.prog 17 ([.d true [.sl none (v6.map ePt)], .d true [.sl none (v11.map ePt)]] ++ []) { vals := [.p (.bool v12)] }, (!true || List.all [.p (.bool v12)] simpleR) = true] (by kernel_rfl) ⟨rfl, (frR1 (frL_enc (fr_P (fr_P fr_I fr_I) (fr_P fr_I fr_I))) rfl), rfl, (wk_laws_toLift hv11), (bt (sa_o (wnR1 (wnL_enc (wn_P (wn_P wn_I wn_I) (wn_P wn_I wn_I))) rfl) rfl)), (by simp only [eraL_enc (h := ePt) (era_P (era_P er_I er_I) (era_P er_I er_I)), eraL_enc (h := ePt) (era_P (era_P er_I er_I) (era_P er_I er_I))]), (wk_laws_eqLift hv12), (bt rfl), trivial⟩) ?_
    refine k_cond (b := (!v12)) (by kernel_rfl) (fun hc2_12 => ?_) (fun hc2_12 => ?_)
    ·replace h := ite_t hc2_12 h
     refine k_sreg (r_go [(6, .p (.bool false))] [] [] (by kernel_rfl) trivial) ?_
     refine k_ret ?_
     refine q_r ?_
     obtain rfl := Option.some.inj h
     exact e_ret (ls := [(.p (.bool false), 6)]) (by kernel_rfl) rfl (by kernel_rfl) rfl
    ·replace h := ite_f hc2_12 h
     refine k_skip ?_
     refine q_n ?_
     refine k_sreg (r_go [(2, .p (.int .i64 a2)), (3, .box [.sl none (a0.map ePt)]), (4, .box (eRt a1)), (8, .ov false [.sl (some 28) (v5.1.map eRt)]), (9, .p (.bool v5.2)), (10, .box [.sl (some 66) (v6.map ePt)]), (11, .ov false [.sl (some 28) (v8.1.map eRt)]), (12, .p (.bool v8.2)), (13, .p (.int .i64 1))] [] [] (by kernel_rfl) trivial) ?_
     replace h := bind_some' h
     obtain ⟨v14, hv14, h⟩ := h
     refine k_sreg (r_go [(2, .p (.int .i64 a2)), (3, .box [.sl none (a0.map ePt)]), (4, .box (eRt a1)), (8, .ov false [.sl (some 28) (v5.1.map eRt)]), (9, .p (.bool v5.2)), (11, .ov false [.sl (some 28) (v8.1.map eRt)]), (12, .p (.bool v8.2)), (13, .p (.int .i64 v14.1))] [(2, {lend := some ([.v (.int .i64 1)], [.p (.int .i64 v14.1)], .ov true [.sl (some 66) (v14.2.map ePt)], true)})] [frR [.sl (some 66) (v6.map ePt)] = false, ([.v (.int .i64 1)] : List Arg) = [.v (.int .i64 1)], MeetsB Try.prog 33 (.ov true [.sl (some 66) (v6.map ePt)]) [.v (.int .i64 1)] [.p (.int .i64 v14.1)] (.ov true [.sl (some 66) (v14.2.map ePt)]), (!true || (List.all [.p (.int .i64 v14.1)] simpleR && wnS (.ov true [.sl (some 66) (v14.2.map ePt)]))) = true] (by kernel_rfl) ⟨rfl, rfl, (wk_laws_markLift hv14), (bt (ls_t rfl (wnR1 (wnL_enc (wn_P (wn_P wn_I wn_I) (wn_P wn_I wn_I))) rfl))), trivial⟩) ?_
     refine k_seq ?_
     replace h := bind_some' h
     obtain ⟨w16, hw16, h⟩ := h
     refine k_sreg (l1 := [(2, .p (.int .i64 a2)), (3, .box [.sl none (a0.map ePt)]), (4, .box (eRt a1)), (8, .ov false [.sl (some 28) (v5.1.map eRt)]), (9, .p (.bool v5.2)), (11, .ov false [.sl (some 28) (v8.1.map eRt)]), (71, .p (.bool w16))]) ?_ ?_
     ·clear h
      rcases Bool.eq_false_or_eq_true (decide (v14.1 < 0)) with ha3 | ha3
      ·replace hw16 := ite_t ha3 hw16
       have hw16 := Option.some.inj hw16
       subst hw16
       exact (r_go [(2, .p (.int .i64 a2)), (3, .box [.sl none (a0.map ePt)]), (4, .box (eRt a1)), (8, .ov false [.sl (some 28) (v5.1.map eRt)]), (9, .p (.bool v5.2)), (11, .ov false [.sl (some 28) (v8.1.map eRt)]), (71, .p (.bool true))] [(3, {g := some true}), (4, {g := some true}), (5, {g := some true}), (6, {g := some true}), (7, {b := some true}), (9, {g := some true}), (10, {g := some true}), (11, {g := some true}), (12, {b := some true})] [(decide (v14.1 < 0)) = true, (decide (v14.1 < 0)) = true, (decide (v14.1 < 0)) = true, (decide (v14.1 < 0)) = true, (decide (v14.1 < 0)) = true, true = true, true = true, true = true, true = true] (by kernel_rfl) ⟨ha3, ha3, ha3, ha3, ha3, rfl, rfl, rfl, rfl, trivial⟩)
      ·replace hw16 := ite_f ha3 hw16
       replace hw16 := bind_some' hw16
       obtain ⟨v15, hv15, hw16⟩ := hw16
       rcases Bool.eq_false_or_eq_true (!v15) with ha4 | ha4
       ·replace hw16 := ite_t ha4 hw16
        have hw16 := Option.some.inj hw16
        subst hw16
        exact (r_go [(2, .p (.int .i64 a2)), (3, .box [.sl none (a0.map ePt)]), (4, .box (eRt a1)), (8, .ov false [.sl (some 28) (v5.1.map eRt)]), (9, .p (.bool v5.2)), (11, .ov false [.sl (some 28) (v8.1.map eRt)]), (71, .p (.bool true))] [(3, {g := some false}), (4, {g := some false}), (5, {g := some false, call := some ([.d false [.sl none (v8.1.map eRt)], .d false [.sl none (v5.1.map eRt)]], [.p (.bool v15)], true)}), (6, {g := some false}), (7, {b := some false}), (9, {g := some true}), (10, {g := some true}), (11, {g := some true}), (12, {b := some true})] [(decide (v14.1 < 0)) = false, (decide (v14.1 < 0)) = false, (decide (v14.1 < 0)) = false, ([.d false [.sl none (eraL (v8.1.map eRt))], .d false [.sl none (eraL (v5.1.map eRt))]] : List Arg) = [.d false [.sl none (v8.1.map eRt)], .d false [.sl none (v5.1.map eRt)]], Meets Try.prog 32 ([.d false [.sl none (v8.1.map eRt)], .d false [.sl none (v5.1.map eRt)]] ++ []) { vals := [.p (.bool v15)] }, (!true || List.all [.p (.bool v15)] simpleR) = true, (decide (v14.1 < 0)) = false, (decide (v14.1 < 0)) = false, (!v15) = true, (!v15) = true, (!v15) = true, (!v15) = true] (by kernel_rfl) ⟨ha3, ha3, ha3, (by simp only [eraL_enc (h := eRt) (era_P er_I er_I), eraL_enc (h := eRt) (era_P er_I er_I)]), (wk_laws_eqRatS hv15), (bt rfl), ha3, ha3, ha4, ha4, ha4, ha4, trivial⟩)
       ·replace hw16 := ite_f ha4 hw16
        have hw16 := Option.some.inj hw16
        subst hw16
        exact (r_go [(2, .p (.int .i64 a2)), (3, .box [.sl none (a0.map ePt)]), (4, .box (eRt a1)), (8, .ov false [.sl (some 28) (v5.1.map eRt)]), (9, .p (.bool v5.2)), (11, .ov false [.sl (some 28) (v8.1.map eRt)]), (71, .p (.bool (!(v8.2 == v5.2))))] [(3, {g := some false}), (4, {g := some false}), (5, {g := some false, call := some ([.d false [.sl none (v8.1.map eRt)], .d false [.sl none (v5.1.map eRt)]], [.p (.bool v15)], true)}), (6, {g := some false}), (7, {b := some false}), (9, {g := some false}), (10, {g := some false}), (11, {g := some false}), (12, {b := some false})] [(decide (v14.1 < 0)) = false, (decide (v14.1 < 0)) = false, (decide (v14.1 < 0)) = false, ([.d false [.sl none (eraL (v8.1.map eRt))], .d false [.sl none (eraL (v5.1.map eRt))]] : List Arg) = [.d false [.sl none (v8.1.map eRt)], .d false [.sl none (v5.1.map eRt)]], Meets Try.prog 32 ([.d false [.sl none (v8.1.map eRt)], .d false [.sl none (v5.1.map eRt)]] ++ []) { vals := [.p (.bool v15)] }, (!true || List.all [.p (.bool v15)] simpleR) = true, (decide (v14.1 < 0)) = false, (decide (v14.1 < 0)) = false, (!v15) = false, (!v15) = false, (!v15) = false, (!v15) = false] (by kernel_rfl) ⟨ha3, ha3, ha3, (by simp only [eraL_enc (h := eRt) (era_P er_I er_I), eraL_enc (h := eRt) (era_P er_I er_I)]), (wk_laws_eqRatS hv15), (bt rfl), ha3, ha3, ha4, ha4, ha4, ha4, trivial⟩)
     ·refine k_cond (b := w16) (by kernel_rfl) (fun hc2_16 => ?_) (fun hc2_16 => ?_)
      ·replace h := ite_t hc2_16 h
       refine k_sreg (r_go [(6, .p (.bool false))] [] [] (by kernel_rfl) trivial) ?_
       refine k_ret ?_
       refine q_r ?_
       obtain rfl := Option.some.inj h
       exact e_ret (ls := [(.p (.bool false), 6)]) (by kernel_rfl) rfl (by kernel_rfl) rfl
      ·replace h := ite_f hc2_16 h
       refine k_skip ?_
       refine q_n ?_
       refine k_sreg (r_go [(2, .p (.int .i64 a2)), (3, .box [.sl none (a0.map ePt)]), (4, .box (eRt a1)), (8, .ov false [.sl (some 28) (v5.1.map eRt)]), (9, .p (.bool v5.2)), (11, .ov false [.sl (some 28) (v8.1.map eRt)]), (14, .p (.int .i64 1))] [] [] (by kernel_rfl) trivial) ?_
       replace h := bind_some' h
       obtain ⟨v18, hv18, h⟩ := h
       refine k_sreg (r_go [(2, .p (.int .i64 a2)), (3, .box [.sl none (a0.map ePt)]), (4, .box (eRt a1)), (8, .ov false [.sl (some 28) (v5.1.map eRt)]), (9, .p (.bool v5.2)), (11, .ov false [.sl (some 28) (v18.2.map eRt)]), (14, .p (.int .i64 v18.1))] [(2, {lend := some ([.v (.int .i64 1)], [.p (.int .i64 v18.1)], .ov false [.sl (some 28) (v18.2.map eRt)], true)})] [([.v (.int .i64 1)] : List Arg) = [.v (.int .i64 1)], MeetsB Try.prog 34 (.ov false [.sl (some 28) (v8.1.map eRt)]) [.v (.int .i64 1)] [.p (.int .i64 v18.1)] (.ov false [.sl (some 28) (v18.2.map eRt)]), (!true || (List.all [.p (.int .i64 v18.1)] simpleR && wnS (.ov false [.sl (some 28) (v18.2.map eRt)]))) = true] (by kernel_rfl) ⟨rfl, (wk_laws_markRatS hv18), (bt (ls_t rfl (wnR1 (wnL_enc (wn_P wn_I wn_I)) rfl))), trivial⟩) ?_
       refine k_sreg (r_go [(2, .p (.int .i64 a2)), (3, .box [.sl none (a0.map ePt)]), (4, .box (eRt a1)), (8, .ov false [.sl (some 28) (v5.1.map eRt)]), (9, .p (.bool v5.2)), (11, .ov false [.sl (some 28) (v18.2.map eRt)]), (14, .p (.int .i64 v18.1)), (15, .p (.int .i64 1))] [] [] (by kernel_rfl) trivial) ?_
       replace h := bind_some' h
       obtain ⟨v19, hv19, h⟩ := h
       refine k_sreg (r_go [(2, .p (.int .i64 a2)), (3, .box [.sl none (a0.map ePt)]), (4, .box (eRt a1)), (8, .ov false [.sl (some 28) (v5.1.map eRt)]), (9, .p (.bool v5.2)), (11, .ov false [.sl (some 28) (v18.2.map eRt)]), (14, .p (.int .i64 v18.1)), (15, .p (.int .i64 v19))] [(2, {call := some ([.d false [.sl none (v18.2.map eRt)], .v (.int .i64 1)], [.p (.int .i64 v19)], true)})] [([.d false [.sl none (eraL (v18.2.map eRt))], .v (.int .i64 1)] : List Arg) = [.d false [.sl none (v18.2.map eRt)], .v (.int .i64 1)], Meets Try.prog 35 ([.d false [.sl none (v18.2.map eRt)], .v (.int .i64 1)] ++ []) { vals := [.p (.int .i64 v19)] }, (!true || List.all [.p (.int .i64 v19)] simpleR) = true] (by kernel_rfl) ⟨(by simp only [eraL_enc (h := eRt) (era_P er_I er_I)]), (wk_laws_heldRatS hv19), (bt rfl), trivial⟩) ?_
       refine k_seq ?_
       refine k_sreg (r_go [(2, .p (.int .i64 a2)), (3, .box [.sl none (a0.map ePt)]), (4, .box (eRt a1)), (8, .ov false [.sl (some 28) (v5.1.map eRt)]), (9, .p (.bool v5.2)), (11, .ov false [.sl (some 28) (v18.2.map eRt)]), (14, .p (.int .i64 v18.1)), (15, .p (.int .i64 v19)), (79, .p (.bool (decide (v19 < 0))))] [] [] (by kernel_rfl) trivial) ?_
       refine k_cond (b := (decide (v19 < 0))) (by kernel_rfl) (fun hc2_19 => ?_) (fun hc2_19 => ?_)
       ·replace h := ite_t hc2_19 h
        refine k_sreg (r_go [(6, .p (.bool false))] [] [] (by kernel_rfl) trivial) ?_
        refine k_ret ?_
        refine q_r ?_
        obtain rfl := Option.some.inj h
        exact e_ret (ls := [(.p (.bool false), 6)]) (by kernel_rfl) rfl (by kernel_rfl) rfl
       ·replace h := ite_f hc2_19 h
        refine k_skip ?_
        refine q_n ?_
        refine k_seq ?_
        refine k_sreg (r_go [(2, .p (.int .i64 a2)), (3, .box [.sl none (a0.map ePt)]), (4, .box (eRt a1)), (8, .ov false [.sl (some 28) (v5.1.map eRt)]), (9, .p (.bool v5.2)), (11, .ov false [.sl (some 28) (v18.2.map eRt)]), (14, .p (.int .i64 v18.1)), (82, .p (.bool (v19 != v18.1)))] [] [] (by kernel_rfl) trivial) ?_
        refine k_cond (b := (v19 != v18.1)) (by kernel_rfl) (fun hc2_20 => ?_) (fun hc2_20 => ?_)
        ·replace h := ite_t hc2_20 h
         refine k_sreg (r_go [(6, .p (.bool false))] [] [] (by kernel_rfl) trivial) ?_
         refine k_ret ?_
         refine q_r ?_
         obtain rfl := Option.some.inj h
         exact e_ret (ls := [(.p (.bool false), 6)]) (by kernel_rfl) rfl (by kernel_rfl) rfl
        ·replace h := ite_f hc2_20 h
         refine k_skip ?_
         refine q_n ?_
         replace h := bind_some' h
         obtain ⟨v22, hv22, h⟩ := h
         replace h := bind_some' h
         obtain ⟨v23, hv23, h⟩ := h
         replace h := bind_some' h
         obtain ⟨v24, hv24, h⟩ := h
         refine k_sreg (r_draw Try_mixed 5 [] [(8, .ov false [.sl (some 28) (v5.1.map eRt)]), (9, .p (.bool v5.2)), (11, .ov false [.sl (some 28) (v18.2.map eRt)]), (14, .p (.int .i64 v18.1)), (16, .ov false [.sl (some 28) (v24.1.map eRt)]), (17, .p (.bool v24.2))] [(0, {b := some true}), (1, {call := some ([.d true [.sl none (a0.map ePt)]], [.ov true [.sl (some 66) (v22.map ePt)]], true)}), (3, {call := some ([.v (vRt a1)], [.p (vRt v23)], true)}), (5, {call := some ([.d true [.sl none (v22.map ePt)], .v (vRt v23), .v (.int .i64 a2)], [.ov false [.sl (some 28) (v24.1.map eRt)], .p (.bool v24.2)], true)})] [frR [.sl none (a0.map ePt)] = true, ([.d true [.sl none (a0.map ePt)]] : List Arg) = [.d true [.sl none (a0.map ePt)]], Meets Try.prog 13 ([.d true [.sl none (a0.map ePt)]] ++ []) { vals := [.ov true [.sl (some 66) (v22.map ePt)]] }, (!true || List.all [.ov true [.sl (some 66) (v22.map ePt)]] simpleR) = true, ([.v (vRt a1)] : List Arg) = [.v (vRt a1)], Meets Try.prog 14 ([.v (vRt a1)] ++ []) { vals := [.p (vRt v23)] }, (!true || List.all [.p (vRt v23)] simpleR) = true, ([.d true [.sl none (eraL (v22.map ePt))], .v (vRt v23), .v (.int .i64 a2)] : List Arg) = [.d true [.sl none (v22.map ePt)], .v (vRt v23), .v (.int .i64 a2)], Meets Try.prog 31 ([.d true [.sl none (v22.map ePt)], .v (vRt v23), .v (.int .i64 a2)] ++ []) { vals := [.ov false [.sl (some 28) (v24.1.map eRt)], .p (.bool v24.2)] }, (!true || List.all [.ov false [.sl (some 28) (v24.1.map eRt)], .p (.bool v24.2)] simpleR) = true] (by kernel_rfl) ⟨(frR1 (frL_enc (fr_P (fr_P fr_I fr_I) (fr_P fr_I fr_I))) rfl), rfl, (wk_laws_toLift hv22), (bt (sa_o (wnR1 (wnL_enc (wn_P (wn_P wn_I wn_I) (wn_P wn_I wn_I))) rfl) rfl)), rfl, (wk_laws_toRat hv23), (bt rfl), (by simp only [eraL_enc (h := ePt) (era_P (era_P er_I er_I) (era_P er_I er_I))]), (wk_impl_LiftOrbit hv24), (bt (sa_o (wnR1 (wnL_enc (wn_P wn_I wn_I)) rfl) (sa_p rfl))), trivial⟩) ?_
         refine k_seq ?_
         replace h := bind_some' h
         obtain ⟨v25, hv25, h⟩ := h
         refine k_sreg (l1 := [(11, .ov false [.sl (some 28) (v18.2.map eRt)]), (14, .p (.int .i64 v18.1)), (100, .p (.bool ((!v25) || (!(v24.2 == v5.2)))))]) ?_ ?_
         ·rcases Bool.eq_false_or_eq_true (!v25) with ha6 | ha6
          ·exact RegOk.of_eq (l2 := [(11, .ov false [.sl (some 28) (v18.2.map eRt)]), (14, .p (.int .i64 v18.1)), (100, .p (.bool ((!v25) || (!(v24.2 == v5.2)))))]) (r_go [(11, .ov false [.sl (some 28) (v18.2.map eRt)]), (14, .p (.int .i64 v18.1)), (100, .p (.bool true))] [(2, {call := some ([.d false [.sl none (v24.1.map eRt)], .d false [.sl none (v5.1.map eRt)]], [.p (.bool v25)], true)}), (5, {g := some true}), (6, {g := some true}), (7, {g := some true}), (8, {b := some true})] [([.d false [.sl none (eraL (v24.1.map eRt))], .d false [.sl none (eraL (v5.1.map eRt))]] : List Arg) = [.d false [.sl none (v24.1.map eRt)], .d false [.sl none (v5.1.map eRt)]], Meets Try.prog 32 ([.d false [.sl none (v24.1.map eRt)], .d false [.sl none (v5.1.map eRt)]] ++ []) { vals := [.p (.bool v25)] }, (!true || List.all [.p (.bool v25)] simpleR) = true, (!v25) = true, (!v25) = true, (!v25) = true, (!v25) = true] (by kernel_rfl) ⟨(by simp only [eraL_enc (h := eRt) (era_P er_I er_I), eraL_enc (h := eRt) (era_P er_I er_I)]), (wk_laws_eqRatS hv25), (bt rfl), ha6, ha6, ha6, ha6, trivial⟩) (by simp [ha6])
          ·exact RegOk.of_eq (l2 := [(11, .ov false [.sl (some 28) (v18.2.map eRt)]), (14, .p (.int .i64 v18.1)), (100, .p (.bool ((!v25) || (!(v24.2 == v5.2)))))]) (r_go [(11, .ov false [.sl (some 28) (v18.2.map eRt)]), (14, .p (.int .i64 v18.1)), (100, .p (.bool (!(v24.2 == v5.2))))] [(2, {call := some ([.d false [.sl none (v24.1.map eRt)], .d false [.sl none (v5.1.map eRt)]], [.p (.bool v25)], true)}), (5, {g := some false}), (6, {g := some false}), (7, {g := some false}), (8, {b := some false})] [([.d false [.sl none (eraL (v24.1.map eRt))], .d false [.sl none (eraL (v5.1.map eRt))]] : List Arg) = [.d false [.sl none (v24.1.map eRt)], .d false [.sl none (v5.1.map eRt)]], Meets Try.prog 32 ([.d false [.sl none (v24.1.map eRt)], .d false [.sl none (v5.1.map eRt)]] ++ []) { vals := [.p (.bool v25)] }, (!true || List.all [.p (.bool v25)] simpleR) = true, (!v25) = false, (!v25) = false, (!v25) = false, (!v25) = false] (by kernel_rfl) ⟨(by simp only [eraL_enc (h := eRt) (era_P er_I er_I), eraL_enc (h := eRt) (era_P er_I er_I)]), (wk_laws_eqRatS hv25), (bt rfl), ha6, ha6, ha6, ha6, trivial⟩) (by simp [ha6])
         ·refine k_cond (b := ((!v25) || (!(v24.2 == v5.2)))) (by kernel_rfl) (fun hc2_25 => ?_) (fun hc2_25 => ?_)
          ·replace h := ite_t hc2_25 h
           refine k_sreg (r_go [(6, .p (.bool false))] [] [] (by kernel_rfl) trivial) ?_
           refine k_ret ?_
           refine q_r ?_
           obtain rfl := Option.some.inj h
           exact e_ret (ls := [(.p (.bool false), 6)]) (by kernel_rfl) rfl (by kernel_rfl) rfl
          ·replace h := ite_f hc2_25 h
           refine k_skip ?_
           refine q_n ?_
           refine k_sreg (r_go [(11, .ov false [.sl (some 28) (v18.2.map eRt)]), (14, .p (.int .i64 v18.1)), (15, .p (.int .i64 1))] [] [] (by kernel_rfl) trivial) ?_
           replace h := bind_some' h
           obtain ⟨v27, hv27, h⟩ := h
           refine k_sreg (r_go [(14, .p (.int .i64 v18.1)), (15, .p (.int .i64 v27))] [(2, {call := some ([.d false [.sl none (v18.2.map eRt)], .v (.int .i64 1)], [.p (.int .i64 v27)], true)})] [([.d false [.sl none (eraL (v18.2.map eRt))], .v (.int .i64 1)] : List Arg) = [.d false [.sl none (v18.2.map eRt)], .v (.int .i64 1)], Meets Try.prog 35 ([.d false [.sl none (v18.2.map eRt)], .v (.int .i64 1)] ++ []) { vals := [.p (.int .i64 v27)] }, (!true || List.all [.p (.int .i64 v27)] simpleR) = true] (by kernel_rfl) ⟨(by simp only [eraL_enc (h := eRt) (era_P er_I er_I)]), (wk_laws_heldRatS hv27), (bt rfl), trivial⟩) ?_
           refine k_seq ?_
           refine k_sreg (r_go [(14, .p (.int .i64 v18.1)), (15, .p (.int .i64 v27)), (105, .p (.bool (decide (v27 < 0))))] [] [] (by kernel_rfl) trivial) ?_
           refine k_cond (b := (decide (v27 < 0))) (by kernel_rfl) (fun hc2_27 => ?_) (fun hc2_27 => ?_)
           ·replace h := ite_t hc2_27 h
            refine k_sreg (r_go [(6, .p (.bool false))] [] [] (by kernel_rfl) trivial) ?_
            refine k_ret ?_
            refine q_r ?_
            obtain rfl := Option.some.inj h
            exact e_ret (ls := [(.p (.bool false), 6)]) (by kernel_rfl) rfl (by kernel_rfl) rfl
           ·replace h := ite_f hc2_27 h
            refine k_skip ?_
            refine q_n ?_
            refine k_seq ?_
            refine k_sreg (r_go [(108, .p (.bool (v27 != v18.1)))] [] [] (by kernel_rfl) trivial) ?_
            refine k_cond (b := (v27 != v18.1)) (by kernel_rfl) (fun hc2_28 => ?_) (fun hc2_28 => ?_)
            ·replace h := ite_t hc2_28 h
             refine k_sreg (r_go [(6, .p (.bool false))] [] [] (by kernel_rfl) trivial) ?_
             refine k_ret ?_
             refine q_r ?_
             obtain rfl := Option.some.inj h
             exact e_ret (ls := [(.p (.bool false), 6)]) (by kernel_rfl) rfl (by kernel_rfl) rfl
            ·replace h := ite_f hc2_28 h
             refine k_skip ?_
             refine q_n ?_
             refine k_sreg (r_go [(6, .p (.bool true))] [] [] (by kernel_rfl) trivial) ?_
             refine k_ret ?_
             obtain rfl := Option.some.inj h
             exact e_ret (ls := [(.p (.bool true), 6)]) (by kernel_rfl) rfl (by kernel_rfl) rfl
end Go.PV

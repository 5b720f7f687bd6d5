/-
  Walks through the functions that the law reaches: each answers as its plain definition does.
  Conditions: none.
-/
import Derived.KernelRfl
import Derived.Test.YteppmfabggkiiaaWExactRotationBoundsPartA
import Derived.Test.YteppmfabggkiiaaProg
open Go Go.PV Go.Proofs
set_option linter.all false
namespace Go.PV
attribute [local irreducible] pvC pvL pvD sOp seqQ blockQ Meets MeetsB Ok OkL RegOk agree endQ seqL blockL loopQ endL endLB
theorem wk_impl_calc_slope {a0 : Bool} {a1 : ((Int × Int) × (Int × Int))} {a2 : ((Int × Int) × (Int × Int))}  {r : ((Int × Int) × Bool)} (h : impl_calc_slope a0 a1 a2 = some r) : MeetsB Try.prog 109 (.box [.raw (.bool a0)]) [.v (.agg #[.int .i64 a1.1.1, .int .i64 a1.1.2, .int .i64 a1.2.1, .int .i64 a1.2.2]), .v (.agg #[.int .i64 a2.1.1, .int .i64 a2.1.2, .int .i64 a2.2.1, .int .i64 a2.2.2])] [.p (.agg #[.int .i64 r.1.1, .int .i64 r.1.2])] (.box [.raw (.bool r.2)]) := by
  refine MeetsB_ofL (by kernel_rfl) Try.func109 rfl (by kernel_rfl) rfl (l0 := [(0, .box [.raw (.bool a0)]), (1, .p (.agg #[.int .i64 a1.1.1, .int .i64 a1.1.2, .int .i64 a1.2.1, .int .i64 a1.2.2])), (2, .p (.agg #[.int .i64 a2.1.1, .int .i64 a2.1.2, .int .i64 a2.2.1, .int .i64 a2.2.2]))]) (by kernel_rfl) ?_
  unfold impl_calc_slope at h
  refine k_sreg (r_go [(0, .box [.raw (.bool a0)]), (4, .box [.raw (.int .i64 a1.1.1), .raw (.int .i64 a1.1.2), .raw (.int .i64 a1.2.1), .raw (.int .i64 a1.2.2)]), (5, .box [.raw (.int .i64 a2.1.1), .raw (.int .i64 a2.1.2), .raw (.int .i64 a2.2.1), .raw (.int .i64 a2.2.2)]), (6, .box [.raw (.int .i64 0), .raw (.int .i64 0)])] [] [] (by kernel_rfl) trivial) ?_
  replace h := bind_some' h
  obtain ⟨v1, hv1, h⟩ := h
  replace h := bind_some' h
  obtain ⟨v2, hv2, h⟩ := h
  replace h := bind_some' h
  obtain ⟨v3, hv3, h⟩ := h
  refine k_sreg (r_draw Try_mixed 13 [(6, 0), (12, 0)] [(0, .box [.raw (.bool v3.2)]), (6, .box [.raw (.int .i64 v3.1.1), .raw (.int .i64 v3.1.2)])] [(6, {lend := some ([.v (.agg #[.int .i64 a2.2.1, .int .i64 a2.2.2]), .v (.agg #[.int .i64 a1.2.1, .int .i64 a1.2.2])], [.p (.agg #[.int .i64 v1.1.1, .int .i64 v1.1.2])], .box [.raw (.bool v1.2)], true)}), (12, {lend := some ([.v (.agg #[.int .i64 a2.1.1, .int .i64 a2.1.2]), .v (.agg #[.int .i64 a1.1.1, .int .i64 a1.1.2])], [.p (.agg #[.int .i64 v2.1.1, .int .i64 v2.1.2])], .box [.raw (.bool v2.2)], true)}), (13, {lend := some ([.v (.agg #[.int .i64 v1.1.1, .int .i64 v1.1.2]), .v (.agg #[.int .i64 v2.1.1, .int .i64 v2.1.2])], [.p (.agg #[.int .i64 v3.1.1, .int .i64 v3.1.2])], .box [.raw (.bool v3.2)], true)})] [([.v (.agg #[.int .i64 a2.2.1, .int .i64 a2.2.2]), .v (.agg #[.int .i64 a1.2.1, .int .i64 a1.2.2])] : List Arg) = [.v (.agg #[.int .i64 a2.2.1, .int .i64 a2.2.2]), .v (.agg #[.int .i64 a1.2.1, .int .i64 a1.2.2])], MeetsB Try.prog 62 (.box [.raw (.bool a0)]) [.v (.agg #[.int .i64 a2.2.1, .int .i64 a2.2.2]), .v (.agg #[.int .i64 a1.2.1, .int .i64 a1.2.2])] [.p (.agg #[.int .i64 v1.1.1, .int .i64 v1.1.2])] (.box [.raw (.bool v1.2)]), List.all [.p (.agg #[.int .i64 v1.1.1, .int .i64 v1.1.2])] simpleR = true, ([.v (.agg #[.int .i64 a2.1.1, .int .i64 a2.1.2]), .v (.agg #[.int .i64 a1.1.1, .int .i64 a1.1.2])] : List Arg) = [.v (.agg #[.int .i64 a2.1.1, .int .i64 a2.1.2]), .v (.agg #[.int .i64 a1.1.1, .int .i64 a1.1.2])], MeetsB Try.prog 62 (.box [.raw (.bool v1.2)]) [.v (.agg #[.int .i64 a2.1.1, .int .i64 a2.1.2]), .v (.agg #[.int .i64 a1.1.1, .int .i64 a1.1.2])] [.p (.agg #[.int .i64 v2.1.1, .int .i64 v2.1.2])] (.box [.raw (.bool v2.2)]), List.all [.p (.agg #[.int .i64 v2.1.1, .int .i64 v2.1.2])] simpleR = true, ([.v (.agg #[.int .i64 v1.1.1, .int .i64 v1.1.2]), .v (.agg #[.int .i64 v2.1.1, .int .i64 v2.1.2])] : List Arg) = [.v (.agg #[.int .i64 v1.1.1, .int .i64 v1.1.2]), .v (.agg #[.int .i64 v2.1.1, .int .i64 v2.1.2])], MeetsB Try.prog 61 (.box [.raw (.bool v2.2)]) [.v (.agg #[.int .i64 v1.1.1, .int .i64 v1.1.2]), .v (.agg #[.int .i64 v2.1.1, .int .i64 v2.1.2])] [.p (.agg #[.int .i64 v3.1.1, .int .i64 v3.1.2])] (.box [.raw (.bool v3.2)]), (List.all [.p (.agg #[.int .i64 v3.1.1, .int .i64 v3.1.2])] simpleR && wnS (.box [.raw (.bool v3.2)])) = true] (by kernel_rfl) ⟨rfl, (wk_impl_calc_sub hv1), rfl, rfl, (wk_impl_calc_sub hv2), rfl, rfl, (wk_impl_calc_div hv3), (ls_t rfl (wnc rfl)), trivial⟩) ?_
  refine k_ret ?_
  obtain rfl := Option.some.inj h
  exact eb_ret (ls := [(.p (.agg #[.int .i64 v3.1.1, .int .i64 v3.1.2]), 6)]) (by kernel_rfl) rfl rfl (by kernel_rfl) (by kernel_rfl)
theorem wk_impl_MultiplyRats {a0 : (Int × Int)} {a1 : (Int × Int)}  {r : ((Int × Int) × Bool)} (h : impl_MultiplyRats a0 a1 = some r) : Meets Try.prog 116 [.v (.agg #[.int .i64 a0.1, .int .i64 a0.2]), .v (.agg #[.int .i64 a1.1, .int .i64 a1.2])] { vals := [.p (.agg #[.int .i64 r.1.1, .int .i64 r.1.2]), .p (.bool r.2)] } := by
  refine Meets_ofL (by kernel_rfl) Try.func116 rfl (by kernel_rfl) (l0 := [(0, .p (.agg #[.int .i64 a0.1, .int .i64 a0.2])), (1, .p (.agg #[.int .i64 a1.1, .int .i64 a1.2]))]) (by kernel_rfl) ?_
  unfold impl_MultiplyRats at h
  refine k_sreg (r_go [(2, .box [.raw (.int .i64 a0.1), .raw (.int .i64 a0.2)]), (3, .box [.raw (.int .i64 a1.1), .raw (.int .i64 a1.2)]), (4, .box [.raw (.int .i64 0), .raw (.int .i64 0)])] [] [] (by kernel_rfl) trivial) ?_
  refine k_seq ?_
  replace h := bind_some' h
  obtain ⟨v1, hv1, h⟩ := h
  refine k_sreg (r_go [(2, .box [.raw (.int .i64 a0.1), .raw (.int .i64 a0.2)]), (3, .box [.raw (.int .i64 a1.1), .raw (.int .i64 a1.2)]), (4, .box [.raw (.int .i64 0), .raw (.int .i64 0)]), (10, .p (.bool (!v1)))] [(3, {call := some ([.d false [.sl none (([a0, a1]).map (eP eI eI))]], [.p (.bool v1)], true)})] [([.d false [.sl none (eraL (([a0, a1]).map (eP eI eI)))]] : List Arg) = [.d false [.sl none (([a0, a1]).map (eP eI eI))]], Meets Try.prog 95 ([.d false [.sl none (([a0, a1]).map (eP eI eI))]] ++ []) { vals := [.p (.bool v1)] }, List.all [.p (.bool v1)] simpleR = true] (by kernel_rfl) ⟨(by simp only [eraL_enc (h := (eP eI eI)) (era_P er_I er_I)]), (wk_impl_areRats hv1), rfl, trivial⟩) ?_
  refine k_cond (b := (!v1)) (by kernel_rfl) (fun hc2_1 => ?_) (fun hc2_1 => ?_)
  · replace h := ite_t hc2_1 h
    refine k_sreg (r_go [(4, .box [.raw (.int .i64 0), .raw (.int .i64 0)]), (5, .p (.bool false))] [] [] (by kernel_rfl) trivial) ?_
    refine k_ret ?_
    refine q_r ?_
    obtain rfl := Option.some.inj h
    exact e_ret (ls := [(.p (.agg #[.int .i64 0, .int .i64 0]), 4), (.p (.bool false), 5)]) (by kernel_rfl) rfl (by kernel_rfl) rfl
  · replace h := ite_f hc2_1 h
    refine k_skip ?_
    refine q_n ?_
    replace h := bind_some' h
    obtain ⟨v3, hv3, h⟩ := h
    refine k_sreg (r_go [(4, .box [.raw (.int .i64 v3.1.1), .raw (.int .i64 v3.1.2)]), (5, .p (.bool v3.2))] [(10, {call := some ([.v (.int .i64 (w64 (a0.1 * a1.1))), .v (.int .i64 (w64 (a0.2 * a1.2)))], [.p (.agg #[.int .i64 v3.1.1, .int .i64 v3.1.2]), .p (.bool v3.2)], true)})] [([.v (.int .i64 (w64 (a0.1 * a1.1))), .v (.int .i64 (w64 (a0.2 * a1.2)))] : List Arg) = [.v (.int .i64 (w64 (a0.1 * a1.1))), .v (.int .i64 (w64 (a0.2 * a1.2)))], Meets Try.prog 67 ([.v (.int .i64 (w64 (a0.1 * a1.1))), .v (.int .i64 (w64 (a0.2 * a1.2)))] ++ []) { vals := [.p (.agg #[.int .i64 v3.1.1, .int .i64 v3.1.2]), .p (.bool v3.2)] }, List.all [.p (.agg #[.int .i64 v3.1.1, .int .i64 v3.1.2]), .p (.bool v3.2)] simpleR = true] (by kernel_rfl) ⟨rfl, (wk_impl_lowest hv3), rfl, trivial⟩) ?_
    refine k_ret ?_
    obtain rfl := Option.some.inj h
    exact e_ret (ls := [(.p (.agg #[.int .i64 v3.1.1, .int .i64 v3.1.2]), 4), (.p (.bool v3.2), 5)]) (by kernel_rfl) rfl (by kernel_rfl) rfl
theorem wk_impl_calc_mul {a0 : Bool} {a1 : (Int × Int)} {a2 : (Int × Int)}  {r : ((Int × Int) × Bool)} (h : impl_calc_mul a0 a1 a2 = some r) : MeetsB Try.prog 115 (.box [.raw (.bool a0)]) [.v (.agg #[.int .i64 a1.1, .int .i64 a1.2]), .v (.agg #[.int .i64 a2.1, .int .i64 a2.2])] [.p (.agg #[.int .i64 r.1.1, .int .i64 r.1.2])] (.box [.raw (.bool r.2)]) := by
  refine MeetsB_ofL (by kernel_rfl) Try.func115 rfl (by kernel_rfl) rfl (l0 := [(0, .box [.raw (.bool a0)]), (1, .p (.agg #[.int .i64 a1.1, .int .i64 a1.2])), (2, .p (.agg #[.int .i64 a2.1, .int .i64 a2.2]))]) (by kernel_rfl) ?_
  unfold impl_calc_mul at h
  refine k_sreg (r_go [(0, .box [.raw (.bool a0)]), (4, .box [.raw (.int .i64 a1.1), .raw (.int .i64 a1.2)]), (5, .box [.raw (.int .i64 a2.1), .raw (.int .i64 a2.2)]), (6, .box [.raw (.int .i64 0), .raw (.int .i64 0)])] [] [] (by kernel_rfl) trivial) ?_
  replace h := bind_some' h
  obtain ⟨v1, hv1, h⟩ := h
  replace h := bind_some' h
  obtain ⟨v2, hv2, h⟩ := h
  refine k_sreg (r_go [(0, .box [.raw (.bool v2.2)]), (6, .box [.raw (.int .i64 v2.1.1), .raw (.int .i64 v2.1.2)])] [(3, {call := some ([.v (.agg #[.int .i64 a1.1, .int .i64 a1.2]), .v (.agg #[.int .i64 a2.1, .int .i64 a2.2])], [.p (.agg #[.int .i64 v1.1.1, .int .i64 v1.1.2]), .p (.bool v1.2)], true)}), (6, {lend := some ([.v (.agg #[.int .i64 v1.1.1, .int .i64 v1.1.2]), .v (.bool v1.2)], [.p (.agg #[.int .i64 v2.1.1, .int .i64 v2.1.2])], .box [.raw (.bool v2.2)], true)})] [([.v (.agg #[.int .i64 a1.1, .int .i64 a1.2]), .v (.agg #[.int .i64 a2.1, .int .i64 a2.2])] : List Arg) = [.v (.agg #[.int .i64 a1.1, .int .i64 a1.2]), .v (.agg #[.int .i64 a2.1, .int .i64 a2.2])], Meets Try.prog 116 ([.v (.agg #[.int .i64 a1.1, .int .i64 a1.2]), .v (.agg #[.int .i64 a2.1, .int .i64 a2.2])] ++ []) { vals := [.p (.agg #[.int .i64 v1.1.1, .int .i64 v1.1.2]), .p (.bool v1.2)] }, List.all [.p (.agg #[.int .i64 v1.1.1, .int .i64 v1.1.2]), .p (.bool v1.2)] simpleR = true, ([.v (.agg #[.int .i64 v1.1.1, .int .i64 v1.1.2]), .v (.bool v1.2)] : List Arg) = [.v (.agg #[.int .i64 v1.1.1, .int .i64 v1.1.2]), .v (.bool v1.2)], MeetsB Try.prog 66 (.box [.raw (.bool a0)]) [.v (.agg #[.int .i64 v1.1.1, .int .i64 v1.1.2]), .v (.bool v1.2)] [.p (.agg #[.int .i64 v2.1.1, .int .i64 v2.1.2])] (.box [.raw (.bool v2.2)]), (List.all [.p (.agg #[.int .i64 v2.1.1, .int .i64 v2.1.2])] simpleR && wnS (.box [.raw (.bool v2.2)])) = true] (by kernel_rfl) ⟨rfl, (wk_impl_MultiplyRats hv1), rfl, rfl, (wk_impl_calc_keep hv2), (ls_t rfl (wnc rfl)), trivial⟩) ?_
  refine k_ret ?_
  obtain rfl := Option.some.inj h
  exact eb_ret (ls := [(.p (.agg #[.int .i64 v2.1.1, .int .i64 v2.1.2]), 6)]) (by kernel_rfl) rfl rfl (by kernel_rfl) (by kernel_rfl)
theorem wk_impl_calc_add {a0 : Bool} {a1 : (Int × Int)} {a2 : (Int × Int)}  {r : ((Int × Int) × Bool)} (h : impl_calc_add a0 a1 a2 = some r) : MeetsB Try.prog 85 (.box [.raw (.bool a0)]) [.v (.agg #[.int .i64 a1.1, .int .i64 a1.2]), .v (.agg #[.int .i64 a2.1, .int .i64 a2.2])] [.p (.agg #[.int .i64 r.1.1, .int .i64 r.1.2])] (.box [.raw (.bool r.2)]) := by
  refine MeetsB_ofL (by kernel_rfl) Try.func85 rfl (by kernel_rfl) rfl (l0 := [(0, .box [.raw (.bool a0)]), (1, .p (.agg #[.int .i64 a1.1, .int .i64 a1.2])), (2, .p (.agg #[.int .i64 a2.1, .int .i64 a2.2]))]) (by kernel_rfl) ?_
  unfold impl_calc_add at h
  refine k_sreg (r_go [(0, .box [.raw (.bool a0)]), (4, .box [.raw (.int .i64 a1.1), .raw (.int .i64 a1.2)]), (5, .box [.raw (.int .i64 a2.1), .raw (.int .i64 a2.2)]), (6, .box [.raw (.int .i64 0), .raw (.int .i64 0)])] [] [] (by kernel_rfl) trivial) ?_
  replace h := bind_some' h
  obtain ⟨v1, hv1, h⟩ := h
  replace h := bind_some' h
  obtain ⟨v2, hv2, h⟩ := h
  refine k_sreg (r_go [(0, .box [.raw (.bool v2.2)]), (6, .box [.raw (.int .i64 v2.1.1), .raw (.int .i64 v2.1.2)])] [(3, {call := some ([.v (.agg #[.int .i64 a1.1, .int .i64 a1.2]), .v (.agg #[.int .i64 a2.1, .int .i64 a2.2])], [.p (.agg #[.int .i64 v1.1.1, .int .i64 v1.1.2]), .p (.bool v1.2)], true)}), (6, {lend := some ([.v (.agg #[.int .i64 v1.1.1, .int .i64 v1.1.2]), .v (.bool v1.2)], [.p (.agg #[.int .i64 v2.1.1, .int .i64 v2.1.2])], .box [.raw (.bool v2.2)], true)})] [([.v (.agg #[.int .i64 a1.1, .int .i64 a1.2]), .v (.agg #[.int .i64 a2.1, .int .i64 a2.2])] : List Arg) = [.v (.agg #[.int .i64 a1.1, .int .i64 a1.2]), .v (.agg #[.int .i64 a2.1, .int .i64 a2.2])], Meets Try.prog 57 ([.v (.agg #[.int .i64 a1.1, .int .i64 a1.2]), .v (.agg #[.int .i64 a2.1, .int .i64 a2.2])] ++ []) { vals := [.p (.agg #[.int .i64 v1.1.1, .int .i64 v1.1.2]), .p (.bool v1.2)] }, List.all [.p (.agg #[.int .i64 v1.1.1, .int .i64 v1.1.2]), .p (.bool v1.2)] simpleR = true, ([.v (.agg #[.int .i64 v1.1.1, .int .i64 v1.1.2]), .v (.bool v1.2)] : List Arg) = [.v (.agg #[.int .i64 v1.1.1, .int .i64 v1.1.2]), .v (.bool v1.2)], MeetsB Try.prog 66 (.box [.raw (.bool a0)]) [.v (.agg #[.int .i64 v1.1.1, .int .i64 v1.1.2]), .v (.bool v1.2)] [.p (.agg #[.int .i64 v2.1.1, .int .i64 v2.1.2])] (.box [.raw (.bool v2.2)]), (List.all [.p (.agg #[.int .i64 v2.1.1, .int .i64 v2.1.2])] simpleR && wnS (.box [.raw (.bool v2.2)])) = true] (by kernel_rfl) ⟨rfl, (wk_impl_AddRats hv1), rfl, rfl, (wk_impl_calc_keep hv2), (ls_t rfl (wnc rfl)), trivial⟩) ?_
  refine k_ret ?_
  obtain rfl := Option.some.inj h
  exact eb_ret (ls := [(.p (.agg #[.int .i64 v2.1.1, .int .i64 v2.1.2]), 6)]) (by kernel_rfl) rfl rfl (by kernel_rfl) (by kernel_rfl)
theorem wk_impl_calc_line {a0 : Bool} {a1 : ((Int × Int) × (Int × Int))} {a2 : (Int × Int)} {a3 : (Int × Int)}  {r : ((Int × Int) × Bool)} (h : impl_calc_line a0 a1 a2 a3 = some r) : MeetsB Try.prog 108 (.box [.raw (.bool a0)]) [.v (.agg #[.int .i64 a1.1.1, .int .i64 a1.1.2, .int .i64 a1.2.1, .int .i64 a1.2.2]), .v (.agg #[.int .i64 a2.1, .int .i64 a2.2]), .v (.agg #[.int .i64 a3.1, .int .i64 a3.2])] [.p (.agg #[.int .i64 r.1.1, .int .i64 r.1.2])] (.box [.raw (.bool r.2)]) := by
  refine MeetsB_ofL (by kernel_rfl) Try.func108 rfl (by kernel_rfl) rfl (l0 := [(0, .box [.raw (.bool a0)]), (1, .p (.agg #[.int .i64 a1.1.1, .int .i64 a1.1.2, .int .i64 a1.2.1, .int .i64 a1.2.2])), (2, .p (.agg #[.int .i64 a2.1, .int .i64 a2.2])), (3, .p (.agg #[.int .i64 a3.1, .int .i64 a3.2]))]) (by kernel_rfl) ?_
  unfold impl_calc_line at h
  refine k_sreg (r_go [(0, .box [.raw (.bool a0)]), (5, .box [.raw (.int .i64 a1.1.1), .raw (.int .i64 a1.1.2), .raw (.int .i64 a1.2.1), .raw (.int .i64 a1.2.2)]), (6, .box [.raw (.int .i64 a2.1), .raw (.int .i64 a2.2)]), (7, .box [.raw (.int .i64 a3.1), .raw (.int .i64 a3.2)]), (8, .box [.raw (.int .i64 0), .raw (.int .i64 0)])] [] [] (by kernel_rfl) trivial) ?_
  replace h := bind_some' h
  obtain ⟨v1, hv1, h⟩ := h
  replace h := bind_some' h
  obtain ⟨v2, hv2, h⟩ := h
  replace h := bind_some' h
  obtain ⟨v3, hv3, h⟩ := h
  refine k_sreg (r_draw Try_mixed 11 [(9, 0), (10, 0)] [(0, .box [.raw (.bool v3.2)]), (8, .box [.raw (.int .i64 v3.1.1), .raw (.int .i64 v3.1.2)])] [(9, {lend := some ([.v (.agg #[.int .i64 a3.1, .int .i64 a3.2]), .v (.agg #[.int .i64 a1.1.1, .int .i64 a1.1.2])], [.p (.agg #[.int .i64 v1.1.1, .int .i64 v1.1.2])], .box [.raw (.bool v1.2)], true)}), (10, {lend := some ([.v (.agg #[.int .i64 a2.1, .int .i64 a2.2]), .v (.agg #[.int .i64 v1.1.1, .int .i64 v1.1.2])], [.p (.agg #[.int .i64 v2.1.1, .int .i64 v2.1.2])], .box [.raw (.bool v2.2)], true)}), (11, {lend := some ([.v (.agg #[.int .i64 a1.2.1, .int .i64 a1.2.2]), .v (.agg #[.int .i64 v2.1.1, .int .i64 v2.1.2])], [.p (.agg #[.int .i64 v3.1.1, .int .i64 v3.1.2])], .box [.raw (.bool v3.2)], true)})] [([.v (.agg #[.int .i64 a3.1, .int .i64 a3.2]), .v (.agg #[.int .i64 a1.1.1, .int .i64 a1.1.2])] : List Arg) = [.v (.agg #[.int .i64 a3.1, .int .i64 a3.2]), .v (.agg #[.int .i64 a1.1.1, .int .i64 a1.1.2])], MeetsB Try.prog 62 (.box [.raw (.bool a0)]) [.v (.agg #[.int .i64 a3.1, .int .i64 a3.2]), .v (.agg #[.int .i64 a1.1.1, .int .i64 a1.1.2])] [.p (.agg #[.int .i64 v1.1.1, .int .i64 v1.1.2])] (.box [.raw (.bool v1.2)]), List.all [.p (.agg #[.int .i64 v1.1.1, .int .i64 v1.1.2])] simpleR = true, ([.v (.agg #[.int .i64 a2.1, .int .i64 a2.2]), .v (.agg #[.int .i64 v1.1.1, .int .i64 v1.1.2])] : List Arg) = [.v (.agg #[.int .i64 a2.1, .int .i64 a2.2]), .v (.agg #[.int .i64 v1.1.1, .int .i64 v1.1.2])], MeetsB Try.prog 115 (.box [.raw (.bool v1.2)]) [.v (.agg #[.int .i64 a2.1, .int .i64 a2.2]), .v (.agg #[.int .i64 v1.1.1, .int .i64 v1.1.2])] [.p (.agg #[.int .i64 v2.1.1, .int .i64 v2.1.2])] (.box [.raw (.bool v2.2)]), List.all [.p (.agg #[.int .i64 v2.1.1, .int .i64 v2.1.2])] simpleR = true, ([.v (.agg #[.int .i64 a1.2.1, .int .i64 a1.2.2]), .v (.agg #[.int .i64 v2.1.1, .int .i64 v2.1.2])] : List Arg) = [.v (.agg #[.int .i64 a1.2.1, .int .i64 a1.2.2]), .v (.agg #[.int .i64 v2.1.1, .int .i64 v2.1.2])], MeetsB Try.prog 85 (.box [.raw (.bool v2.2)]) [.v (.agg #[.int .i64 a1.2.1, .int .i64 a1.2.2]), .v (.agg #[.int .i64 v2.1.1, .int .i64 v2.1.2])] [.p (.agg #[.int .i64 v3.1.1, .int .i64 v3.1.2])] (.box [.raw (.bool v3.2)]), (List.all [.p (.agg #[.int .i64 v3.1.1, .int .i64 v3.1.2])] simpleR && wnS (.box [.raw (.bool v3.2)])) = true] (by kernel_rfl) ⟨rfl, (wk_impl_calc_sub hv1), rfl, rfl, (wk_impl_calc_mul hv2), rfl, rfl, (wk_impl_calc_add hv3), (ls_t rfl (wnc rfl)), trivial⟩) ?_
  refine k_ret ?_
  obtain rfl := Option.some.inj h
  exact eb_ret (ls := [(.p (.agg #[.int .i64 v3.1.1, .int .i64 v3.1.2]), 8)]) (by kernel_rfl) rfl rfl (by kernel_rfl) (by kernel_rfl)
theorem wk_impl_calc_value {a0 : Bool} {a1 : (List ((Int × Int) × (Int × Int)))} {a2 : (Int × Int)}  {r : ((Int × Int) × Bool)} (h : impl_calc_value a0 a1 a2 = some r) : MeetsB Try.prog 86 (.box [.raw (.bool a0)]) [.d false [.sl none (a1.map (eP (eP eI eI) (eP eI eI)))], .v (.agg #[.int .i64 a2.1, .int .i64 a2.2])] [.p (.agg #[.int .i64 r.1.1, .int .i64 r.1.2])] (.box [.raw (.bool r.2)]) := by
  refine MeetsB_ofL (by kernel_rfl) Try.func86 rfl (by kernel_rfl) rfl (l0 := [(0, .box [.raw (.bool a0)]), (1, .d false [.sl none (a1.map (eP (eP eI eI) (eP eI eI)))]), (2, .p (.agg #[.int .i64 a2.1, .int .i64 a2.2]))]) (by kernel_rfl) ?_
  unfold impl_calc_value at h
  refine k_sreg (r_go [(0, .box [.raw (.bool a0)]), (1, .d false [.sl none (a1.map (eP (eP eI eI) (eP eI eI)))]), (5, .box [.raw (.int .i64 a2.1), .raw (.int .i64 a2.2)]), (6, .box [.raw (.int .i64 0), .raw (.int .i64 0)])] [] [] (by kernel_rfl) trivial) ?_
  replace h := bind_some' h
  obtain ⟨v1, hv1, h⟩ := h
  refine k_sreg (r_go [(0, .box [.raw (.bool a0)]), (1, .d false [.sl none (a1.map (eP (eP eI eI) (eP eI eI)))]), (5, .box [.raw (.int .i64 a2.1), .raw (.int .i64 a2.2)]), (6, .box [.raw (.int .i64 0), .raw (.int .i64 0)]), (7, .p (.int .i64 v1))] [(2, {call := some ([.d false [.sl none (a1.map (eP (eP eI eI) (eP eI eI)))], .v (.agg #[.int .i64 a2.1, .int .i64 a2.2])], [.p (.int .i64 v1)], true)})] [([.d false [.sl none (a1.map (eP (eP eI eI) (eP eI eI)))], .v (.agg #[.int .i64 a2.1, .int .i64 a2.2])] : List Arg) = [.d false [.sl none (a1.map (eP (eP eI eI) (eP eI eI)))], .v (.agg #[.int .i64 a2.1, .int .i64 a2.2])], Meets Try.prog 107 ([.d false [.sl none (a1.map (eP (eP eI eI) (eP eI eI)))], .v (.agg #[.int .i64 a2.1, .int .i64 a2.2])] ++ []) { vals := [.p (.int .i64 v1)] }, List.all [.p (.int .i64 v1)] simpleR = true] (by kernel_rfl) ⟨rfl, (wk_impl_pieceAt hv1), rfl, trivial⟩) ?_
  replace h := bind_some' h
  obtain ⟨v2, hv2, h⟩ := h
  replace h := bind_some' h
  obtain ⟨v3, hv3, h⟩ := h
  replace h := bind_some' h
  obtain ⟨v4, hv4, h⟩ := h
  replace h := bind_some' h
  obtain ⟨v5, hv5, h⟩ := h
  refine k_sreg (r_draw Try_mixed 17 [(15, 0)] [(0, .box [.raw (.bool v5.2)]), (6, .box [.raw (.int .i64 v5.1.1), .raw (.int .i64 v5.1.2)])] [(3, {row := some [.raw (.int .i64 v2.1.1), .raw (.int .i64 v2.1.2), .raw (.int .i64 v2.2.1), .raw (.int .i64 v2.2.2)]}), (8, {row := some [.raw (.int .i64 v2.1.1), .raw (.int .i64 v2.1.2), .raw (.int .i64 v2.2.1), .raw (.int .i64 v2.2.2)]}), (13, {row := some [.raw (.int .i64 v3.1.1), .raw (.int .i64 v3.1.2), .raw (.int .i64 v3.2.1), .raw (.int .i64 v3.2.2)]}), (15, {lend := some ([.v (.agg #[.int .i64 v2.1.1, .int .i64 v2.1.2, .int .i64 v2.2.1, .int .i64 v2.2.2]), .v (.agg #[.int .i64 v3.1.1, .int .i64 v3.1.2, .int .i64 v3.2.1, .int .i64 v3.2.2])], [.p (.agg #[.int .i64 v4.1.1, .int .i64 v4.1.2])], .box [.raw (.bool v4.2)], true)}), (17, {lend := some ([.v (.agg #[.int .i64 v2.1.1, .int .i64 v2.1.2, .int .i64 v2.2.1, .int .i64 v2.2.2]), .v (.agg #[.int .i64 v4.1.1, .int .i64 v4.1.2]), .v (.agg #[.int .i64 a2.1, .int .i64 a2.2])], [.p (.agg #[.int .i64 v5.1.1, .int .i64 v5.1.2])], .box [.raw (.bool v5.2)], true)})] [0 ≤ v1, (a1.map (eP (eP eI eI) (eP eI eI)))[(Int.toNat v1)]? = some [.raw (.int .i64 v2.1.1), .raw (.int .i64 v2.1.2), .raw (.int .i64 v2.2.1), .raw (.int .i64 v2.2.2)], 0 ≤ v1, (a1.map (eP (eP eI eI) (eP eI eI)))[(Int.toNat v1)]? = some [.raw (.int .i64 v2.1.1), .raw (.int .i64 v2.1.2), .raw (.int .i64 v2.2.1), .raw (.int .i64 v2.2.2)], 0 ≤ (w64 (v1 + 1)), (a1.map (eP (eP eI eI) (eP eI eI)))[(Int.toNat (w64 (v1 + 1)))]? = some [.raw (.int .i64 v3.1.1), .raw (.int .i64 v3.1.2), .raw (.int .i64 v3.2.1), .raw (.int .i64 v3.2.2)], ([.v (.agg #[.int .i64 v2.1.1, .int .i64 v2.1.2, .int .i64 v2.2.1, .int .i64 v2.2.2]), .v (.agg #[.int .i64 v3.1.1, .int .i64 v3.1.2, .int .i64 v3.2.1, .int .i64 v3.2.2])] : List Arg) = [.v (.agg #[.int .i64 v2.1.1, .int .i64 v2.1.2, .int .i64 v2.2.1, .int .i64 v2.2.2]), .v (.agg #[.int .i64 v3.1.1, .int .i64 v3.1.2, .int .i64 v3.2.1, .int .i64 v3.2.2])], MeetsB Try.prog 109 (.box [.raw (.bool a0)]) [.v (.agg #[.int .i64 v2.1.1, .int .i64 v2.1.2, .int .i64 v2.2.1, .int .i64 v2.2.2]), .v (.agg #[.int .i64 v3.1.1, .int .i64 v3.1.2, .int .i64 v3.2.1, .int .i64 v3.2.2])] [.p (.agg #[.int .i64 v4.1.1, .int .i64 v4.1.2])] (.box [.raw (.bool v4.2)]), List.all [.p (.agg #[.int .i64 v4.1.1, .int .i64 v4.1.2])] simpleR = true, ([.v (.agg #[.int .i64 v2.1.1, .int .i64 v2.1.2, .int .i64 v2.2.1, .int .i64 v2.2.2]), .v (.agg #[.int .i64 v4.1.1, .int .i64 v4.1.2]), .v (.agg #[.int .i64 a2.1, .int .i64 a2.2])] : List Arg) = [.v (.agg #[.int .i64 v2.1.1, .int .i64 v2.1.2, .int .i64 v2.2.1, .int .i64 v2.2.2]), .v (.agg #[.int .i64 v4.1.1, .int .i64 v4.1.2]), .v (.agg #[.int .i64 a2.1, .int .i64 a2.2])], MeetsB Try.prog 108 (.box [.raw (.bool v4.2)]) [.v (.agg #[.int .i64 v2.1.1, .int .i64 v2.1.2, .int .i64 v2.2.1, .int .i64 v2.2.2]), .v (.agg #[.int .i64 v4.1.1, .int .i64 v4.1.2]), .v (.agg #[.int .i64 a2.1, .int .i64 a2.2])] [.p (.agg #[.int .i64 v5.1.1, .int .i64 v5.1.2])] (.box [.raw (.bool v5.2)]), (List.all [.p (.agg #[.int .i64 v5.1.1, .int .i64 v5.1.2])] simpleR && wnS (.box [.raw (.bool v5.2)])) = true] (by kernel_rfl) ⟨(idxO_some hv2).1, (map_get (eP (eP eI eI) (eP eI eI)) (idxO_some hv2).2), (idxO_some hv2).1, (map_get (eP (eP eI eI) (eP eI eI)) (idxO_some hv2).2), (idxO_some hv3).1, (map_get (eP (eP eI eI) (eP eI eI)) (idxO_some hv3).2), rfl, (wk_impl_calc_slope hv4), rfl, rfl, (wk_impl_calc_line hv5), (ls_t rfl (wnc rfl)), trivial⟩) ?_
  refine k_ret ?_
  obtain rfl := Option.some.inj h
  exact eb_ret (ls := [(.p (.agg #[.int .i64 v5.1.1, .int .i64 v5.1.2]), 6)]) (by kernel_rfl) rfl rfl (by kernel_rfl) (by kernel_rfl)
theorem wk_impl_calc_lift {a0 : Bool} {a1 : (List ((Int × Int) × (Int × Int)))} {a2 : (Int × Int)}  {r : ((Int × Int) × Bool)} (h : impl_calc_lift a0 a1 a2 = some r) : MeetsB Try.prog 43 (.box [.raw (.bool a0)]) [.d true [.sl none (a1.map (eP (eP eI eI) (eP eI eI)))], .v (.agg #[.int .i64 a2.1, .int .i64 a2.2])] [.p (.agg #[.int .i64 r.1.1, .int .i64 r.1.2])] (.box [.raw (.bool r.2)]) := by
  refine MeetsB_ofL (by kernel_rfl) Try.func43 rfl (by kernel_rfl) rfl (l0 := [(0, .box [.raw (.bool a0)]), (1, .d true [.sl none (a1.map (eP (eP eI eI) (eP eI eI)))]), (2, .p (.agg #[.int .i64 a2.1, .int .i64 a2.2]))]) (by kernel_rfl) ?_
  unfold impl_calc_lift at h
  refine k_sreg (r_go [(0, .box [.raw (.bool a0)]), (4, .box [.sl none (a1.map (eP (eP eI eI) (eP eI eI)))]), (5, .box [.raw (.int .i64 a2.1), .raw (.int .i64 a2.2)]), (6, .box [.raw (.int .i64 0), .raw (.int .i64 0)])] [] [] (by kernel_rfl) trivial) ?_
  replace h := bind_some' h
  obtain ⟨v1, hv1, h⟩ := h
  replace h := bind_some' h
  obtain ⟨v2, hv2, h⟩ := h
  refine k_sreg (r_go [(0, .box [.raw (.bool a0)]), (4, .box [.sl none (a1.map (eP (eP eI eI) (eP eI eI)))]), (5, .box [.raw (.int .i64 a2.1), .raw (.int .i64 a2.2)]), (6, .box [.raw (.int .i64 0), .raw (.int .i64 0)]), (7, .box [.raw (.int .i64 v2.1), .raw (.int .i64 v2.2)])] [(1, {call := some ([.v (.agg #[.int .i64 a2.1, .int .i64 a2.2])], [.p (.int .i64 v1)], true)}), (2, {call := some ([.v (.int .i64 v1)], [.p (.agg #[.int .i64 v2.1, .int .i64 v2.2])], true)})] [([.v (.agg #[.int .i64 a2.1, .int .i64 a2.2])] : List Arg) = [.v (.agg #[.int .i64 a2.1, .int .i64 a2.2])], Meets Try.prog 65 ([.v (.agg #[.int .i64 a2.1, .int .i64 a2.2])] ++ []) { vals := [.p (.int .i64 v1)] }, List.all [.p (.int .i64 v1)] simpleR = true, ([.v (.int .i64 v1)] : List Arg) = [.v (.int .i64 v1)], Meets Try.prog 58 ([.v (.int .i64 v1)] ++ []) { vals := [.p (.agg #[.int .i64 v2.1, .int .i64 v2.2])] }, List.all [.p (.agg #[.int .i64 v2.1, .int .i64 v2.2])] simpleR = true] (by kernel_rfl) ⟨rfl, (wk_impl_floor hv1), rfl, rfl, (wk_impl_whole hv2), rfl, trivial⟩) ?_
  replace h := bind_some' h
  obtain ⟨v3, hv3, h⟩ := h
  replace h := bind_some' h
  obtain ⟨v4, hv4, h⟩ := h
  replace h := bind_some' h
  obtain ⟨v5, hv5, h⟩ := h
  refine k_sreg (r_draw Try_mixed 10 [(7, 0), (8, 0)] [(0, .box [.raw (.bool v5.2)]), (6, .box [.raw (.int .i64 v5.1.1), .raw (.int .i64 v5.1.2)])] [(3, {b := some true}), (7, {lend := some ([.v (.agg #[.int .i64 a2.1, .int .i64 a2.2]), .v (.agg #[.int .i64 v2.1, .int .i64 v2.2])], [.p (.agg #[.int .i64 v3.1.1, .int .i64 v3.1.2])], .box [.raw (.bool v3.2)], true)}), (8, {lend := some ([.d false [.sl none (a1.map (eP (eP eI eI) (eP eI eI)))], .v (.agg #[.int .i64 v3.1.1, .int .i64 v3.1.2])], [.p (.agg #[.int .i64 v4.1.1, .int .i64 v4.1.2])], .box [.raw (.bool v4.2)], true)}), (10, {lend := some ([.v (.agg #[.int .i64 v4.1.1, .int .i64 v4.1.2]), .v (.agg #[.int .i64 v2.1, .int .i64 v2.2])], [.p (.agg #[.int .i64 v5.1.1, .int .i64 v5.1.2])], .box [.raw (.bool v5.2)], true)})] [frR [.sl none (a1.map (eP (eP eI eI) (eP eI eI)))] = true, ([.v (.agg #[.int .i64 a2.1, .int .i64 a2.2]), .v (.agg #[.int .i64 v2.1, .int .i64 v2.2])] : List Arg) = [.v (.agg #[.int .i64 a2.1, .int .i64 a2.2]), .v (.agg #[.int .i64 v2.1, .int .i64 v2.2])], MeetsB Try.prog 62 (.box [.raw (.bool a0)]) [.v (.agg #[.int .i64 a2.1, .int .i64 a2.2]), .v (.agg #[.int .i64 v2.1, .int .i64 v2.2])] [.p (.agg #[.int .i64 v3.1.1, .int .i64 v3.1.2])] (.box [.raw (.bool v3.2)]), List.all [.p (.agg #[.int .i64 v3.1.1, .int .i64 v3.1.2])] simpleR = true, ([.d false [.sl none (a1.map (eP (eP eI eI) (eP eI eI)))], .v (.agg #[.int .i64 v3.1.1, .int .i64 v3.1.2])] : List Arg) = [.d false [.sl none (a1.map (eP (eP eI eI) (eP eI eI)))], .v (.agg #[.int .i64 v3.1.1, .int .i64 v3.1.2])], MeetsB Try.prog 86 (.box [.raw (.bool v3.2)]) [.d false [.sl none (a1.map (eP (eP eI eI) (eP eI eI)))], .v (.agg #[.int .i64 v3.1.1, .int .i64 v3.1.2])] [.p (.agg #[.int .i64 v4.1.1, .int .i64 v4.1.2])] (.box [.raw (.bool v4.2)]), List.all [.p (.agg #[.int .i64 v4.1.1, .int .i64 v4.1.2])] simpleR = true, ([.v (.agg #[.int .i64 v4.1.1, .int .i64 v4.1.2]), .v (.agg #[.int .i64 v2.1, .int .i64 v2.2])] : List Arg) = [.v (.agg #[.int .i64 v4.1.1, .int .i64 v4.1.2]), .v (.agg #[.int .i64 v2.1, .int .i64 v2.2])], MeetsB Try.prog 85 (.box [.raw (.bool v4.2)]) [.v (.agg #[.int .i64 v4.1.1, .int .i64 v4.1.2]), .v (.agg #[.int .i64 v2.1, .int .i64 v2.2])] [.p (.agg #[.int .i64 v5.1.1, .int .i64 v5.1.2])] (.box [.raw (.bool v5.2)]), (List.all [.p (.agg #[.int .i64 v5.1.1, .int .i64 v5.1.2])] simpleR && wnS (.box [.raw (.bool v5.2)])) = true] (by kernel_rfl) ⟨(frR1 (frL_enc (fr_P (fr_P fr_I fr_I) (fr_P fr_I fr_I))) rfl), rfl, (wk_impl_calc_sub hv3), rfl, rfl, (wk_impl_calc_value hv4), rfl, rfl, (wk_impl_calc_add hv5), (ls_t rfl (wnc rfl)), trivial⟩) ?_
  refine k_ret ?_
  obtain rfl := Option.some.inj h
  exact eb_ret (ls := [(.p (.agg #[.int .i64 v5.1.1, .int .i64 v5.1.2]), 6)]) (by kernel_rfl) rfl rfl (by kernel_rfl) (by kernel_rfl)
theorem wk_impl_liftOrbit {a0 : (List ((Int × Int) × (Int × Int)))} {a1 : (Int × Int)} {a2 : Int}  {r : ((List (Int × Int)) × Bool)} (h : impl_liftOrbit a0 a1 a2 = some r) : Meets Try.prog 73 [.d true [.sl none (a0.map (eP (eP eI eI) (eP eI eI)))], .v (.agg #[.int .i64 a1.1, .int .i64 a1.2]), .v (.int .i64 a2)] { vals := [.ov false [.sl (some 28) (r.1.map (eP eI eI))], .p (.bool r.2)] } := by
  refine Meets_ofL (by kernel_rfl) Try.func73 rfl (by kernel_rfl) (l0 := [(0, .d true [.sl none (a0.map (eP (eP eI eI) (eP eI eI)))]), (1, .p (.agg #[.int .i64 a1.1, .int .i64 a1.2])), (2, .p (.int .i64 a2))]) (by kernel_rfl) ?_
  unfold impl_liftOrbit at h
  refine k_sreg (r_go [(2, .p (.int .i64 a2)), (3, .box [.sl none (a0.map (eP (eP eI eI) (eP eI eI)))]), (4, .box [.raw (.int .i64 a1.1), .raw (.int .i64 a1.2)])] [] [] (by kernel_rfl) trivial) ?_
  refine k_sreg (r_go [(2, .p (.int .i64 a2)), (3, .box [.sl none (a0.map (eP (eP eI eI) (eP eI eI)))]), (4, .box [.raw (.int .i64 a1.1), .raw (.int .i64 a1.2)]), (8, .box [.raw (.bool false)])] [] [] (by kernel_rfl) trivial) ?_
  refine k_sreg (r_go [(2, .p (.int .i64 a2)), (3, .box [.sl none (a0.map (eP (eP eI eI) (eP eI eI)))]), (4, .box [.raw (.int .i64 a1.1), .raw (.int .i64 a1.2)]), (8, .box [.raw (.bool false)]), (9, .ov false [.sl (some 28) (([a1]).map (eP eI eI))])] [] [] (by kernel_rfl) trivial) ?_
  refine k_join (J := fun (x : (List (Int × Int))) => [(9, .ov false [.sl (some 28) (x.map (eP eI eI))])]) (K := fun x => impl_liftOrbit_k1 x = some r) (fun x1 h => ?_) ?_
  · unfold impl_liftOrbit_k1 at h
    refine k_sreg (r_go [(6, .ov false [.sl (some 28) (x1.map (eP eI eI))]), (7, .p (.bool true))] [] [] (by kernel_rfl) trivial) ?_
    refine k_ret ?_
    obtain rfl := Option.some.inj h
    exact e_ret (ls := [(.ov false [.sl (some 28) (x1.map (eP eI eI))], 6), (.p (.bool true), 7)]) (by kernel_rfl) rfl (by kernel_rfl) rfl
  · refine k_sreg (r_go [(3, .box [.sl none (a0.map (eP (eP eI eI) (eP eI eI)))]), (4, .box [.raw (.int .i64 a1.1), .raw (.int .i64 a1.2)]), (8, .box [.raw (.bool false)]), (9, .ov false [.sl (some 28) (([a1]).map (eP eI eI))]), (12, .p (.int .i64 a2)), (13, .p (.int .i64 0))] [] [] (by kernel_rfl) trivial) ?_
    refine k_block ?_
    obtain ⟨y3, hl_x2, hk_x2⟩ := bind_some' h
    clear h
    refine k_loop (J := fun (x : (Int × Int × Bool × (List (Int × Int)) × Int)) => [(3, .box [.sl none (a0.map (eP (eP eI eI) (eP eI eI)))]), (4, .box [.raw (.int .i64 x.1), .raw (.int .i64 x.2.1)]), (8, .box [.raw (.bool x.2.2.1)]), (9, .ov false [.sl (some 28) (x.2.2.2.1.map (eP eI eI))]), (12, .p (.int .i64 a2)), (13, .p (.int .i64 x.2.2.2.2))]) hl_x2 (wk_of (by kernel_rfl) (by kernel_rfl)) (fun x2 o_x2 h hy_x2 => ?_)
    unfold impl_liftOrbit_b1 at h
    refine k_sreg (r_go [(3, .box [.sl none (a0.map (eP (eP eI eI) (eP eI eI)))]), (4, .box [.raw (.int .i64 x2.1), .raw (.int .i64 x2.2.1)]), (8, .box [.raw (.bool x2.2.2.1)]), (9, .ov false [.sl (some 28) (x2.2.2.2.1.map (eP eI eI))]), (12, .p (.int .i64 a2)), (13, .p (.int .i64 x2.2.2.2.2)), (14, .p (.bool (decide (x2.2.2.2.2 < a2))))] [] [] (by kernel_rfl) trivial) ?_
    refine k_seq ?_
    refine k_cond (b := (decide (x2.2.2.2.2 < a2))) (by kernel_rfl) (fun hc5_3 => ?_) (fun hc5_3 => ?_)
    · replace h := ite_t hc5_3 h
      refine k_skip ?_
      refine q_n ?_
      refine k_seq ?_
      refine k_block ?_
      refine k_seq ?_
      replace h := bind_some' h
      obtain ⟨v5, hv5, h⟩ := h
      refine k_sreg (r_go [(3, .box [.sl none (a0.map (eP (eP eI eI) (eP eI eI)))]), (4, .box [.raw (.int .i64 x2.1), .raw (.int .i64 x2.2.1)]), (8, .box [.raw (.bool x2.2.2.1)]), (9, .ov false [.sl (some 28) (x2.2.2.2.1.map (eP eI eI))]), (12, .p (.int .i64 a2)), (13, .p (.int .i64 x2.2.2.2.2)), (17, .p (.bool (!v5)))] [(1, {call := some ([.v (.agg #[.int .i64 x2.1, .int .i64 x2.2.1])], [.p (.bool v5)], true)})] [([.v (.agg #[.int .i64 x2.1, .int .i64 x2.2.1])] : List Arg) = [.v (.agg #[.int .i64 x2.1, .int .i64 x2.2.1])], Meets Try.prog 42 ([.v (.agg #[.int .i64 x2.1, .int .i64 x2.2.1])] ++ []) { vals := [.p (.bool v5)] }, List.all [.p (.bool v5)] simpleR = true] (by kernel_rfl) ⟨rfl, (wk_impl_isFar hv5), rfl, trivial⟩) ?_
      refine k_cond (b := (!v5)) (by kernel_rfl) (fun hc7_5 => ?_) (fun hc7_5 => ?_)
      · replace h := ite_t hc7_5 h
        refine k_sreg (r_go [(6, .ov false [.sl (some 28) []]), (7, .p (.bool false))] [] [] (by kernel_rfl) trivial) ?_
        refine k_ret ?_
        refine q_r ?_
        refine b_r ?_
        refine q_r ?_
        refine lq_r ?_
        refine b_r ?_
        refine q_r ?_
        have hyy := hy_x2 _ (Option.some.inj h).symm
        subst hyy
        have h := hk_x2
        dsimp only [Sum.elim] at h
        obtain rfl := Option.some.inj h
        exact e_ret (ls := [(.ov false [.sl (some 28) []], 6), (.p (.bool false), 7)]) (by kernel_rfl) rfl (by kernel_rfl) rfl
      · replace h := ite_f hc7_5 h
        refine k_skip ?_
        refine q_n ?_
        refine k_seq ?_
        replace h := bind_some' h
        obtain ⟨v7, hv7, h⟩ := h
        refine k_sreg (r_go [(3, .box [.sl none (a0.map (eP (eP eI eI) (eP eI eI)))]), (4, .box [.raw (.int .i64 v7.1.1), .raw (.int .i64 v7.1.2)]), (8, .box [.raw (.bool v7.2)]), (9, .ov false [.sl (some 28) (x2.2.2.2.1.map (eP eI eI))]), (12, .p (.int .i64 a2)), (13, .p (.int .i64 x2.2.2.2.2))] [(0, {b := some true}), (2, {lend := some ([.d true [.sl none (a0.map (eP (eP eI eI) (eP eI eI)))], .v (.agg #[.int .i64 x2.1, .int .i64 x2.2.1])], [.p (.agg #[.int .i64 v7.1.1, .int .i64 v7.1.2])], .box [.raw (.bool v7.2)], true)})] [frR [.sl none (a0.map (eP (eP eI eI) (eP eI eI)))] = true, ([.d true [.sl none (a0.map (eP (eP eI eI) (eP eI eI)))], .v (.agg #[.int .i64 x2.1, .int .i64 x2.2.1])] : List Arg) = [.d true [.sl none (a0.map (eP (eP eI eI) (eP eI eI)))], .v (.agg #[.int .i64 x2.1, .int .i64 x2.2.1])], MeetsB Try.prog 43 (.box [.raw (.bool x2.2.2.1)]) [.d true [.sl none (a0.map (eP (eP eI eI) (eP eI eI)))], .v (.agg #[.int .i64 x2.1, .int .i64 x2.2.1])] [.p (.agg #[.int .i64 v7.1.1, .int .i64 v7.1.2])] (.box [.raw (.bool v7.2)]), (List.all [.p (.agg #[.int .i64 v7.1.1, .int .i64 v7.1.2])] simpleR && wnS (.box [.raw (.bool v7.2)])) = true] (by kernel_rfl) ⟨(frR1 (frL_enc (fr_P (fr_P fr_I fr_I) (fr_P fr_I fr_I))) rfl), rfl, (wk_impl_calc_lift hv7), (ls_t rfl (wnc rfl)), trivial⟩) ?_
        refine k_sreg (r_go [(3, .box [.sl none (a0.map (eP (eP eI eI) (eP eI eI)))]), (4, .box [.raw (.int .i64 v7.1.1), .raw (.int .i64 v7.1.2)]), (8, .box [.raw (.bool v7.2)]), (9, .ov false [.sl (some 28) (x2.2.2.2.1.map (eP eI eI))]), (12, .p (.int .i64 a2)), (13, .p (.int .i64 x2.2.2.2.2)), (22, .p (.bool v7.2))] [] [] (by kernel_rfl) trivial) ?_
        refine k_cond (b := v7.2) (by kernel_rfl) (fun hc7_7 => ?_) (fun hc7_7 => ?_)
        · replace h := ite_t hc7_7 h
          refine k_sreg (r_go [(6, .ov false [.sl (some 28) []]), (7, .p (.bool false))] [] [] (by kernel_rfl) trivial) ?_
          refine k_ret ?_
          refine q_r ?_
          refine b_r ?_
          refine q_r ?_
          refine lq_r ?_
          refine b_r ?_
          refine q_r ?_
          have hyy := hy_x2 _ (Option.some.inj h).symm
          subst hyy
          have h := hk_x2
          dsimp only [Sum.elim] at h
          obtain rfl := Option.some.inj h
          exact e_ret (ls := [(.ov false [.sl (some 28) []], 6), (.p (.bool false), 7)]) (by kernel_rfl) rfl (by kernel_rfl) rfl
        · replace h := ite_f hc7_7 h
          refine k_skip ?_
          refine q_n ?_
          replace h := bind_some' h
          obtain ⟨u9, hu9, h⟩ := h
          refine k_reg (r_go [(3, .box [.sl none (a0.map (eP (eP eI eI) (eP eI eI)))]), (4, .box [.raw (.int .i64 v7.1.1), .raw (.int .i64 v7.1.2)]), (8, .box [.raw (.bool v7.2)]), (9, .ov false [.sl (some 28) ((x2.2.2.2.1 ++ [v7.1]).map (eP eI eI))]), (12, .p (.int .i64 a2)), (13, .p (.int .i64 x2.2.2.2.2))] [(3, {fix := some (26, .ov false [.sl (some 28) ((x2.2.2.2.1 ++ [v7.1]).map (eP eI eI))])})] [List.length ((x2.2.2.2.1.map (eP eI eI)) : List (List C)) + List.length ((([v7.1]).map (eP eI eI)) : List (List C)) ≤ 1099511627776, ∀ row ∈ ((([v7.1]).map (eP eI eI)) : List (List C)), row.length = 2, (SV.ov false [.sl (some 28) ((x2.2.2.2.1.map (eP eI eI)) ++ (([v7.1]).map (eP eI eI)))] : SV) = .ov false [.sl (some 28) ((x2.2.2.2.1 ++ [v7.1]).map (eP eI eI))]] (by kernel_rfl) ⟨(by have hg := (guardO_some hu9); simpa using hg), (rows_len fun _ => rfl), (congrArg (fun z => SV.ov false [.sl (some 28) z]) (List.map_append ..).symm), trivial⟩) ?_
          refine b_n ?_
          refine q_n ?_
          refine k_reg (r_go [(3, .box [.sl none (a0.map (eP (eP eI eI) (eP eI eI)))]), (4, .box [.raw (.int .i64 v7.1.1), .raw (.int .i64 v7.1.2)]), (8, .box [.raw (.bool v7.2)]), (9, .ov false [.sl (some 28) ((x2.2.2.2.1 ++ [v7.1]).map (eP eI eI))]), (12, .p (.int .i64 a2)), (13, .p (.int .i64 (w64 (x2.2.2.2.2 + 1))))] [] [] (by kernel_rfl) trivial) ?_
          exact lq_n (v7.1.1, v7.1.2, v7.2, (x2.2.2.2.1 ++ [v7.1]), (w64 (x2.2.2.2.2 + 1))) (Option.some.inj h).symm (wk_of (by kernel_rfl) (by kernel_rfl))
    · replace h := ite_f hc5_3 h
      refine k_exit ?_
      refine q_x ?_
      refine lq_x ?_
      refine b_x ?_
      have hyy := hy_x2 _ (Option.some.inj h).symm
      subst hyy
      have h := hk_x2
      dsimp only [Sum.elim] at h
      refine q_n ?_
      exact ⟨x2.2.2.2.1, h, (wk_of (by kernel_rfl) (by kernel_rfl))⟩
theorem wk_impl_LiftOrbit {a0 : (List ((Int × Int) × (Int × Int)))} {a1 : (Int × Int)} {a2 : Int}  {r : ((List (Int × Int)) × Bool)} (h : impl_LiftOrbit a0 a1 a2 = some r) : Meets Try.prog 31 [.d true [.sl none (a0.map (eP (eP eI eI) (eP eI eI)))], .v (.agg #[.int .i64 a1.1, .int .i64 a1.2]), .v (.int .i64 a2)] { vals := [.ov false [.sl (some 28) (r.1.map (eP eI eI))], .p (.bool r.2)] } := by
  refine Meets_ofL (by kernel_rfl) Try.func31 rfl (by kernel_rfl) (l0 := [(0, .d true [.sl none (a0.map (eP (eP eI eI) (eP eI eI)))]), (1, .p (.agg #[.int .i64 a1.1, .int .i64 a1.2])), (2, .p (.int .i64 a2))]) (by kernel_rfl) ?_
  unfold impl_LiftOrbit at h
  refine k_sreg (r_go [(2, .p (.int .i64 a2)), (3, .box [.sl none (a0.map (eP (eP eI eI) (eP eI eI)))]), (4, .box [.raw (.int .i64 a1.1), .raw (.int .i64 a1.2)])] [] [] (by kernel_rfl) trivial) ?_
  refine k_seq ?_
  replace h := bind_some' h
  obtain ⟨v1, hv1, h⟩ := h
  replace h := bind_some' h
  obtain ⟨w4, hw4, h⟩ := h
  refine k_sreg (l1 := [(2, .p (.int .i64 a2)), (3, .box [.sl none (a0.map (eP (eP eI eI) (eP eI eI)))]), (4, .box [.raw (.int .i64 a1.1), .raw (.int .i64 a1.2)]), (20, .p (.bool w4))]) ?_ ?_
  · clear h
    rcases Bool.eq_false_or_eq_true (!v1) with ha0 | ha0
    · replace hw4 := ite_t ha0 hw4
      have hw4 := Option.some.inj hw4
      subst hw4
      exact (r_go [(2, .p (.int .i64 a2)), (3, .box [.sl none (a0.map (eP (eP eI eI) (eP eI eI)))]), (4, .box [.raw (.int .i64 a1.1), .raw (.int .i64 a1.2)]), (20, .p (.bool true))] [(0, {b := some true}), (1, {call := some ([.d true [.sl none (a0.map (eP (eP eI eI) (eP eI eI)))]], [.p (.bool v1)], true)}), (4, {g := some true}), (5, {g := some true}), (6, {g := some true}), (7, {b := some true}), (9, {g := some true}), (10, {g := some true}), (11, {g := some true}), (12, {b := some true})] [frR [.sl none (a0.map (eP (eP eI eI) (eP eI eI)))] = true, ([.d true [.sl none (a0.map (eP (eP eI eI) (eP eI eI)))]] : List Arg) = [.d true [.sl none (a0.map (eP (eP eI eI) (eP eI eI)))]], Meets Try.prog 41 ([.d true [.sl none (a0.map (eP (eP eI eI) (eP eI eI)))]] ++ []) { vals := [.p (.bool v1)] }, List.all [.p (.bool v1)] simpleR = true, (!v1) = true, (!v1) = true, (!v1) = true, (!v1) = true, true = true, true = true, true = true, true = true] (by kernel_rfl) ⟨(frR1 (frL_enc (fr_P (fr_P fr_I fr_I) (fr_P fr_I fr_I))) rfl), rfl, (wk_impl_isLift hv1), rfl, ha0, ha0, ha0, ha0, rfl, rfl, rfl, rfl, trivial⟩)
    · replace hw4 := ite_f ha0 hw4
      replace hw4 := bind_some' hw4
      obtain ⟨v2, hv2, hw4⟩ := hw4
      rcases Bool.eq_false_or_eq_true (!v2) with ha1 | ha1
      · replace hw4 := ite_t ha1 hw4
        have hw4 := Option.some.inj hw4
        subst hw4
        exact (r_go [(2, .p (.int .i64 a2)), (3, .box [.sl none (a0.map (eP (eP eI eI) (eP eI eI)))]), (4, .box [.raw (.int .i64 a1.1), .raw (.int .i64 a1.2)]), (20, .p (.bool true))] [(0, {b := some true}), (1, {call := some ([.d true [.sl none (a0.map (eP (eP eI eI) (eP eI eI)))]], [.p (.bool v1)], true)}), (4, {g := some false}), (5, {g := some false, call := some ([.v (.agg #[.int .i64 a1.1, .int .i64 a1.2])], [.p (.bool v2)], true)}), (6, {g := some false}), (7, {b := some false}), (9, {g := some true}), (10, {g := some true}), (11, {g := some true}), (12, {b := some true})] [frR [.sl none (a0.map (eP (eP eI eI) (eP eI eI)))] = true, ([.d true [.sl none (a0.map (eP (eP eI eI) (eP eI eI)))]] : List Arg) = [.d true [.sl none (a0.map (eP (eP eI eI) (eP eI eI)))]], Meets Try.prog 41 ([.d true [.sl none (a0.map (eP (eP eI eI) (eP eI eI)))]] ++ []) { vals := [.p (.bool v1)] }, List.all [.p (.bool v1)] simpleR = true, (!v1) = false, (!v1) = false, ([.v (.agg #[.int .i64 a1.1, .int .i64 a1.2])] : List Arg) = [.v (.agg #[.int .i64 a1.1, .int .i64 a1.2])], Meets Try.prog 42 ([.v (.agg #[.int .i64 a1.1, .int .i64 a1.2])] ++ []) { vals := [.p (.bool v2)] }, List.all [.p (.bool v2)] simpleR = true, (!v1) = false, (!v1) = false, (!v2) = true, (!v2) = true, (!v2) = true, (!v2) = true] (by kernel_rfl) ⟨(frR1 (frL_enc (fr_P (fr_P fr_I fr_I) (fr_P fr_I fr_I))) rfl), rfl, (wk_impl_isLift hv1), rfl, ha0, ha0, rfl, (wk_impl_isFar hv2), rfl, ha0, ha0, ha1, ha1, ha1, ha1, trivial⟩)
      · replace hw4 := ite_f ha1 hw4
        replace hw4 := bind_some' hw4
        obtain ⟨v3, hv3, hw4⟩ := hw4
        have hw4 := Option.some.inj hw4
        subst hw4
        exact (r_go [(2, .p (.int .i64 a2)), (3, .box [.sl none (a0.map (eP (eP eI eI) (eP eI eI)))]), (4, .box [.raw (.int .i64 a1.1), .raw (.int .i64 a1.2)]), (20, .p (.bool (!v3)))] [(0, {b := some true}), (1, {call := some ([.d true [.sl none (a0.map (eP (eP eI eI) (eP eI eI)))]], [.p (.bool v1)], true)}), (4, {g := some false}), (5, {g := some false, call := some ([.v (.agg #[.int .i64 a1.1, .int .i64 a1.2])], [.p (.bool v2)], true)}), (6, {g := some false}), (7, {b := some false}), (9, {g := some false}), (10, {g := some false, call := some ([.v (.int .i64 a2), .v (.int .i64 0), .v (.int .i64 60)], [.p (.bool v3)], true)}), (11, {g := some false}), (12, {b := some false})] [frR [.sl none (a0.map (eP (eP eI eI) (eP eI eI)))] = true, ([.d true [.sl none (a0.map (eP (eP eI eI) (eP eI eI)))]] : List Arg) = [.d true [.sl none (a0.map (eP (eP eI eI) (eP eI eI)))]], Meets Try.prog 41 ([.d true [.sl none (a0.map (eP (eP eI eI) (eP eI eI)))]] ++ []) { vals := [.p (.bool v1)] }, List.all [.p (.bool v1)] simpleR = true, (!v1) = false, (!v1) = false, ([.v (.agg #[.int .i64 a1.1, .int .i64 a1.2])] : List Arg) = [.v (.agg #[.int .i64 a1.1, .int .i64 a1.2])], Meets Try.prog 42 ([.v (.agg #[.int .i64 a1.1, .int .i64 a1.2])] ++ []) { vals := [.p (.bool v2)] }, List.all [.p (.bool v2)] simpleR = true, (!v1) = false, (!v1) = false, (!v2) = false, (!v2) = false, ([.v (.int .i64 a2), .v (.int .i64 0), .v (.int .i64 60)] : List Arg) = [.v (.int .i64 a2), .v (.int .i64 0), .v (.int .i64 60)], Meets Try.prog 72 ([.v (.int .i64 a2), .v (.int .i64 0), .v (.int .i64 60)] ++ []) { vals := [.p (.bool v3)] }, List.all [.p (.bool v3)] simpleR = true, (!v2) = false, (!v2) = false] (by kernel_rfl) ⟨(frR1 (frL_enc (fr_P (fr_P fr_I fr_I) (fr_P fr_I fr_I))) rfl), rfl, (wk_impl_isLift hv1), rfl, ha0, ha0, rfl, (wk_impl_isFar hv2), rfl, ha0, ha0, ha1, ha1, rfl, (wk_impl_within hv3), rfl, ha1, ha1, trivial⟩)
  · refine k_cond (b := w4) (by kernel_rfl) (fun hc2_4 => ?_) (fun hc2_4 => ?_)
    · replace h := ite_t hc2_4 h
      refine k_sreg (r_go [(6, .ov false [.sl (some 28) []]), (7, .p (.bool false))] [] [] (by kernel_rfl) trivial) ?_
      refine k_ret ?_
      refine q_r ?_
      obtain rfl := Option.some.inj h
      exact e_ret (ls := [(.ov false [.sl (some 28) []], 6), (.p (.bool false), 7)]) (by kernel_rfl) rfl (by kernel_rfl) rfl
    · replace h := ite_f hc2_4 h
      refine k_skip ?_
      refine q_n ?_
      replace h := bind_some' h
      obtain ⟨v6, hv6, h⟩ := h
      refine k_sreg (r_go [(6, .ov false [.sl (some 28) (v6.1.map (eP eI eI))]), (7, .p (.bool v6.2))] [(0, {b := some true}), (3, {call := some ([.d true [.sl none (a0.map (eP (eP eI eI) (eP eI eI)))], .v (.agg #[.int .i64 a1.1, .int .i64 a1.2]), .v (.int .i64 a2)], [.ov false [.sl (some 28) (v6.1.map (eP eI eI))], .p (.bool v6.2)], true)})] [frR [.sl none (a0.map (eP (eP eI eI) (eP eI eI)))] = true, ([.d true [.sl none (a0.map (eP (eP eI eI) (eP eI eI)))], .v (.agg #[.int .i64 a1.1, .int .i64 a1.2]), .v (.int .i64 a2)] : List Arg) = [.d true [.sl none (a0.map (eP (eP eI eI) (eP eI eI)))], .v (.agg #[.int .i64 a1.1, .int .i64 a1.2]), .v (.int .i64 a2)], Meets Try.prog 73 ([.d true [.sl none (a0.map (eP (eP eI eI) (eP eI eI)))], .v (.agg #[.int .i64 a1.1, .int .i64 a1.2]), .v (.int .i64 a2)] ++ []) { vals := [.ov false [.sl (some 28) (v6.1.map (eP eI eI))], .p (.bool v6.2)] }, List.all [.ov false [.sl (some 28) (v6.1.map (eP eI eI))], .p (.bool v6.2)] simpleR = true] (by kernel_rfl) ⟨(frR1 (frL_enc (fr_P (fr_P fr_I fr_I) (fr_P fr_I fr_I))) rfl), rfl, (wk_impl_liftOrbit hv6), (sa_o (wnR1 (wnL_enc (wn_P wn_I wn_I)) rfl) (sa_p rfl)), trivial⟩) ?_
      refine k_ret ?_
      obtain rfl := Option.some.inj h
      exact e_ret (ls := [(.ov false [.sl (some 28) (v6.1.map (eP eI eI))], 6), (.p (.bool v6.2), 7)]) (by kernel_rfl) rfl (by kernel_rfl) rfl
theorem wk_impl_RotationBounds {a0 : (List ((Int × Int) × (Int × Int)))} {a1 : Int}  {r : ((Int × Int) × (Int × Int) × Bool)} (h : impl_RotationBounds a0 a1 = some r) : Meets Try.prog 25 [.d true [.sl none (a0.map (eP (eP eI eI) (eP eI eI)))], .v (.int .i64 a1)] { vals := [.p (.agg #[.int .i64 r.1.1, .int .i64 r.1.2]), .p (.agg #[.int .i64 r.2.1.1, .int .i64 r.2.1.2]), .p (.bool r.2.2)] } := by
  refine Meets_ofL (by kernel_rfl) Try.func25 rfl (by kernel_rfl) (l0 := [(0, .d true [.sl none (a0.map (eP (eP eI eI) (eP eI eI)))]), (1, .p (.int .i64 a1))]) (by kernel_rfl) ?_
  unfold impl_RotationBounds at h
  refine k_sreg (r_go [(1, .p (.int .i64 a1)), (2, .box [.sl none (a0.map (eP (eP eI eI) (eP eI eI)))]), (4, .box [.raw (.int .i64 0), .raw (.int .i64 0)]), (5, .box [.raw (.int .i64 0), .raw (.int .i64 0)])] [] [] (by kernel_rfl) trivial) ?_
  refine k_seq ?_
  refine k_sreg (r_go [(1, .p (.int .i64 a1)), (2, .box [.sl none (a0.map (eP (eP eI eI) (eP eI eI)))]), (4, .box [.raw (.int .i64 0), .raw (.int .i64 0)]), (5, .box [.raw (.int .i64 0), .raw (.int .i64 0)]), (14, .p (.bool (decide (a1 < 1))))] [] [] (by kernel_rfl) trivial) ?_
  refine k_cond (b := (decide (a1 < 1))) (by kernel_rfl) (fun hc2_0 => ?_) (fun hc2_0 => ?_)
  · replace h := ite_t hc2_0 h
    refine k_sreg (r_go [(4, .box [.raw (.int .i64 0), .raw (.int .i64 0)]), (5, .box [.raw (.int .i64 0), .raw (.int .i64 0)]), (6, .p (.bool false))] [] [] (by kernel_rfl) trivial) ?_
    refine k_ret ?_
    refine q_r ?_
    obtain rfl := Option.some.inj h
    exact e_ret (ls := [(.p (.agg #[.int .i64 0, .int .i64 0]), 4), (.p (.agg #[.int .i64 0, .int .i64 0]), 5), (.p (.bool false), 6)]) (by kernel_rfl) rfl (by kernel_rfl) rfl
  · replace h := ite_f hc2_0 h
    refine k_skip ?_
    refine q_n ?_
    replace h := bind_some' h
    obtain ⟨v2, hv2, h⟩ := h
    replace h := bind_some' h
    obtain ⟨v3, hv3, h⟩ := h
    refine k_sreg (r_draw Try_mixed 8 [] [(1, .p (.int .i64 a1)), (4, .box [.raw (.int .i64 0), .raw (.int .i64 0)]), (5, .box [.raw (.int .i64 0), .raw (.int .i64 0)]), (7, .d false [.sl none (v3.1.map (eP eI eI))]), (8, .p (.bool v3.2))] [(0, {b := some true}), (1, {call := some ([], [.p (.agg #[.int .i64 v2.1, .int .i64 v2.2])], true)}), (3, {call := some ([.d true [.sl none (a0.map (eP (eP eI eI) (eP eI eI)))], .v (.agg #[.int .i64 v2.1, .int .i64 v2.2]), .v (.int .i64 a1)], [.ov false [.sl (some 28) (v3.1.map (eP eI eI))], .p (.bool v3.2)], true), pre := some (0, .u), fix := some (21, .tup [.d false [.sl none (v3.1.map (eP eI eI))], .p (.bool v3.2)])})] [frR [.sl none (a0.map (eP (eP eI eI) (eP eI eI)))] = true, ([] : List Arg) = [], Meets Try.prog 64 ([] ++ []) { vals := [.p (.agg #[.int .i64 v2.1, .int .i64 v2.2])] }, List.all [.p (.agg #[.int .i64 v2.1, .int .i64 v2.2])] simpleR = true, ([.d true [.sl none (a0.map (eP (eP eI eI) (eP eI eI)))], .v (.agg #[.int .i64 v2.1, .int .i64 v2.2]), .v (.int .i64 a1)] : List Arg) = [.d true [.sl none (a0.map (eP (eP eI eI) (eP eI eI)))], .v (.agg #[.int .i64 v2.1, .int .i64 v2.2]), .v (.int .i64 a1)], Meets Try.prog 31 ([.d true [.sl none (a0.map (eP (eP eI eI) (eP eI eI)))], .v (.agg #[.int .i64 v2.1, .int .i64 v2.2]), .v (.int .i64 a1)] ++ []) { vals := [.ov false [.sl (some 28) (v3.1.map (eP eI eI))], .p (.bool v3.2)] }, List.all [.ov false [.sl (some 28) (v3.1.map (eP eI eI))], .p (.bool v3.2)] simpleR = true, (SV.tup [.d false (eraR [.sl (some 28) (v3.1.map (eP eI eI))]), .p (.bool v3.2)] : SV) = .tup [.d false [.sl none (v3.1.map (eP eI eI))], .p (.bool v3.2)]] (by kernel_rfl) ⟨(frR1 (frL_enc (fr_P (fr_P fr_I fr_I) (fr_P fr_I fr_I))) rfl), rfl, (wk_impl_zero hv2), rfl, rfl, (wk_impl_LiftOrbit hv3), (sa_o (wnR1 (wnL_enc (wn_P wn_I wn_I)) rfl) (sa_p rfl)), (congrArg (fun z => SV.tup [.d false z, .p (.bool v3.2)]) (erc_sl (eraL_enc (era_P er_I er_I)) rfl)), trivial⟩) ?_
    refine k_seq ?_
    refine k_sreg (r_go [(1, .p (.int .i64 a1)), (4, .box [.raw (.int .i64 0), .raw (.int .i64 0)]), (5, .box [.raw (.int .i64 0), .raw (.int .i64 0)]), (7, .d false [.sl none (v3.1.map (eP eI eI))]), (25, .p (.bool (!v3.2)))] [] [] (by kernel_rfl) trivial) ?_
    refine k_cond (b := (!v3.2)) (by kernel_rfl) (fun hc2_3 => ?_) (fun hc2_3 => ?_)
    · replace h := ite_t hc2_3 h
      refine k_sreg (r_go [(4, .box [.raw (.int .i64 0), .raw (.int .i64 0)]), (5, .box [.raw (.int .i64 0), .raw (.int .i64 0)]), (6, .p (.bool false))] [] [] (by kernel_rfl) trivial) ?_
      refine k_ret ?_
      refine q_r ?_
      obtain rfl := Option.some.inj h
      exact e_ret (ls := [(.p (.agg #[.int .i64 0, .int .i64 0]), 4), (.p (.agg #[.int .i64 0, .int .i64 0]), 5), (.p (.bool false), 6)]) (by kernel_rfl) rfl (by kernel_rfl) rfl
    · replace h := ite_f hc2_3 h
      refine k_skip ?_
      refine q_n ?_
      replace h := bind_some' h
      obtain ⟨v5, hv5, h⟩ := h
      replace h := bind_some' h
      obtain ⟨v6, hv6, h⟩ := h
      refine k_sreg (r_go [(1, .p (.int .i64 a1)), (4, .box [.raw (.int .i64 0), .raw (.int .i64 0)]), (5, .box [.raw (.int .i64 0), .raw (.int .i64 0)]), (9, .p (.int .i64 v6))] [(2, {row := some [.raw (.int .i64 v5.1), .raw (.int .i64 v5.2)]}), (4, {call := some ([.v (.agg #[.int .i64 v5.1, .int .i64 v5.2])], [.p (.int .i64 v6)], true)})] [0 ≤ a1, (v3.1.map (eP eI eI))[(Int.toNat a1)]? = some [.raw (.int .i64 v5.1), .raw (.int .i64 v5.2)], ([.v (.agg #[.int .i64 v5.1, .int .i64 v5.2])] : List Arg) = [.v (.agg #[.int .i64 v5.1, .int .i64 v5.2])], Meets Try.prog 65 ([.v (.agg #[.int .i64 v5.1, .int .i64 v5.2])] ++ []) { vals := [.p (.int .i64 v6)] }, List.all [.p (.int .i64 v6)] simpleR = true] (by kernel_rfl) ⟨(idxO_some hv5).1, (map_get (eP eI eI) (idxO_some hv5).2), rfl, (wk_impl_floor hv6), rfl, trivial⟩) ?_
      refine k_sreg (r_go [(1, .p (.int .i64 a1)), (4, .box [.raw (.int .i64 0), .raw (.int .i64 0)]), (5, .box [.raw (.int .i64 0), .raw (.int .i64 0)]), (9, .p (.int .i64 v6)), (10, .box [.raw (.bool false)])] [] [] (by kernel_rfl) trivial) ?_
      replace h := bind_some' h
      obtain ⟨v7, hv7, h⟩ := h
      replace h := bind_some' h
      obtain ⟨v8, hv8, h⟩ := h
      replace h := bind_some' h
      obtain ⟨v9, hv9, h⟩ := h
      replace h := bind_some' h
      obtain ⟨v10, hv10, h⟩ := h
      refine k_sreg (r_go [(4, .box [.raw (.int .i64 0), .raw (.int .i64 0)]), (5, .box [.raw (.int .i64 0), .raw (.int .i64 0)]), (10, .box [.raw (.bool v10.2)]), (11, .box [.raw (.int .i64 v8.1.1), .raw (.int .i64 v8.1.2)]), (12, .box [.raw (.int .i64 v10.1.1), .raw (.int .i64 v10.1.2)])] [(2, {call := some ([.v (.int .i64 v6), .v (.int .i64 a1)], [.p (.agg #[.int .i64 v7.1.1, .int .i64 v7.1.2]), .p (.bool v7.2)], true)}), (5, {lend := some ([.v (.agg #[.int .i64 v7.1.1, .int .i64 v7.1.2]), .v (.bool v7.2)], [.p (.agg #[.int .i64 v8.1.1, .int .i64 v8.1.2])], .box [.raw (.bool v8.2)], true)}), (9, {call := some ([.v (.int .i64 (w64 (v6 + 1))), .v (.int .i64 a1)], [.p (.agg #[.int .i64 v9.1.1, .int .i64 v9.1.2]), .p (.bool v9.2)], true)}), (12, {lend := some ([.v (.agg #[.int .i64 v9.1.1, .int .i64 v9.1.2]), .v (.bool v9.2)], [.p (.agg #[.int .i64 v10.1.1, .int .i64 v10.1.2])], .box [.raw (.bool v10.2)], true)})] [([.v (.int .i64 v6), .v (.int .i64 a1)] : List Arg) = [.v (.int .i64 v6), .v (.int .i64 a1)], Meets Try.prog 67 ([.v (.int .i64 v6), .v (.int .i64 a1)] ++ []) { vals := [.p (.agg #[.int .i64 v7.1.1, .int .i64 v7.1.2]), .p (.bool v7.2)] }, List.all [.p (.agg #[.int .i64 v7.1.1, .int .i64 v7.1.2]), .p (.bool v7.2)] simpleR = true, ([.v (.agg #[.int .i64 v7.1.1, .int .i64 v7.1.2]), .v (.bool v7.2)] : List Arg) = [.v (.agg #[.int .i64 v7.1.1, .int .i64 v7.1.2]), .v (.bool v7.2)], MeetsB Try.prog 66 (.box [.raw (.bool false)]) [.v (.agg #[.int .i64 v7.1.1, .int .i64 v7.1.2]), .v (.bool v7.2)] [.p (.agg #[.int .i64 v8.1.1, .int .i64 v8.1.2])] (.box [.raw (.bool v8.2)]), (List.all [.p (.agg #[.int .i64 v8.1.1, .int .i64 v8.1.2])] simpleR && wnS (.box [.raw (.bool v8.2)])) = true, ([.v (.int .i64 (w64 (v6 + 1))), .v (.int .i64 a1)] : List Arg) = [.v (.int .i64 (w64 (v6 + 1))), .v (.int .i64 a1)], Meets Try.prog 67 ([.v (.int .i64 (w64 (v6 + 1))), .v (.int .i64 a1)] ++ []) { vals := [.p (.agg #[.int .i64 v9.1.1, .int .i64 v9.1.2]), .p (.bool v9.2)] }, List.all [.p (.agg #[.int .i64 v9.1.1, .int .i64 v9.1.2]), .p (.bool v9.2)] simpleR = true, ([.v (.agg #[.int .i64 v9.1.1, .int .i64 v9.1.2]), .v (.bool v9.2)] : List Arg) = [.v (.agg #[.int .i64 v9.1.1, .int .i64 v9.1.2]), .v (.bool v9.2)], MeetsB Try.prog 66 (.box [.raw (.bool v8.2)]) [.v (.agg #[.int .i64 v9.1.1, .int .i64 v9.1.2]), .v (.bool v9.2)] [.p (.agg #[.int .i64 v10.1.1, .int .i64 v10.1.2])] (.box [.raw (.bool v10.2)]), (List.all [.p (.agg #[.int .i64 v10.1.1, .int .i64 v10.1.2])] simpleR && wnS (.box [.raw (.bool v10.2)])) = true] (by kernel_rfl) ⟨rfl, (wk_impl_lowest hv7), rfl, rfl, (wk_impl_calc_keep hv8), (ls_t rfl (wnc rfl)), rfl, (wk_impl_lowest hv9), rfl, rfl, (wk_impl_calc_keep hv10), (ls_t rfl (wnc rfl)), trivial⟩) ?_
      refine k_seq ?_
      refine k_sreg (r_go [(4, .box [.raw (.int .i64 0), .raw (.int .i64 0)]), (5, .box [.raw (.int .i64 0), .raw (.int .i64 0)]), (11, .box [.raw (.int .i64 v8.1.1), .raw (.int .i64 v8.1.2)]), (12, .box [.raw (.int .i64 v10.1.1), .raw (.int .i64 v10.1.2)]), (47, .p (.bool v10.2))] [] [] (by kernel_rfl) trivial) ?_
      refine k_cond (b := v10.2) (by kernel_rfl) (fun hc2_10 => ?_) (fun hc2_10 => ?_)
      · replace h := ite_t hc2_10 h
        refine k_sreg (r_go [(4, .box [.raw (.int .i64 0), .raw (.int .i64 0)]), (5, .box [.raw (.int .i64 0), .raw (.int .i64 0)]), (6, .p (.bool false))] [] [] (by kernel_rfl) trivial) ?_
        refine k_ret ?_
        refine q_r ?_
        obtain rfl := Option.some.inj h
        exact e_ret (ls := [(.p (.agg #[.int .i64 0, .int .i64 0]), 4), (.p (.agg #[.int .i64 0, .int .i64 0]), 5), (.p (.bool false), 6)]) (by kernel_rfl) rfl (by kernel_rfl) rfl
      · replace h := ite_f hc2_10 h
        refine k_skip ?_
        refine q_n ?_
        refine k_sreg (r_draw Try_mixed 3 [(2, 4)] [(4, .box [.raw (.int .i64 v8.1.1), .raw (.int .i64 v8.1.2)]), (5, .box [.raw (.int .i64 v10.1.1), .raw (.int .i64 v10.1.2)]), (6, .p (.bool true))] [] [] (by kernel_rfl) trivial) ?_
        refine k_ret ?_
        obtain rfl := Option.some.inj h
        exact e_ret (ls := [(.p (.agg #[.int .i64 v8.1.1, .int .i64 v8.1.2]), 4), (.p (.agg #[.int .i64 v10.1.1, .int .i64 v10.1.2]), 5), (.p (.bool true), 6)]) (by kernel_rfl) rfl (by kernel_rfl) rfl
theorem wk_laws_eqRat {a0 : (Int × Int)} {a1 : (Int × Int)}  {r : Bool} (h : laws_eqRat a0 a1 = some r) : Meets Try.prog 16 [.v (.agg #[.int .i64 a0.1, .int .i64 a0.2]), .v (.agg #[.int .i64 a1.1, .int .i64 a1.2])] { vals := [.p (.bool r)] } := by
  refine Meets_ofL (by kernel_rfl) Try.func16 rfl (by kernel_rfl) (l0 := [(0, .p (.agg #[.int .i64 a0.1, .int .i64 a0.2])), (1, .p (.agg #[.int .i64 a1.1, .int .i64 a1.2]))]) (by kernel_rfl) ?_
  unfold laws_eqRat at h
  refine k_sreg (r_go [(2, .box [.raw (.int .i64 a0.1), .raw (.int .i64 a0.2)]), (3, .box [.raw (.int .i64 a1.1), .raw (.int .i64 a1.2)])] [] [] (by kernel_rfl) trivial) ?_
  refine k_seq ?_
  refine k_sreg (r_go [(2, .box [.raw (.int .i64 a0.1), .raw (.int .i64 a0.2)]), (3, .box [.raw (.int .i64 a1.1), .raw (.int .i64 a1.2)]), (9, .p (.bool (a0.1 != a1.1)))] [] [] (by kernel_rfl) trivial) ?_
  refine k_cond (b := (a0.1 != a1.1)) (by kernel_rfl) (fun hc2_0 => ?_) (fun hc2_0 => ?_)
  · replace h := ite_t hc2_0 h
    refine k_sreg (r_go [(4, .p (.bool false))] [] [] (by kernel_rfl) trivial) ?_
    refine k_ret ?_
    refine q_r ?_
    obtain rfl := Option.some.inj h
    exact e_ret (ls := [(.p (.bool false), 4)]) (by kernel_rfl) rfl (by kernel_rfl) rfl
  · replace h := ite_f hc2_0 h
    refine k_skip ?_
    refine q_n ?_
    refine k_seq ?_
    refine k_sreg (r_go [(14, .p (.bool (a0.2 != a1.2)))] [] [] (by kernel_rfl) trivial) ?_
    refine k_cond (b := (a0.2 != a1.2)) (by kernel_rfl) (fun hc2_1 => ?_) (fun hc2_1 => ?_)
    · replace h := ite_t hc2_1 h
      refine k_sreg (r_go [(4, .p (.bool false))] [] [] (by kernel_rfl) trivial) ?_
      refine k_ret ?_
      refine q_r ?_
      obtain rfl := Option.some.inj h
      exact e_ret (ls := [(.p (.bool false), 4)]) (by kernel_rfl) rfl (by kernel_rfl) rfl
    · replace h := ite_f hc2_1 h
      refine k_skip ?_
      refine q_n ?_
      refine k_sreg (r_go [(4, .p (.bool true))] [] [] (by kernel_rfl) trivial) ?_
      refine k_ret ?_
      obtain rfl := Option.some.inj h
      exact e_ret (ls := [(.p (.bool true), 4)]) (by kernel_rfl) rfl (by kernel_rfl) rfl
theorem wk_laws_eqPoint {a0 : ((Int × Int) × (Int × Int))} {a1 : ((Int × Int) × (Int × Int))}  {r : Bool} (h : laws_eqPoint a0 a1 = some r) : Meets Try.prog 87 [.v (.agg #[.int .i64 a0.1.1, .int .i64 a0.1.2, .int .i64 a0.2.1, .int .i64 a0.2.2]), .v (.agg #[.int .i64 a1.1.1, .int .i64 a1.1.2, .int .i64 a1.2.1, .int .i64 a1.2.2])] { vals := [.p (.bool r)] } := by
  refine Meets_ofL (by kernel_rfl) Try.func87 rfl (by kernel_rfl) (l0 := [(0, .p (.agg #[.int .i64 a0.1.1, .int .i64 a0.1.2, .int .i64 a0.2.1, .int .i64 a0.2.2])), (1, .p (.agg #[.int .i64 a1.1.1, .int .i64 a1.1.2, .int .i64 a1.2.1, .int .i64 a1.2.2]))]) (by kernel_rfl) ?_
  unfold laws_eqPoint at h
  refine k_sreg (r_go [(2, .box [.raw (.int .i64 a0.1.1), .raw (.int .i64 a0.1.2), .raw (.int .i64 a0.2.1), .raw (.int .i64 a0.2.2)]), (3, .box [.raw (.int .i64 a1.1.1), .raw (.int .i64 a1.1.2), .raw (.int .i64 a1.2.1), .raw (.int .i64 a1.2.2)])] [] [] (by kernel_rfl) trivial) ?_
  refine k_seq ?_
  replace h := bind_some' h
  obtain ⟨v1, hv1, h⟩ := h
  refine k_sreg (r_go [(2, .box [.raw (.int .i64 a0.1.1), .raw (.int .i64 a0.1.2), .raw (.int .i64 a0.2.1), .raw (.int .i64 a0.2.2)]), (3, .box [.raw (.int .i64 a1.1.1), .raw (.int .i64 a1.1.2), .raw (.int .i64 a1.2.1), .raw (.int .i64 a1.2.2)]), (10, .p (.bool (!v1)))] [(4, {call := some ([.v (.agg #[.int .i64 a0.1.1, .int .i64 a0.1.2]), .v (.agg #[.int .i64 a1.1.1, .int .i64 a1.1.2])], [.p (.bool v1)], true)})] [([.v (.agg #[.int .i64 a0.1.1, .int .i64 a0.1.2]), .v (.agg #[.int .i64 a1.1.1, .int .i64 a1.1.2])] : List Arg) = [.v (.agg #[.int .i64 a0.1.1, .int .i64 a0.1.2]), .v (.agg #[.int .i64 a1.1.1, .int .i64 a1.1.2])], Meets Try.prog 16 ([.v (.agg #[.int .i64 a0.1.1, .int .i64 a0.1.2]), .v (.agg #[.int .i64 a1.1.1, .int .i64 a1.1.2])] ++ []) { vals := [.p (.bool v1)] }, List.all [.p (.bool v1)] simpleR = true] (by kernel_rfl) ⟨rfl, (wk_laws_eqRat hv1), rfl, trivial⟩) ?_
  refine k_cond (b := (!v1)) (by kernel_rfl) (fun hc2_1 => ?_) (fun hc2_1 => ?_)
  · replace h := ite_t hc2_1 h
    refine k_sreg (r_go [(4, .p (.bool false))] [] [] (by kernel_rfl) trivial) ?_
    refine k_ret ?_
    refine q_r ?_
    obtain rfl := Option.some.inj h
    exact e_ret (ls := [(.p (.bool false), 4)]) (by kernel_rfl) rfl (by kernel_rfl) rfl
  · replace h := ite_f hc2_1 h
    refine k_skip ?_
    refine q_n ?_
    refine k_seq ?_
    replace h := bind_some' h
    obtain ⟨v3, hv3, h⟩ := h
    refine k_sreg (r_go [(16, .p (.bool (!v3)))] [(4, {call := some ([.v (.agg #[.int .i64 a0.2.1, .int .i64 a0.2.2]), .v (.agg #[.int .i64 a1.2.1, .int .i64 a1.2.2])], [.p (.bool v3)], true)})] [([.v (.agg #[.int .i64 a0.2.1, .int .i64 a0.2.2]), .v (.agg #[.int .i64 a1.2.1, .int .i64 a1.2.2])] : List Arg) = [.v (.agg #[.int .i64 a0.2.1, .int .i64 a0.2.2]), .v (.agg #[.int .i64 a1.2.1, .int .i64 a1.2.2])], Meets Try.prog 16 ([.v (.agg #[.int .i64 a0.2.1, .int .i64 a0.2.2]), .v (.agg #[.int .i64 a1.2.1, .int .i64 a1.2.2])] ++ []) { vals := [.p (.bool v3)] }, List.all [.p (.bool v3)] simpleR = true] (by kernel_rfl) ⟨rfl, (wk_laws_eqRat hv3), rfl, trivial⟩) ?_
    refine k_cond (b := (!v3)) (by kernel_rfl) (fun hc2_3 => ?_) (fun hc2_3 => ?_)
    · replace h := ite_t hc2_3 h
      refine k_sreg (r_go [(4, .p (.bool false))] [] [] (by kernel_rfl) trivial) ?_
      refine k_ret ?_
      refine q_r ?_
      obtain rfl := Option.some.inj h
      exact e_ret (ls := [(.p (.bool false), 4)]) (by kernel_rfl) rfl (by kernel_rfl) rfl
    · replace h := ite_f hc2_3 h
      refine k_skip ?_
      refine q_n ?_
      refine k_sreg (r_go [(4, .p (.bool true))] [] [] (by kernel_rfl) trivial) ?_
      refine k_ret ?_
      obtain rfl := Option.some.inj h
      exact e_ret (ls := [(.p (.bool true), 4)]) (by kernel_rfl) rfl (by kernel_rfl) rfl
theorem wk_laws_eqPointS {a0 : (List ((Int × Int) × (Int × Int)))} {a1 : (List ((Int × Int) × (Int × Int)))}  {r : Bool} (h : laws_eqPointS a0 a1 = some r) : Meets Try.prog 44 [.d false [.sl none (a0.map (eP (eP eI eI) (eP eI eI)))], .d false [.sl none (a1.map (eP (eP eI eI) (eP eI eI)))]] { vals := [.p (.bool r)] } := by
  refine Meets_ofL (by kernel_rfl) Try.func44 rfl (by kernel_rfl) (l0 := [(0, .d false [.sl none (a0.map (eP (eP eI eI) (eP eI eI)))]), (1, .d false [.sl none (a1.map (eP (eP eI eI) (eP eI eI)))])]) (by kernel_rfl) ?_
  unfold laws_eqPointS at h
  refine k_sreg (r_go [(0, .d false [.sl none (a0.map (eP (eP eI eI) (eP eI eI)))]), (1, .d false [.sl none (a1.map (eP (eP eI eI) (eP eI eI)))])] [] [] (by kernel_rfl) trivial) ?_
  refine k_seq ?_
  refine k_sreg (r_go [(0, .d false [.sl none (a0.map (eP (eP eI eI) (eP eI eI)))]), (1, .d false [.sl none (a1.map (eP (eP eI eI) (eP eI eI)))]), (10, .p (.bool ((a0.length : Int) != (a1.length : Int))))] [(1, {n := some a0.length}), (3, {n := some a1.length})] [(a0.map (eP (eP eI eI) (eP eI eI))).length = a0.length, (a1.map (eP (eP eI eI) (eP eI eI))).length = a1.length] (by kernel_rfl) ⟨(List.length_map ..), (List.length_map ..), trivial⟩) ?_
  refine k_cond (b := ((a0.length : Int) != (a1.length : Int))) (by kernel_rfl) (fun hc2_0 => ?_) (fun hc2_0 => ?_)
  · replace h := ite_t hc2_0 h
    refine k_sreg (r_go [(4, .p (.bool false))] [] [] (by kernel_rfl) trivial) ?_
    refine k_ret ?_
    refine q_r ?_
    obtain rfl := Option.some.inj h
    exact e_ret (ls := [(.p (.bool false), 4)]) (by kernel_rfl) rfl (by kernel_rfl) rfl
  · replace h := ite_f hc2_0 h
    refine k_skip ?_
    refine q_n ?_
    refine k_join (J := fun (x : Unit) => []) (K := fun x => laws_eqPointS_k1 x = some r) (fun x2 h => ?_) ?_
    · unfold laws_eqPointS_k1 at h
      refine k_sreg (r_go [(4, .p (.bool true))] [] [] (by kernel_rfl) trivial) ?_
      refine k_ret ?_
      obtain rfl := Option.some.inj h
      exact e_ret (ls := [(.p (.bool true), 4)]) (by kernel_rfl) rfl (by kernel_rfl) rfl
    · refine k_sreg (r_go [(0, .d false [.sl none (a0.map (eP (eP eI eI) (eP eI eI)))]), (1, .d false [.sl none (a1.map (eP (eP eI eI) (eP eI eI)))]), (5, .p (.int .i64 0))] [] [] (by kernel_rfl) trivial) ?_
      refine k_block ?_
      obtain ⟨y4, hl_x3, hk_x3⟩ := bind_some' h
      clear h
      refine k_loop (J := fun (x : Int) => [(0, .d false [.sl none (a0.map (eP (eP eI eI) (eP eI eI)))]), (1, .d false [.sl none (a1.map (eP (eP eI eI) (eP eI eI)))]), (5, .p (.int .i64 x))]) hl_x3 (wk_of (by kernel_rfl) (by kernel_rfl)) (fun x3 o_x3 h hy_x3 => ?_)
      unfold laws_eqPointS_b1 at h
      refine k_seq ?_
      refine k_sreg (r_go [(0, .d false [.sl none (a0.map (eP (eP eI eI) (eP eI eI)))]), (1, .d false [.sl none (a1.map (eP (eP eI eI) (eP eI eI)))]), (5, .p (.int .i64 x3)), (14, .p (.bool (decide (x3 < (a0.length : Int)))))] [(2, {n := some a0.length})] [(a0.map (eP (eP eI eI) (eP eI eI))).length = a0.length] (by kernel_rfl) ⟨(List.length_map ..), trivial⟩) ?_
      refine k_cond (b := (decide (x3 < (a0.length : Int)))) (by kernel_rfl) (fun hc5_4 => ?_) (fun hc5_4 => ?_)
      · replace h := ite_t hc5_4 h
        refine k_skip ?_
        refine q_n ?_
        refine k_seq ?_
        refine k_block ?_
        replace h := bind_some' h
        obtain ⟨v6, hv6, h⟩ := h
        replace h := bind_some' h
        obtain ⟨v7, hv7, h⟩ := h
        replace h := bind_some' h
        obtain ⟨v8, hv8, h⟩ := h
        refine k_sreg (r_draw Try_mixed 8 [] [(0, .d false [.sl none (a0.map (eP (eP eI eI) (eP eI eI)))]), (1, .d false [.sl none (a1.map (eP (eP eI eI) (eP eI eI)))]), (5, .p (.int .i64 x3)), (26, .p (.bool (!v8)))] [(2, {row := some [.raw (.int .i64 v6.1.1), .raw (.int .i64 v6.1.2), .raw (.int .i64 v6.2.1), .raw (.int .i64 v6.2.2)]}), (6, {row := some [.raw (.int .i64 v7.1.1), .raw (.int .i64 v7.1.2), .raw (.int .i64 v7.2.1), .raw (.int .i64 v7.2.2)]}), (8, {call := some ([.v (.agg #[.int .i64 v6.1.1, .int .i64 v6.1.2, .int .i64 v6.2.1, .int .i64 v6.2.2]), .v (.agg #[.int .i64 v7.1.1, .int .i64 v7.1.2, .int .i64 v7.2.1, .int .i64 v7.2.2])], [.p (.bool v8)], true)})] [0 ≤ x3, (a0.map (eP (eP eI eI) (eP eI eI)))[(Int.toNat x3)]? = some [.raw (.int .i64 v6.1.1), .raw (.int .i64 v6.1.2), .raw (.int .i64 v6.2.1), .raw (.int .i64 v6.2.2)], 0 ≤ x3, (a1.map (eP (eP eI eI) (eP eI eI)))[(Int.toNat x3)]? = some [.raw (.int .i64 v7.1.1), .raw (.int .i64 v7.1.2), .raw (.int .i64 v7.2.1), .raw (.int .i64 v7.2.2)], ([.v (.agg #[.int .i64 v6.1.1, .int .i64 v6.1.2, .int .i64 v6.2.1, .int .i64 v6.2.2]), .v (.agg #[.int .i64 v7.1.1, .int .i64 v7.1.2, .int .i64 v7.2.1, .int .i64 v7.2.2])] : List Arg) = [.v (.agg #[.int .i64 v6.1.1, .int .i64 v6.1.2, .int .i64 v6.2.1, .int .i64 v6.2.2]), .v (.agg #[.int .i64 v7.1.1, .int .i64 v7.1.2, .int .i64 v7.2.1, .int .i64 v7.2.2])], Meets Try.prog 87 ([.v (.agg #[.int .i64 v6.1.1, .int .i64 v6.1.2, .int .i64 v6.2.1, .int .i64 v6.2.2]), .v (.agg #[.int .i64 v7.1.1, .int .i64 v7.1.2, .int .i64 v7.2.1, .int .i64 v7.2.2])] ++ []) { vals := [.p (.bool v8)] }, List.all [.p (.bool v8)] simpleR = true] (by kernel_rfl) ⟨(idxO_some hv6).1, (map_get (eP (eP eI eI) (eP eI eI)) (idxO_some hv6).2), (idxO_some hv7).1, (map_get (eP (eP eI eI) (eP eI eI)) (idxO_some hv7).2), rfl, (wk_laws_eqPoint hv8), rfl, trivial⟩) ?_
        refine k_cond (b := (!v8)) (by kernel_rfl) (fun hc6_8 => ?_) (fun hc6_8 => ?_)
        · replace h := ite_t hc6_8 h
          refine k_sreg (r_go [(4, .p (.bool false))] [] [] (by kernel_rfl) trivial) ?_
          refine k_ret ?_
          refine b_r ?_
          refine q_r ?_
          refine lq_r ?_
          refine b_r ?_
          refine q_r ?_
          have hyy := hy_x3 _ (Option.some.inj h).symm
          subst hyy
          have h := hk_x3
          dsimp only [Sum.elim] at h
          obtain rfl := Option.some.inj h
          exact e_ret (ls := [(.p (.bool false), 4)]) (by kernel_rfl) rfl (by kernel_rfl) rfl
        · replace h := ite_f hc6_8 h
          refine k_skip ?_
          refine b_n ?_
          refine q_n ?_
          refine k_reg (r_go [(0, .d false [.sl none (a0.map (eP (eP eI eI) (eP eI eI)))]), (1, .d false [.sl none (a1.map (eP (eP eI eI) (eP eI eI)))]), (5, .p (.int .i64 (w64 (x3 + 1))))] [] [] (by kernel_rfl) trivial) ?_
          exact lq_n (w64 (x3 + 1)) (Option.some.inj h).symm (wk_of (by kernel_rfl) (by kernel_rfl))
      · replace h := ite_f hc5_4 h
        refine k_exit ?_
        refine q_x ?_
        refine lq_x ?_
        refine b_x ?_
        have hyy := hy_x3 _ (Option.some.inj h).symm
        subst hyy
        have h := hk_x3
        dsimp only [Sum.elim] at h
        refine q_n ?_
        exact ⟨(), h, (wk_of (by kernel_rfl) (by kernel_rfl))⟩
theorem wk_laws_eqLift {a0 : (List ((Int × Int) × (Int × Int)))} {a1 : (List ((Int × Int) × (Int × Int)))}  {r : Bool} (h : laws_eqLift a0 a1 = some r) : Meets Try.prog 17 [.d true [.sl none (a0.map (eP (eP eI eI) (eP eI eI)))], .d true [.sl none (a1.map (eP (eP eI eI) (eP eI eI)))]] { vals := [.p (.bool r)] } := by
  refine Meets_ofL (by kernel_rfl) Try.func17 rfl (by kernel_rfl) (l0 := [(0, .d true [.sl none (a0.map (eP (eP eI eI) (eP eI eI)))]), (1, .d true [.sl none (a1.map (eP (eP eI eI) (eP eI eI)))])]) (by kernel_rfl) ?_
  unfold laws_eqLift at h
  refine k_sreg (r_go [(2, .box [.sl none (a0.map (eP (eP eI eI) (eP eI eI)))]), (3, .box [.sl none (a1.map (eP (eP eI eI) (eP eI eI)))])] [] [] (by kernel_rfl) trivial) ?_
  refine k_seq ?_
  replace h := bind_some' h
  obtain ⟨v1, hv1, h⟩ := h
  refine k_sreg (r_go [(10, .p (.bool (!v1)))] [(1, {b := some true}), (3, {b := some true}), (4, {call := some ([.d false [.sl none (a0.map (eP (eP eI eI) (eP eI eI)))], .d false [.sl none (a1.map (eP (eP eI eI) (eP eI eI)))]], [.p (.bool v1)], true)})] [frR [.sl none (a0.map (eP (eP eI eI) (eP eI eI)))] = true, frR [.sl none (a1.map (eP (eP eI eI) (eP eI eI)))] = true, ([.d false [.sl none (a0.map (eP (eP eI eI) (eP eI eI)))], .d false [.sl none (a1.map (eP (eP eI eI) (eP eI eI)))]] : List Arg) = [.d false [.sl none (a0.map (eP (eP eI eI) (eP eI eI)))], .d false [.sl none (a1.map (eP (eP eI eI) (eP eI eI)))]], Meets Try.prog 44 ([.d false [.sl none (a0.map (eP (eP eI eI) (eP eI eI)))], .d false [.sl none (a1.map (eP (eP eI eI) (eP eI eI)))]] ++ []) { vals := [.p (.bool v1)] }, List.all [.p (.bool v1)] simpleR = true] (by kernel_rfl) ⟨(frR1 (frL_enc (fr_P (fr_P fr_I fr_I) (fr_P fr_I fr_I))) rfl), (frR1 (frL_enc (fr_P (fr_P fr_I fr_I) (fr_P fr_I fr_I))) rfl), rfl, (wk_laws_eqPointS hv1), rfl, trivial⟩) ?_
  refine k_cond (b := (!v1)) (by kernel_rfl) (fun hc2_1 => ?_) (fun hc2_1 => ?_)
  · replace h := ite_t hc2_1 h
    refine k_sreg (r_go [(4, .p (.bool false))] [] [] (by kernel_rfl) trivial) ?_
    refine k_ret ?_
    refine q_r ?_
    obtain rfl := Option.some.inj h
    exact e_ret (ls := [(.p (.bool false), 4)]) (by kernel_rfl) rfl (by kernel_rfl) rfl
  · replace h := ite_f hc2_1 h
    refine k_skip ?_
    refine q_n ?_
    refine k_sreg (r_go [(4, .p (.bool true))] [] [] (by kernel_rfl) trivial) ?_
    refine k_ret ?_
    obtain rfl := Option.some.inj h
    exact e_ret (ls := [(.p (.bool true), 4)]) (by kernel_rfl) rfl (by kernel_rfl) rfl
theorem wk_laws_FnExactRotationBounds {a0 : (List ((Int × Int) × (Int × Int)))} {a1 : Int}  {r : Bool} (h : laws_FnExactRotationBounds a0 a1 = some r) : Meets Try.prog 7 [.d true [.sl none (a0.map (eP (eP eI eI) (eP eI eI)))], .v (.int .i64 a1)] { vals := [.p (.bool r)] } := by
  refine Meets_ofL (by kernel_rfl) Try.func7 rfl (by kernel_rfl) (l0 := [(0, .d true [.sl none (a0.map (eP (eP eI eI) (eP eI eI)))]), (1, .p (.int .i64 a1))]) (by kernel_rfl) ?_
  unfold laws_FnExactRotationBounds at h
  refine k_sreg (r_go [(1, .p (.int .i64 a1)), (2, .box [.sl none (a0.map (eP (eP eI eI) (eP eI eI)))])] [] [] (by kernel_rfl) trivial) ?_
  refine k_sreg (r_go [(1, .p (.int .i64 a1)), (2, .box [.sl none (a0.map (eP (eP eI eI) (eP eI eI)))]), (5, .p (.int .i64 1048576))] [] [] (by kernel_rfl) trivial) ?_
  replace h := bind_some' h
  obtain ⟨v1, hv1, h⟩ := h
  refine k_sreg (r_go [(1, .p (.int .i64 a1)), (2, .box [.sl none (a0.map (eP (eP eI eI) (eP eI eI)))]), (5, .p (.int .i64 v1))] [(0, {b := some true}), (2, {call := some ([.d true [.sl none (a0.map (eP (eP eI eI) (eP eI eI)))], .v (.int .i64 1048576)], [.p (.int .i64 v1)], true)})] [frR [.sl none (a0.map (eP (eP eI eI) (eP eI eI)))] = true, ([.d true [.sl none (a0.map (eP (eP eI eI) (eP eI eI)))], .v (.int .i64 1048576)] : List Arg) = [.d true [.sl none (a0.map (eP (eP eI eI) (eP eI eI)))], .v (.int .i64 1048576)], Meets Try.prog 11 ([.d true [.sl none (a0.map (eP (eP eI eI) (eP eI eI)))], .v (.int .i64 1048576)] ++ []) { vals := [.p (.int .i64 v1)] }, List.all [.p (.int .i64 v1)] simpleR = true] (by kernel_rfl) ⟨(frR1 (frL_enc (fr_P (fr_P fr_I fr_I) (fr_P fr_I fr_I))) rfl), rfl, (wk_laws_szLift hv1), rfl, trivial⟩) ?_
  refine k_seq ?_
  refine k_sreg (r_go [(1, .p (.int .i64 a1)), (2, .box [.sl none (a0.map (eP (eP eI eI) (eP eI eI)))]), (17, .p (.bool (decide (v1 < 0))))] [] [] (by kernel_rfl) trivial) ?_
  refine k_cond (b := (decide (v1 < 0))) (by kernel_rfl) (fun hc2_1 => ?_) (fun hc2_1 => ?_)
  · replace h := ite_t hc2_1 h
    refine k_sreg (r_go [(4, .p (.bool true))] [] [] (by kernel_rfl) trivial) ?_
    refine k_ret ?_
    refine q_r ?_
    obtain rfl := Option.some.inj h
    exact e_ret (ls := [(.p (.bool true), 4)]) (by kernel_rfl) rfl (by kernel_rfl) rfl
  · replace h := ite_f hc2_1 h
    refine k_skip ?_
    refine q_n ?_
    replace h := bind_some' h
    obtain ⟨v3, hv3, h⟩ := h
    replace h := bind_some' h
    obtain ⟨v4, hv4, h⟩ := h
    refine k_sreg (r_go [(1, .p (.int .i64 a1)), (2, .box [.sl none (a0.map (eP (eP eI eI) (eP eI eI)))]), (6, .box [.raw (.int .i64 v4.1.1), .raw (.int .i64 v4.1.2)]), (7, .box [.raw (.int .i64 v4.2.1.1), .raw (.int .i64 v4.2.1.2)]), (8, .p (.bool v4.2.2))] [(0, {b := some true}), (1, {call := some ([.d true [.sl none (a0.map (eP (eP eI eI) (eP eI eI)))]], [.ov true [.sl (some 66) (v3.map (eP (eP eI eI) (eP eI eI)))]], true)}), (3, {call := some ([.d true [.sl none (v3.map (eP (eP eI eI) (eP eI eI)))], .v (.int .i64 a1)], [.p (.agg #[.int .i64 v4.1.1, .int .i64 v4.1.2]), .p (.agg #[.int .i64 v4.2.1.1, .int .i64 v4.2.1.2]), .p (.bool v4.2.2)], true)})] [frR [.sl none (a0.map (eP (eP eI eI) (eP eI eI)))] = true, ([.d true [.sl none (a0.map (eP (eP eI eI) (eP eI eI)))]] : List Arg) = [.d true [.sl none (a0.map (eP (eP eI eI) (eP eI eI)))]], Meets Try.prog 13 ([.d true [.sl none (a0.map (eP (eP eI eI) (eP eI eI)))]] ++ []) { vals := [.ov true [.sl (some 66) (v3.map (eP (eP eI eI) (eP eI eI)))]] }, List.all [.ov true [.sl (some 66) (v3.map (eP (eP eI eI) (eP eI eI)))]] simpleR = true, ([.d true [.sl none (eraL (v3.map (eP (eP eI eI) (eP eI eI))))], .v (.int .i64 a1)] : List Arg) = [.d true [.sl none (v3.map (eP (eP eI eI) (eP eI eI)))], .v (.int .i64 a1)], Meets Try.prog 24 ([.d true [.sl none (v3.map (eP (eP eI eI) (eP eI eI)))], .v (.int .i64 a1)] ++ []) { vals := [.p (.agg #[.int .i64 v4.1.1, .int .i64 v4.1.2]), .p (.agg #[.int .i64 v4.2.1.1, .int .i64 v4.2.1.2]), .p (.bool v4.2.2)] }, List.all [.p (.agg #[.int .i64 v4.1.1, .int .i64 v4.1.2]), .p (.agg #[.int .i64 v4.2.1.1, .int .i64 v4.2.1.2]), .p (.bool v4.2.2)] simpleR = true] (by kernel_rfl) ⟨(frR1 (frL_enc (fr_P (fr_P fr_I fr_I) (fr_P fr_I fr_I))) rfl), rfl, (wk_laws_toLift hv3), (sa_o (wnR1 (wnL_enc (wn_P (wn_P wn_I wn_I) (wn_P wn_I wn_I))) rfl) rfl), (by simp only [eraL_enc (h := (eP (eP eI eI) (eP eI eI))) (era_P (era_P er_I er_I) (era_P er_I er_I))]), (wk_spec_RotationBounds hv4), rfl, trivial⟩) ?_
    replace h := bind_some' h
    obtain ⟨v5, hv5, h⟩ := h
    refine k_sreg (r_go [(1, .p (.int .i64 a1)), (2, .box [.sl none (a0.map (eP (eP eI eI) (eP eI eI)))]), (6, .box [.raw (.int .i64 v4.1.1), .raw (.int .i64 v4.1.2)]), (7, .box [.raw (.int .i64 v4.2.1.1), .raw (.int .i64 v4.2.1.2)]), (8, .p (.bool v4.2.2)), (9, .box [.sl (some 66) (v5.map (eP (eP eI eI) (eP eI eI)))])] [(0, {b := some true}), (1, {call := some ([.d true [.sl none (a0.map (eP (eP eI eI) (eP eI eI)))]], [.ov true [.sl (some 66) (v5.map (eP (eP eI eI) (eP eI eI)))]], true)})] [frR [.sl none (a0.map (eP (eP eI eI) (eP eI eI)))] = true, ([.d true [.sl none (a0.map (eP (eP eI eI) (eP eI eI)))]] : List Arg) = [.d true [.sl none (a0.map (eP (eP eI eI) (eP eI eI)))]], Meets Try.prog 13 ([.d true [.sl none (a0.map (eP (eP eI eI) (eP eI eI)))]] ++ []) { vals := [.ov true [.sl (some 66) (v5.map (eP (eP eI eI) (eP eI eI)))]] }, List.all [.ov true [.sl (some 66) (v5.map (eP (eP eI eI) (eP eI eI)))]] simpleR = true] (by kernel_rfl) ⟨(frR1 (frL_enc (fr_P (fr_P fr_I fr_I) (fr_P fr_I fr_I))) rfl), rfl, (wk_laws_toLift hv5), (sa_o (wnR1 (wnL_enc (wn_P (wn_P wn_I wn_I) (wn_P wn_I wn_I))) rfl) rfl), trivial⟩) ?_
    replace h := bind_some' h
    obtain ⟨v6, hv6, h⟩ := h
    refine k_sreg (r_go [(2, .box [.sl none (a0.map (eP (eP eI eI) (eP eI eI)))]), (6, .box [.raw (.int .i64 v4.1.1), .raw (.int .i64 v4.1.2)]), (7, .box [.raw (.int .i64 v4.2.1.1), .raw (.int .i64 v4.2.1.2)]), (8, .p (.bool v4.2.2)), (9, .box [.sl (some 66) (v5.map (eP (eP eI eI) (eP eI eI)))]), (10, .box [.raw (.int .i64 v6.1.1), .raw (.int .i64 v6.1.2)]), (11, .box [.raw (.int .i64 v6.2.1.1), .raw (.int .i64 v6.2.1.2)]), (12, .p (.bool v6.2.2))] [(2, {call := some ([.d true [.sl none (v5.map (eP (eP eI eI) (eP eI eI)))], .v (.int .i64 a1)], [.p (.agg #[.int .i64 v6.1.1, .int .i64 v6.1.2]), .p (.agg #[.int .i64 v6.2.1.1, .int .i64 v6.2.1.2]), .p (.bool v6.2.2)], true)})] [frR [.sl (some 66) (v5.map (eP (eP eI eI) (eP eI eI)))] = false, ([.d true [.sl none (eraL (v5.map (eP (eP eI eI) (eP eI eI))))], .v (.int .i64 a1)] : List Arg) = [.d true [.sl none (v5.map (eP (eP eI eI) (eP eI eI)))], .v (.int .i64 a1)], Meets Try.prog 25 ([.d true [.sl none (v5.map (eP (eP eI eI) (eP eI eI)))], .v (.int .i64 a1)] ++ []) { vals := [.p (.agg #[.int .i64 v6.1.1, .int .i64 v6.1.2]), .p (.agg #[.int .i64 v6.2.1.1, .int .i64 v6.2.1.2]), .p (.bool v6.2.2)] }, List.all [.p (.agg #[.int .i64 v6.1.1, .int .i64 v6.1.2]), .p (.agg #[.int .i64 v6.2.1.1, .int .i64 v6.2.1.2]), .p (.bool v6.2.2)] simpleR = true] (by kernel_rfl) ⟨rfl, (by simp only [eraL_enc (h := (eP (eP eI eI) (eP eI eI))) (era_P (era_P er_I er_I) (era_P er_I er_I))]), (wk_impl_RotationBounds hv6), rfl, trivial⟩) ?_
    refine k_seq ?_
    replace h := bind_some' h
    obtain ⟨v7, hv7, h⟩ := h
    replace h := bind_some' h
    obtain ⟨w9, hw9, h⟩ := h
    refine k_sreg (l1 := [(2, .box [.sl none (a0.map (eP (eP eI eI) (eP eI eI)))]), (9, .box [.sl (some 66) (v5.map (eP (eP eI eI) (eP eI eI)))]), (49, .p (.bool w9))]) ?_ ?_
    · clear h
      rcases Bool.eq_false_or_eq_true (!v7) with ha1 | ha1
      · replace hw9 := ite_t ha1 hw9
        have hw9 := Option.some.inj hw9
        subst hw9
        exact (r_go [(2, .box [.sl none (a0.map (eP (eP eI eI) (eP eI eI)))]), (9, .box [.sl (some 66) (v5.map (eP (eP eI eI) (eP eI eI)))]), (49, .p (.bool true))] [(2, {call := some ([.v (.agg #[.int .i64 v6.1.1, .int .i64 v6.1.2]), .v (.agg #[.int .i64 v4.1.1, .int .i64 v4.1.2])], [.p (.bool v7)], true)}), (5, {g := some true}), (6, {g := some true}), (7, {g := some true}), (8, {g := some true}), (9, {b := some true}), (11, {g := some true}), (12, {g := some true}), (13, {g := some true}), (14, {b := some true})] [([.v (.agg #[.int .i64 v6.1.1, .int .i64 v6.1.2]), .v (.agg #[.int .i64 v4.1.1, .int .i64 v4.1.2])] : List Arg) = [.v (.agg #[.int .i64 v6.1.1, .int .i64 v6.1.2]), .v (.agg #[.int .i64 v4.1.1, .int .i64 v4.1.2])], Meets Try.prog 16 ([.v (.agg #[.int .i64 v6.1.1, .int .i64 v6.1.2]), .v (.agg #[.int .i64 v4.1.1, .int .i64 v4.1.2])] ++ []) { vals := [.p (.bool v7)] }, List.all [.p (.bool v7)] simpleR = true, (!v7) = true, (!v7) = true, (!v7) = true, (!v7) = true, (!v7) = true, true = true, true = true, true = true, true = true] (by kernel_rfl) ⟨rfl, (wk_laws_eqRat hv7), rfl, ha1, ha1, ha1, ha1, ha1, rfl, rfl, rfl, rfl, trivial⟩)
      · replace hw9 := ite_f ha1 hw9
        replace hw9 := bind_some' hw9
        obtain ⟨v8, hv8, hw9⟩ := hw9
        rcases Bool.eq_false_or_eq_true (!v8) with ha2 | ha2
        · replace hw9 := ite_t ha2 hw9
          have hw9 := Option.some.inj hw9
          subst hw9
          exact (r_go [(2, .box [.sl none (a0.map (eP (eP eI eI) (eP eI eI)))]), (9, .box [.sl (some 66) (v5.map (eP (eP eI eI) (eP eI eI)))]), (49, .p (.bool true))] [(2, {call := some ([.v (.agg #[.int .i64 v6.1.1, .int .i64 v6.1.2]), .v (.agg #[.int .i64 v4.1.1, .int .i64 v4.1.2])], [.p (.bool v7)], true)}), (5, {g := some false}), (6, {g := some false}), (7, {g := some false, call := some ([.v (.agg #[.int .i64 v6.2.1.1, .int .i64 v6.2.1.2]), .v (.agg #[.int .i64 v4.2.1.1, .int .i64 v4.2.1.2])], [.p (.bool v8)], true)}), (8, {g := some false}), (9, {b := some false}), (11, {g := some true}), (12, {g := some true}), (13, {g := some true}), (14, {b := some true})] [([.v (.agg #[.int .i64 v6.1.1, .int .i64 v6.1.2]), .v (.agg #[.int .i64 v4.1.1, .int .i64 v4.1.2])] : List Arg) = [.v (.agg #[.int .i64 v6.1.1, .int .i64 v6.1.2]), .v (.agg #[.int .i64 v4.1.1, .int .i64 v4.1.2])], Meets Try.prog 16 ([.v (.agg #[.int .i64 v6.1.1, .int .i64 v6.1.2]), .v (.agg #[.int .i64 v4.1.1, .int .i64 v4.1.2])] ++ []) { vals := [.p (.bool v7)] }, List.all [.p (.bool v7)] simpleR = true, (!v7) = false, (!v7) = false, (!v7) = false, ([.v (.agg #[.int .i64 v6.2.1.1, .int .i64 v6.2.1.2]), .v (.agg #[.int .i64 v4.2.1.1, .int .i64 v4.2.1.2])] : List Arg) = [.v (.agg #[.int .i64 v6.2.1.1, .int .i64 v6.2.1.2]), .v (.agg #[.int .i64 v4.2.1.1, .int .i64 v4.2.1.2])], Meets Try.prog 16 ([.v (.agg #[.int .i64 v6.2.1.1, .int .i64 v6.2.1.2]), .v (.agg #[.int .i64 v4.2.1.1, .int .i64 v4.2.1.2])] ++ []) { vals := [.p (.bool v8)] }, List.all [.p (.bool v8)] simpleR = true, (!v7) = false, (!v7) = false, (!v8) = true, (!v8) = true, (!v8) = true, (!v8) = true] (by kernel_rfl) ⟨rfl, (wk_laws_eqRat hv7), rfl, ha1, ha1, ha1, rfl, (wk_laws_eqRat hv8), rfl, ha1, ha1, ha2, ha2, ha2, ha2, trivial⟩)
        · replace hw9 := ite_f ha2 hw9
          have hw9 := Option.some.inj hw9
          subst hw9
          exact (r_go [(2, .box [.sl none (a0.map (eP (eP eI eI) (eP eI eI)))]), (9, .box [.sl (some 66) (v5.map (eP (eP eI eI) (eP eI eI)))]), (49, .p (.bool (!(v6.2.2 == v4.2.2))))] [(2, {call := some ([.v (.agg #[.int .i64 v6.1.1, .int .i64 v6.1.2]), .v (.agg #[.int .i64 v4.1.1, .int .i64 v4.1.2])], [.p (.bool v7)], true)}), (5, {g := some false}), (6, {g := some false}), (7, {g := some false, call := some ([.v (.agg #[.int .i64 v6.2.1.1, .int .i64 v6.2.1.2]), .v (.agg #[.int .i64 v4.2.1.1, .int .i64 v4.2.1.2])], [.p (.bool v8)], true)}), (8, {g := some false}), (9, {b := some false}), (11, {g := some false}), (12, {g := some false}), (13, {g := some false}), (14, {b := some false})] [([.v (.agg #[.int .i64 v6.1.1, .int .i64 v6.1.2]), .v (.agg #[.int .i64 v4.1.1, .int .i64 v4.1.2])] : List Arg) = [.v (.agg #[.int .i64 v6.1.1, .int .i64 v6.1.2]), .v (.agg #[.int .i64 v4.1.1, .int .i64 v4.1.2])], Meets Try.prog 16 ([.v (.agg #[.int .i64 v6.1.1, .int .i64 v6.1.2]), .v (.agg #[.int .i64 v4.1.1, .int .i64 v4.1.2])] ++ []) { vals := [.p (.bool v7)] }, List.all [.p (.bool v7)] simpleR = true, (!v7) = false, (!v7) = false, (!v7) = false, ([.v (.agg #[.int .i64 v6.2.1.1, .int .i64 v6.2.1.2]), .v (.agg #[.int .i64 v4.2.1.1, .int .i64 v4.2.1.2])] : List Arg) = [.v (.agg #[.int .i64 v6.2.1.1, .int .i64 v6.2.1.2]), .v (.agg #[.int .i64 v4.2.1.1, .int .i64 v4.2.1.2])], Meets Try.prog 16 ([.v (.agg #[.int .i64 v6.2.1.1, .int .i64 v6.2.1.2]), .v (.agg #[.int .i64 v4.2.1.1, .int .i64 v4.2.1.2])] ++ []) { vals := [.p (.bool v8)] }, List.all [.p (.bool v8)] simpleR = true, (!v7) = false, (!v7) = false, (!v8) = false, (!v8) = false, (!v8) = false, (!v8) = false] (by kernel_rfl) ⟨rfl, (wk_laws_eqRat hv7), rfl, ha1, ha1, ha1, rfl, (wk_laws_eqRat hv8), rfl, ha1, ha1, ha2, ha2, ha2, ha2, trivial⟩)
    · refine k_cond (b := w9) (by kernel_rfl) (fun hc2_9 => ?_) (fun hc2_9 => ?_)
      · replace h := ite_t hc2_9 h
        refine k_sreg (r_go [(4, .p (.bool false))] [] [] (by kernel_rfl) trivial) ?_
        refine k_ret ?_
        refine q_r ?_
        obtain rfl := Option.some.inj h
        exact e_ret (ls := [(.p (.bool false), 4)]) (by kernel_rfl) rfl (by kernel_rfl) rfl
      · replace h := ite_f hc2_9 h
        refine k_skip ?_
        refine q_n ?_
        refine k_seq ?_
        replace h := bind_some' h
        obtain ⟨v11, hv11, h⟩ := h
        replace h := bind_some' h
        obtain ⟨v12, hv12, h⟩ := h
        refine k_sreg (r_draw Try_mixed 3 [] [(54, .p (.bool (!v12)))] [(1, {b := some true}), (2, {call := some ([.d true [.sl none (a0.map (eP (eP eI eI) (eP eI eI)))]], [.ov true [.sl (some 66) (v11.map (eP (eP eI eI) (eP eI eI)))]], true)}), (3, {call := some ([.d true [.sl none (v5.map (eP (eP eI eI) (eP eI eI)))], .d true [.sl none (v11.map (eP (eP eI eI) (eP eI eI)))]], [.p (.bool v12)], true)})] [frR [.sl (some 66) (v5.map (eP (eP eI eI) (eP eI eI)))] = false, frR [.sl none (a0.map (eP (eP eI eI) (eP eI eI)))] = true, ([.d true [.sl none (a0.map (eP (eP eI eI) (eP eI eI)))]] : List Arg) = [.d true [.sl none (a0.map (eP (eP eI eI) (eP eI eI)))]], Meets Try.prog 13 ([.d true [.sl none (a0.map (eP (eP eI eI) (eP eI eI)))]] ++ []) { vals := [.ov true [.sl (some 66) (v11.map (eP (eP eI eI) (eP eI eI)))]] }, List.all [.ov true [.sl (some 66) (v11.map (eP (eP eI eI) (eP eI eI)))]] simpleR = true, ([.d true [.sl none (eraL (v5.map (eP (eP eI eI) (eP eI eI))))], .d true [.sl none (eraL (v11.map (eP (eP eI eI) (eP eI eI))))]] : List Arg) = [.d true [.sl none (v5.map (eP (eP eI eI) (eP eI eI)))], .d true [.sl none (v11.map (eP (eP eI eI) (eP eI eI)))]], Meets Try.prog 17 ([.d true [.sl none (v5.map (eP (eP eI eI) (eP eI eI)))], .d true [.sl none (v11.map (eP (eP eI eI) (eP eI eI)))]] ++ []) { vals := [.p (.bool v12)] }, List.all [.p (.bool v12)] simpleR = true] (by kernel_rfl) ⟨rfl, (frR1 (frL_enc (fr_P (fr_P fr_I fr_I) (fr_P fr_I fr_I))) rfl), rfl, (wk_laws_toLift hv11), (sa_o (wnR1 (wnL_enc (wn_P (wn_P wn_I wn_I) (wn_P wn_I wn_I))) rfl) rfl), (by simp only [eraL_enc (h := (eP (eP eI eI) (eP eI eI))) (era_P (era_P er_I er_I) (era_P er_I er_I)), eraL_enc (h := (eP (eP eI eI) (eP eI eI))) (era_P (era_P er_I er_I) (era_P er_I er_I))]), (wk_laws_eqLift hv12), rfl, trivial⟩) ?_
        refine k_cond (b := (!v12)) (by kernel_rfl) (fun hc2_12 => ?_) (fun hc2_12 => ?_)
        · replace h := ite_t hc2_12 h
          refine k_sreg (r_go [(4, .p (.bool false))] [] [] (by kernel_rfl) trivial) ?_
          refine k_ret ?_
          refine q_r ?_
          obtain rfl := Option.some.inj h
          exact e_ret (ls := [(.p (.bool false), 4)]) (by kernel_rfl) rfl (by kernel_rfl) rfl
        · replace h := ite_f hc2_12 h
          refine k_skip ?_
          refine q_n ?_
          refine k_sreg (r_go [(4, .p (.bool true))] [] [] (by kernel_rfl) trivial) ?_
          refine k_ret ?_
          obtain rfl := Option.some.inj h
          exact e_ret (ls := [(.p (.bool true), 4)]) (by kernel_rfl) rfl (by kernel_rfl) rfl
end Go.PV

/-
  Walks through the functions that the law reaches: each answers as its plain definition does.
  Conditions: none.
-/
import Derived.KernelRfl
import Derived.Test.YteppmfabggkiiaaWExactLiftBeforePartA
import Derived.Test.YteppmfabggkiiaaProg
open Go Go.PV Go.Proofs
set_option linter.all false
namespace Go.PV
attribute [local irreducible] pvC pvL pvD sOp seqQ blockQ Meets MeetsB Ok OkL RegOk agree endQ seqL blockL loopQ endL endLB
theorem wk_impl_calc_div {a0 : Bool} {a1 : (Int × Int)} {a2 : (Int × Int)}  {r : ((Int × Int) × Bool)} (h : impl_calc_div a0 a1 a2 = some r) : MeetsB Try.prog 61 (.box [.raw (.bool a0)]) [.v (.agg #[.int .i64 a1.1, .int .i64 a1.2]), .v (.agg #[.int .i64 a2.1, .int .i64 a2.2])] [.p (.agg #[.int .i64 r.1.1, .int .i64 r.1.2])] (.box [.raw (.bool r.2)]) := by
  refine MeetsB_ofL (by kernel_rfl) Try.func61 rfl (by kernel_rfl) rfl (l0 := [(0, .box [.raw (.bool a0)]), (1, .p (.agg #[.int .i64 a1.1, .int .i64 a1.2])), (2, .p (.agg #[.int .i64 a2.1, .int .i64 a2.2]))]) (by kernel_rfl) ?_
  unfold impl_calc_div at h
  refine k_sreg (r_go [(0, .box [.raw (.bool a0)]), (4, .box [.raw (.int .i64 a1.1), .raw (.int .i64 a1.2)]), (5, .box [.raw (.int .i64 a2.1), .raw (.int .i64 a2.2)]), (6, .box [.raw (.int .i64 0), .raw (.int .i64 0)])] [] [] (by kernel_rfl) trivial) ?_
  replace h := bind_some' h
  obtain ⟨v1, hv1, h⟩ := h
  replace h := bind_some' h
  obtain ⟨v2, hv2, h⟩ := h
  refine k_sreg (r_go [(0, .box [.raw (.bool v2.2)]), (6, .box [.raw (.int .i64 v2.1.1), .raw (.int .i64 v2.1.2)])] [(3, {call := some ([.v (.agg #[.int .i64 a1.1, .int .i64 a1.2]), .v (.agg #[.int .i64 a2.1, .int .i64 a2.2])], [.p (.agg #[.int .i64 v1.1.1, .int .i64 v1.1.2]), .p (.bool v1.2)], true)}), (6, {lend := some ([.v (.agg #[.int .i64 v1.1.1, .int .i64 v1.1.2]), .v (.bool v1.2)], [.p (.agg #[.int .i64 v2.1.1, .int .i64 v2.1.2])], .box [.raw (.bool v2.2)], true)})] [([.v (.agg #[.int .i64 a1.1, .int .i64 a1.2]), .v (.agg #[.int .i64 a2.1, .int .i64 a2.2])] : List Arg) = [.v (.agg #[.int .i64 a1.1, .int .i64 a1.2]), .v (.agg #[.int .i64 a2.1, .int .i64 a2.2])], Meets Try.prog 96 ([.v (.agg #[.int .i64 a1.1, .int .i64 a1.2]), .v (.agg #[.int .i64 a2.1, .int .i64 a2.2])] ++ []) { vals := [.p (.agg #[.int .i64 v1.1.1, .int .i64 v1.1.2]), .p (.bool v1.2)] }, List.all [.p (.agg #[.int .i64 v1.1.1, .int .i64 v1.1.2]), .p (.bool v1.2)] simpleR = true, ([.v (.agg #[.int .i64 v1.1.1, .int .i64 v1.1.2]), .v (.bool v1.2)] : List Arg) = [.v (.agg #[.int .i64 v1.1.1, .int .i64 v1.1.2]), .v (.bool v1.2)], MeetsB Try.prog 66 (.box [.raw (.bool a0)]) [.v (.agg #[.int .i64 v1.1.1, .int .i64 v1.1.2]), .v (.bool v1.2)] [.p (.agg #[.int .i64 v2.1.1, .int .i64 v2.1.2])] (.box [.raw (.bool v2.2)]), (List.all [.p (.agg #[.int .i64 v2.1.1, .int .i64 v2.1.2])] simpleR && wnS (.box [.raw (.bool v2.2)])) = true] (by kernel_rfl) ⟨rfl, (wk_impl_DivideRats hv1), rfl, rfl, (wk_impl_calc_keep hv2), (ls_t rfl (wnc rfl)), trivial⟩) ?_
  refine k_ret ?_
  obtain rfl := Option.some.inj h
  exact eb_ret (ls := [(.p (.agg #[.int .i64 v2.1.1, .int .i64 v2.1.2]), 6)]) (by kernel_rfl) rfl rfl (by kernel_rfl) (by kernel_rfl)
theorem wk_impl_calc_slope {a0 : Bool} {a1 : ((Int × Int) × (Int × Int))} {a2 : ((Int × Int) × (Int × Int))}  {r : ((Int × Int) × Bool)} (h : impl_calc_slope a0 a1 a2 = some r) : MeetsB Try.prog 109 (.box [.raw (.bool a0)]) [.v (.agg #[.int .i64 a1.1.1, .int .i64 a1.1.2, .int .i64 a1.2.1, .int .i64 a1.2.2]), .v (.agg #[.int .i64 a2.1.1, .int .i64 a2.1.2, .int .i64 a2.2.1, .int .i64 a2.2.2])] [.p (.agg #[.int .i64 r.1.1, .int .i64 r.1.2])] (.box [.raw (.bool r.2)]) := by
  refine MeetsB_ofL (by kernel_rfl) Try.func109 rfl (by kernel_rfl) rfl (l0 := [(0, .box [.raw (.bool a0)]), (1, .p (.agg #[.int .i64 a1.1.1, .int .i64 a1.1.2, .int .i64 a1.2.1, .int .i64 a1.2.2])), (2, .p (.agg #[.int .i64 a2.1.1, .int .i64 a2.1.2, .int .i64 a2.2.1, .int .i64 a2.2.2]))]) (by kernel_rfl) ?_
  unfold impl_calc_slope at h
  refine k_sreg (r_go [(0, .box [.raw (.bool a0)]), (4, .box [.raw (.int .i64 a1.1.1), .raw (.int .i64 a1.1.2), .raw (.int .i64 a1.2.1), .raw (.int .i64 a1.2.2)]), (5, .box [.raw (.int .i64 a2.1.1), .raw (.int .i64 a2.1.2), .raw (.int .i64 a2.2.1), .raw (.int .i64 a2.2.2)]), (6, .box [.raw (.int .i64 0), .raw (.int .i64 0)])] [] [] (by kernel_rfl) trivial) ?_
  replace h := bind_some' h
  obtain ⟨v1, hv1, h⟩ := h
  replace h := bind_some' h
  obtain ⟨v2, hv2, h⟩ := h
  replace h := bind_some' h
  obtain ⟨v3, hv3, h⟩ := h
  refine k_sreg (r_draw Try_mixed 13 [(6, 0), (12, 0)] [(0, .box [.raw (.bool v3.2)]), (6, .box [.raw (.int .i64 v3.1.1), .raw (.int .i64 v3.1.2)])] [(6, {lend := some ([.v (.agg #[.int .i64 a2.2.1, .int .i64 a2.2.2]), .v (.agg #[.int .i64 a1.2.1, .int .i64 a1.2.2])], [.p (.agg #[.int .i64 v1.1.1, .int .i64 v1.1.2])], .box [.raw (.bool v1.2)], true)}), (12, {lend := some ([.v (.agg #[.int .i64 a2.1.1, .int .i64 a2.1.2]), .v (.agg #[.int .i64 a1.1.1, .int .i64 a1.1.2])], [.p (.agg #[.int .i64 v2.1.1, .int .i64 v2.1.2])], .box [.raw (.bool v2.2)], true)}), (13, {lend := some ([.v (.agg #[.int .i64 v1.1.1, .int .i64 v1.1.2]), .v (.agg #[.int .i64 v2.1.1, .int .i64 v2.1.2])], [.p (.agg #[.int .i64 v3.1.1, .int .i64 v3.1.2])], .box [.raw (.bool v3.2)], true)})] [([.v (.agg #[.int .i64 a2.2.1, .int .i64 a2.2.2]), .v (.agg #[.int .i64 a1.2.1, .int .i64 a1.2.2])] : List Arg) = [.v (.agg #[.int .i64 a2.2.1, .int .i64 a2.2.2]), .v (.agg #[.int .i64 a1.2.1, .int .i64 a1.2.2])], MeetsB Try.prog 62 (.box [.raw (.bool a0)]) [.v (.agg #[.int .i64 a2.2.1, .int .i64 a2.2.2]), .v (.agg #[.int .i64 a1.2.1, .int .i64 a1.2.2])] [.p (.agg #[.int .i64 v1.1.1, .int .i64 v1.1.2])] (.box [.raw (.bool v1.2)]), List.all [.p (.agg #[.int .i64 v1.1.1, .int .i64 v1.1.2])] simpleR = true, ([.v (.agg #[.int .i64 a2.1.1, .int .i64 a2.1.2]), .v (.agg #[.int .i64 a1.1.1, .int .i64 a1.1.2])] : List Arg) = [.v (.agg #[.int .i64 a2.1.1, .int .i64 a2.1.2]), .v (.agg #[.int .i64 a1.1.1, .int .i64 a1.1.2])], MeetsB Try.prog 62 (.box [.raw (.bool v1.2)]) [.v (.agg #[.int .i64 a2.1.1, .int .i64 a2.1.2]), .v (.agg #[.int .i64 a1.1.1, .int .i64 a1.1.2])] [.p (.agg #[.int .i64 v2.1.1, .int .i64 v2.1.2])] (.box [.raw (.bool v2.2)]), List.all [.p (.agg #[.int .i64 v2.1.1, .int .i64 v2.1.2])] simpleR = true, ([.v (.agg #[.int .i64 v1.1.1, .int .i64 v1.1.2]), .v (.agg #[.int .i64 v2.1.1, .int .i64 v2.1.2])] : List Arg) = [.v (.agg #[.int .i64 v1.1.1, .int .i64 v1.1.2]), .v (.agg #[.int .i64 v2.1.1, .int .i64 v2.1.2])], MeetsB Try.prog 61 (.box [.raw (.bool v2.2)]) [.v (.agg #[.int .i64 v1.1.1, .int .i64 v1.1.2]), .v (.agg #[.int .i64 v2.1.1, .int .i64 v2.1.2])] [.p (.agg #[.int .i64 v3.1.1, .int .i64 v3.1.2])] (.box [.raw (.bool v3.2)]), (List.all [.p (.agg #[.int .i64 v3.1.1, .int .i64 v3.1.2])] simpleR && wnS (.box [.raw (.bool v3.2)])) = true] (by kernel_rfl) ⟨rfl, (wk_impl_calc_sub hv1), rfl, rfl, (wk_impl_calc_sub hv2), rfl, rfl, (wk_impl_calc_div hv3), (ls_t rfl (wnc rfl)), trivial⟩) ?_
  refine k_ret ?_
  obtain rfl := Option.some.inj h
  exact eb_ret (ls := [(.p (.agg #[.int .i64 v3.1.1, .int .i64 v3.1.2]), 6)]) (by kernel_rfl) rfl rfl (by kernel_rfl) (by kernel_rfl)
theorem wk_impl_calc_back {a0 : Bool} {a1 : ((Int × Int) × (Int × Int))} {a2 : ((Int × Int) × (Int × Int))} {a3 : (Int × Int)}  {r : ((Int × Int) × Bool)} (h : impl_calc_back a0 a1 a2 a3 = some r) : MeetsB Try.prog 94 (.box [.raw (.bool a0)]) [.v (.agg #[.int .i64 a1.1.1, .int .i64 a1.1.2, .int .i64 a1.2.1, .int .i64 a1.2.2]), .v (.agg #[.int .i64 a2.1.1, .int .i64 a2.1.2, .int .i64 a2.2.1, .int .i64 a2.2.2]), .v (.agg #[.int .i64 a3.1, .int .i64 a3.2])] [.p (.agg #[.int .i64 r.1.1, .int .i64 r.1.2])] (.box [.raw (.bool r.2)]) := by
  refine MeetsB_ofL (by kernel_rfl) Try.func94 rfl (by kernel_rfl) rfl (l0 := [(0, .box [.raw (.bool a0)]), (1, .p (.agg #[.int .i64 a1.1.1, .int .i64 a1.1.2, .int .i64 a1.2.1, .int .i64 a1.2.2])), (2, .p (.agg #[.int .i64 a2.1.1, .int .i64 a2.1.2, .int .i64 a2.2.1, .int .i64 a2.2.2])), (3, .p (.agg #[.int .i64 a3.1, .int .i64 a3.2]))]) (by kernel_rfl) ?_
  unfold impl_calc_back at h
  refine k_sreg (r_go [(0, .box [.raw (.bool a0)]), (5, .box [.raw (.int .i64 a1.1.1), .raw (.int .i64 a1.1.2), .raw (.int .i64 a1.2.1), .raw (.int .i64 a1.2.2)]), (6, .box [.raw (.int .i64 a2.1.1), .raw (.int .i64 a2.1.2), .raw (.int .i64 a2.2.1), .raw (.int .i64 a2.2.2)]), (7, .box [.raw (.int .i64 a3.1), .raw (.int .i64 a3.2)]), (8, .box [.raw (.int .i64 0), .raw (.int .i64 0)])] [] [] (by kernel_rfl) trivial) ?_
  replace h := bind_some' h
  obtain ⟨v1, hv1, h⟩ := h
  replace h := bind_some' h
  obtain ⟨v2, hv2, h⟩ := h
  replace h := bind_some' h
  obtain ⟨v3, hv3, h⟩ := h
  replace h := bind_some' h
  obtain ⟨v4, hv4, h⟩ := h
  refine k_sreg (r_draw Try_mixed 14 [(8, 0), (12, 0), (13, 0)] [(0, .box [.raw (.bool v4.2)]), (8, .box [.raw (.int .i64 v4.1.1), .raw (.int .i64 v4.1.2)])] [(8, {lend := some ([.v (.agg #[.int .i64 a3.1, .int .i64 a3.2]), .v (.agg #[.int .i64 a1.2.1, .int .i64 a1.2.2])], [.p (.agg #[.int .i64 v1.1.1, .int .i64 v1.1.2])], .box [.raw (.bool v1.2)], true)}), (12, {lend := some ([.v (.agg #[.int .i64 a1.1.1, .int .i64 a1.1.2, .int .i64 a1.2.1, .int .i64 a1.2.2]), .v (.agg #[.int .i64 a2.1.1, .int .i64 a2.1.2, .int .i64 a2.2.1, .int .i64 a2.2.2])], [.p (.agg #[.int .i64 v2.1.1, .int .i64 v2.1.2])], .box [.raw (.bool v2.2)], true)}), (13, {lend := some ([.v (.agg #[.int .i64 v1.1.1, .int .i64 v1.1.2]), .v (.agg #[.int .i64 v2.1.1, .int .i64 v2.1.2])], [.p (.agg #[.int .i64 v3.1.1, .int .i64 v3.1.2])], .box [.raw (.bool v3.2)], true)}), (14, {lend := some ([.v (.agg #[.int .i64 a1.1.1, .int .i64 a1.1.2]), .v (.agg #[.int .i64 v3.1.1, .int .i64 v3.1.2])], [.p (.agg #[.int .i64 v4.1.1, .int .i64 v4.1.2])], .box [.raw (.bool v4.2)], true)})] [([.v (.agg #[.int .i64 a3.1, .int .i64 a3.2]), .v (.agg #[.int .i64 a1.2.1, .int .i64 a1.2.2])] : List Arg) = [.v (.agg #[.int .i64 a3.1, .int .i64 a3.2]), .v (.agg #[.int .i64 a1.2.1, .int .i64 a1.2.2])], MeetsB Try.prog 62 (.box [.raw (.bool a0)]) [.v (.agg #[.int .i64 a3.1, .int .i64 a3.2]), .v (.agg #[.int .i64 a1.2.1, .int .i64 a1.2.2])] [.p (.agg #[.int .i64 v1.1.1, .int .i64 v1.1.2])] (.box [.raw (.bool v1.2)]), List.all [.p (.agg #[.int .i64 v1.1.1, .int .i64 v1.1.2])] simpleR = true, ([.v (.agg #[.int .i64 a1.1.1, .int .i64 a1.1.2, .int .i64 a1.2.1, .int .i64 a1.2.2]), .v (.agg #[.int .i64 a2.1.1, .int .i64 a2.1.2, .int .i64 a2.2.1, .int .i64 a2.2.2])] : List Arg) = [.v (.agg #[.int .i64 a1.1.1, .int .i64 a1.1.2, .int .i64 a1.2.1, .int .i64 a1.2.2]), .v (.agg #[.int .i64 a2.1.1, .int .i64 a2.1.2, .int .i64 a2.2.1, .int .i64 a2.2.2])], MeetsB Try.prog 109 (.box [.raw (.bool v1.2)]) [.v (.agg #[.int .i64 a1.1.1, .int .i64 a1.1.2, .int .i64 a1.2.1, .int .i64 a1.2.2]), .v (.agg #[.int .i64 a2.1.1, .int .i64 a2.1.2, .int .i64 a2.2.1, .int .i64 a2.2.2])] [.p (.agg #[.int .i64 v2.1.1, .int .i64 v2.1.2])] (.box [.raw (.bool v2.2)]), List.all [.p (.agg #[.int .i64 v2.1.1, .int .i64 v2.1.2])] simpleR = true, ([.v (.agg #[.int .i64 v1.1.1, .int .i64 v1.1.2]), .v (.agg #[.int .i64 v2.1.1, .int .i64 v2.1.2])] : List Arg) = [.v (.agg #[.int .i64 v1.1.1, .int .i64 v1.1.2]), .v (.agg #[.int .i64 v2.1.1, .int .i64 v2.1.2])], MeetsB Try.prog 61 (.box [.raw (.bool v2.2)]) [.v (.agg #[.int .i64 v1.1.1, .int .i64 v1.1.2]), .v (.agg #[.int .i64 v2.1.1, .int .i64 v2.1.2])] [.p (.agg #[.int .i64 v3.1.1, .int .i64 v3.1.2])] (.box [.raw (.bool v3.2)]), List.all [.p (.agg #[.int .i64 v3.1.1, .int .i64 v3.1.2])] simpleR = true, ([.v (.agg #[.int .i64 a1.1.1, .int .i64 a1.1.2]), .v (.agg #[.int .i64 v3.1.1, .int .i64 v3.1.2])] : List Arg) = [.v (.agg #[.int .i64 a1.1.1, .int .i64 a1.1.2]), .v (.agg #[.int .i64 v3.1.1, .int .i64 v3.1.2])], MeetsB Try.prog 85 (.box [.raw (.bool v3.2)]) [.v (.agg #[.int .i64 a1.1.1, .int .i64 a1.1.2]), .v (.agg #[.int .i64 v3.1.1, .int .i64 v3.1.2])] [.p (.agg #[.int .i64 v4.1.1, .int .i64 v4.1.2])] (.box [.raw (.bool v4.2)]), (List.all [.p (.agg #[.int .i64 v4.1.1, .int .i64 v4.1.2])] simpleR && wnS (.box [.raw (.bool v4.2)])) = true] (by kernel_rfl) ⟨rfl, (wk_impl_calc_sub hv1), rfl, rfl, (wk_impl_calc_slope hv2), rfl, rfl, (wk_impl_calc_div hv3), rfl, rfl, (wk_impl_calc_add hv4), (ls_t rfl (wnc rfl)), trivial⟩) ?_
  refine k_ret ?_
  obtain rfl := Option.some.inj h
  exact eb_ret (ls := [(.p (.agg #[.int .i64 v4.1.1, .int .i64 v4.1.2]), 8)]) (by kernel_rfl) rfl rfl (by kernel_rfl) (by kernel_rfl)
theorem wk_impl_calc_liftBefore {a0 : Bool} {a1 : (List ((Int × Int) × (Int × Int)))} {a2 : (Int × Int)}  {r : ((Int × Int) × Bool)} (h : impl_calc_liftBefore a0 a1 a2 = some r) : MeetsB Try.prog 53 (.box [.raw (.bool a0)]) [.d true [.sl none (a1.map (eP (eP eI eI) (eP eI eI)))], .v (.agg #[.int .i64 a2.1, .int .i64 a2.2])] [.p (.agg #[.int .i64 r.1.1, .int .i64 r.1.2])] (.box [.raw (.bool r.2)]) := by
  refine MeetsB_ofL (by kernel_rfl) Try.func53 rfl (by kernel_rfl) rfl (l0 := [(0, .box [.raw (.bool a0)]), (1, .d true [.sl none (a1.map (eP (eP eI eI) (eP eI eI)))]), (2, .p (.agg #[.int .i64 a2.1, .int .i64 a2.2]))]) (by kernel_rfl) ?_
  unfold impl_calc_liftBefore at h
  refine k_sreg (r_go [(0, .box [.raw (.bool a0)]), (4, .box [.sl none (a1.map (eP (eP eI eI) (eP eI eI)))]), (5, .box [.raw (.int .i64 a2.1), .raw (.int .i64 a2.2)]), (6, .box [.raw (.int .i64 0), .raw (.int .i64 0)])] [] [] (by kernel_rfl) trivial) ?_
  refine k_sreg (r_go [(0, .box [.raw (.bool a0)]), (5, .box [.raw (.int .i64 a2.1), .raw (.int .i64 a2.2)]), (6, .box [.raw (.int .i64 0), .raw (.int .i64 0)]), (7, .d false [.sl none (a1.map (eP (eP eI eI) (eP eI eI)))])] [(1, {b := some true})] [frR [.sl none (a1.map (eP (eP eI eI) (eP eI eI)))] = true] (by kernel_rfl) ⟨(frR1 (frL_enc (fr_P (fr_P fr_I fr_I) (fr_P fr_I fr_I))) rfl), trivial⟩) ?_
  replace h := bind_some' h
  obtain ⟨v1, hv1, h⟩ := h
  refine k_sreg (r_go [(0, .box [.raw (.bool a0)]), (5, .box [.raw (.int .i64 a2.1), .raw (.int .i64 a2.2)]), (6, .box [.raw (.int .i64 0), .raw (.int .i64 0)]), (7, .d false [.sl none (a1.map (eP (eP eI eI) (eP eI eI)))]), (8, .box [.raw (.int .i64 v1.2.1), .raw (.int .i64 v1.2.2)])] [(1, {row := some [.raw (.int .i64 v1.1.1), .raw (.int .i64 v1.1.2), .raw (.int .i64 v1.2.1), .raw (.int .i64 v1.2.2)]})] [0 ≤ 0, (a1.map (eP (eP eI eI) (eP eI eI)))[(Int.toNat 0)]? = some [.raw (.int .i64 v1.1.1), .raw (.int .i64 v1.1.2), .raw (.int .i64 v1.2.1), .raw (.int .i64 v1.2.2)]] (by kernel_rfl) ⟨(idxO_some hv1).1, (map_get (eP (eP eI eI) (eP eI eI)) (idxO_some hv1).2), trivial⟩) ?_
  replace h := bind_some' h
  obtain ⟨v2, hv2, h⟩ := h
  replace h := bind_some' h
  obtain ⟨v3, hv3, h⟩ := h
  replace h := bind_some' h
  obtain ⟨v4, hv4, h⟩ := h
  refine k_sreg (r_draw Try_mixed 7 [] [(0, .box [.raw (.bool a0)]), (5, .box [.raw (.int .i64 a2.1), .raw (.int .i64 a2.2)]), (6, .box [.raw (.int .i64 0), .raw (.int .i64 0)]), (7, .d false [.sl none (a1.map (eP (eP eI eI) (eP eI eI)))]), (8, .box [.raw (.int .i64 v1.2.1), .raw (.int .i64 v1.2.2)]), (9, .box [.raw (.int .i64 v4.1), .raw (.int .i64 v4.2)])] [(1, {call := some ([.v (.agg #[.int .i64 a2.1, .int .i64 a2.2])], [.p (.int .i64 v2)], true)}), (3, {call := some ([.v (.agg #[.int .i64 v1.2.1, .int .i64 v1.2.2])], [.p (.int .i64 v3)], true)}), (5, {call := some ([.v (.int .i64 (w64 (v2 - v3)))], [.p (.agg #[.int .i64 v4.1, .int .i64 v4.2])], true)})] [([.v (.agg #[.int .i64 a2.1, .int .i64 a2.2])] : List Arg) = [.v (.agg #[.int .i64 a2.1, .int .i64 a2.2])], Meets Try.prog 65 ([.v (.agg #[.int .i64 a2.1, .int .i64 a2.2])] ++ []) { vals := [.p (.int .i64 v2)] }, List.all [.p (.int .i64 v2)] simpleR = true, ([.v (.agg #[.int .i64 v1.2.1, .int .i64 v1.2.2])] : List Arg) = [.v (.agg #[.int .i64 v1.2.1, .int .i64 v1.2.2])], Meets Try.prog 65 ([.v (.agg #[.int .i64 v1.2.1, .int .i64 v1.2.2])] ++ []) { vals := [.p (.int .i64 v3)] }, List.all [.p (.int .i64 v3)] simpleR = true, ([.v (.int .i64 (w64 (v2 - v3)))] : List Arg) = [.v (.int .i64 (w64 (v2 - v3)))], Meets Try.prog 58 ([.v (.int .i64 (w64 (v2 - v3)))] ++ []) { vals := [.p (.agg #[.int .i64 v4.1, .int .i64 v4.2])] }, List.all [.p (.agg #[.int .i64 v4.1, .int .i64 v4.2])] simpleR = true] (by kernel_rfl) ⟨rfl, (wk_impl_floor hv2), rfl, rfl, (wk_impl_floor hv3), rfl, rfl, (wk_impl_whole hv4), rfl, trivial⟩) ?_
  refine k_join (J := fun (x : Int) => [(0, .box [.raw (.bool a0)]), (5, .box [.raw (.int .i64 a2.1), .raw (.int .i64 a2.2)]), (6, .box [.raw (.int .i64 0), .raw (.int .i64 0)]), (7, .d false [.sl none (a1.map (eP (eP eI eI) (eP eI eI)))]), (8, .box [.raw (.int .i64 v1.2.1), .raw (.int .i64 v1.2.2)]), (9, .box [.raw (.int .i64 x), .raw (.int .i64 v4.2)])]) (K := fun x => impl_calc_liftBefore_k1 a0 a1 a2 v1 v4 x = some r) (fun x5 h => ?_) ?_
  · unfold impl_calc_liftBefore_k1 at h
    replace h := bind_some' h
    obtain ⟨v6, hv6, h⟩ := h
    refine k_sreg (r_go [(0, .box [.raw (.bool v6.2)]), (5, .box [.raw (.int .i64 v6.1.1), .raw (.int .i64 v6.1.2)]), (6, .box [.raw (.int .i64 0), .raw (.int .i64 0)]), (7, .d false [.sl none (a1.map (eP (eP eI eI) (eP eI eI)))]), (8, .box [.raw (.int .i64 v1.2.1), .raw (.int .i64 v1.2.2)]), (9, .box [.raw (.int .i64 x5), .raw (.int .i64 v4.2)])] [(3, {lend := some ([.v (.agg #[.int .i64 a2.1, .int .i64 a2.2]), .v (.agg #[.int .i64 x5, .int .i64 v4.2])], [.p (.agg #[.int .i64 v6.1.1, .int .i64 v6.1.2])], .box [.raw (.bool v6.2)], true)})] [([.v (.agg #[.int .i64 a2.1, .int .i64 a2.2]), .v (.agg #[.int .i64 x5, .int .i64 v4.2])] : List Arg) = [.v (.agg #[.int .i64 a2.1, .int .i64 a2.2]), .v (.agg #[.int .i64 x5, .int .i64 v4.2])], MeetsB Try.prog 62 (.box [.raw (.bool a0)]) [.v (.agg #[.int .i64 a2.1, .int .i64 a2.2]), .v (.agg #[.int .i64 x5, .int .i64 v4.2])] [.p (.agg #[.int .i64 v6.1.1, .int .i64 v6.1.2])] (.box [.raw (.bool v6.2)]), (List.all [.p (.agg #[.int .i64 v6.1.1, .int .i64 v6.1.2])] simpleR && wnS (.box [.raw (.bool v6.2)])) = true] (by kernel_rfl) ⟨rfl, (wk_impl_calc_sub hv6), (ls_t rfl (wnc rfl)), trivial⟩) ?_
    refine k_seq ?_
    refine k_sreg (r_go [(0, .box [.raw (.bool v6.2)]), (5, .box [.raw (.int .i64 v6.1.1), .raw (.int .i64 v6.1.2)]), (6, .box [.raw (.int .i64 0), .raw (.int .i64 0)]), (7, .d false [.sl none (a1.map (eP (eP eI eI) (eP eI eI)))]), (8, .box [.raw (.int .i64 v1.2.1), .raw (.int .i64 v1.2.2)]), (9, .box [.raw (.int .i64 x5), .raw (.int .i64 v4.2)]), (40, .p (.bool v6.2))] [] [] (by kernel_rfl) trivial) ?_
    refine k_cond (b := v6.2) (by kernel_rfl) (fun hc2_6 => ?_) (fun hc2_6 => ?_)
    · replace h := ite_t hc2_6 h
      refine k_sreg (r_go [(0, .box [.raw (.bool v6.2)]), (6, .box [.raw (.int .i64 0), .raw (.int .i64 0)])] [] [] (by kernel_rfl) trivial) ?_
      refine k_ret ?_
      refine q_r ?_
      obtain rfl := Option.some.inj h
      exact eb_ret (ls := [(.p (.agg #[.int .i64 0, .int .i64 0]), 6)]) (by kernel_rfl) rfl rfl (by kernel_rfl) (by kernel_rfl)
    · replace h := ite_f hc2_6 h
      refine k_skip ?_
      refine q_n ?_
      refine k_join (J := fun (x : Unit) => [(0, .box [.raw (.bool v6.2)]), (5, .box [.raw (.int .i64 v6.1.1), .raw (.int .i64 v6.1.2)]), (6, .box [.raw (.int .i64 0), .raw (.int .i64 0)]), (7, .d false [.sl none (a1.map (eP (eP eI eI) (eP eI eI)))]), (9, .box [.raw (.int .i64 x5), .raw (.int .i64 v4.2)])]) (K := fun x => impl_calc_liftBefore_k2 a1 v4 x5 v6 x = some r) (fun x8 h => ?_) ?_
      · unfold impl_calc_liftBefore_k2 at h
        refine k_frz 5 [.raw (.int .i64 v6.1.1), .raw (.int .i64 v6.1.2)] [.raw (.int .i64 v6.1.1), .raw (.int .i64 v6.1.2)] [(0, .box [.raw (.bool v6.2)]), (5, .d false [.pt [.raw (.int .i64 v6.1.1), .raw (.int .i64 v6.1.2)]]), (6, .box [.raw (.int .i64 0), .raw (.int .i64 0)]), (7, .d false [.sl none (a1.map (eP (eP eI eI) (eP eI eI)))]), (9, .box [.raw (.int .i64 x5), .raw (.int .i64 v4.2)])] (by kernel_rfl) (erc_raw (erc_raw rfl)) (by kernel_rfl) (by kernel_rfl) ?_
        replace h := bind_some' h
        obtain ⟨v9, hv9, h⟩ := h
        refine k_sreg (r_go [(0, .box [.raw (.bool v6.2)]), (5, .d false [.pt [.raw (.int .i64 v6.1.1), .raw (.int .i64 v6.1.2)]]), (6, .box [.raw (.int .i64 0), .raw (.int .i64 0)]), (7, .d false [.sl none (a1.map (eP (eP eI eI) (eP eI eI)))]), (9, .box [.raw (.int .i64 x5), .raw (.int .i64 v4.2)]), (11, .p (.int .i64 v9))] [(2, {call := some ([.d false [.sl none (a1.map (eP (eP eI eI) (eP eI eI)))], .d false [.fn 93 [(false, [.pt [.raw (.int .i64 v6.1.1), .raw (.int .i64 v6.1.2)]])]]], [.p (.int .i64 v9)], true)})] [([.d false [.sl none (a1.map (eP (eP eI eI) (eP eI eI)))], .d false [.fn 93 [(false, [.pt [.raw (.int .i64 v6.1.1), .raw (.int .i64 v6.1.2)]])]]] : List Arg) = [.d false [.sl none (a1.map (eP (eP eI eI) (eP eI eI)))], .d false [.fn 93 [(false, [.pt [.raw (.int .i64 v6.1.1), .raw (.int .i64 v6.1.2)]])]]], Meets Try.prog 92 ([.d false [.sl none (a1.map (eP (eP eI eI) (eP eI eI)))], .d false [.fn 93 [(false, [.pt [.raw (.int .i64 v6.1.1), .raw (.int .i64 v6.1.2)]])]]] ++ []) { vals := [.p (.int .i64 v9)] }, List.all [.p (.int .i64 v9)] simpleR = true] (by kernel_rfl) ⟨rfl, (wk_slices_IndexFunc_Limpl_Point_impl_Point_d (fun x0 y hy => wk_impl_calc_liftBefore_1 hy) hv9), rfl, trivial⟩) ?_
        replace h := bind_some' h
        obtain ⟨v10, hv10, h⟩ := h
        replace h := bind_some' h
        obtain ⟨v11, hv11, h⟩ := h
        replace h := bind_some' h
        obtain ⟨v12, hv12, h⟩ := h
        replace h := bind_some' h
        obtain ⟨v13, hv13, h⟩ := h
        refine k_sreg (r_draw Try_mixed 14 [(12, 0)] [(0, .box [.raw (.bool v13.2)]), (6, .box [.raw (.int .i64 v13.1.1), .raw (.int .i64 v13.1.2)])] [(5, {row := some [.raw (.int .i64 v10.1.1), .raw (.int .i64 v10.1.2), .raw (.int .i64 v10.2.1), .raw (.int .i64 v10.2.2)]}), (9, {row := some [.raw (.int .i64 v11.1.1), .raw (.int .i64 v11.1.2), .raw (.int .i64 v11.2.1), .raw (.int .i64 v11.2.2)]}), (12, {lend := some ([.v (.agg #[.int .i64 v10.1.1, .int .i64 v10.1.2, .int .i64 v10.2.1, .int .i64 v10.2.2]), .v (.agg #[.int .i64 v11.1.1, .int .i64 v11.1.2, .int .i64 v11.2.1, .int .i64 v11.2.2]), .v (.agg #[.int .i64 v6.1.1, .int .i64 v6.1.2])], [.p (.agg #[.int .i64 v12.1.1, .int .i64 v12.1.2])], .box [.raw (.bool v12.2)], true)}), (14, {lend := some ([.v (.agg #[.int .i64 v12.1.1, .int .i64 v12.1.2]), .v (.agg #[.int .i64 x5, .int .i64 v4.2])], [.p (.agg #[.int .i64 v13.1.1, .int .i64 v13.1.2])], .box [.raw (.bool v13.2)], true)})] [0 ≤ (w64 (v9 - 1)), (a1.map (eP (eP eI eI) (eP eI eI)))[(Int.toNat (w64 (v9 - 1)))]? = some [.raw (.int .i64 v10.1.1), .raw (.int .i64 v10.1.2), .raw (.int .i64 v10.2.1), .raw (.int .i64 v10.2.2)], 0 ≤ v9, (a1.map (eP (eP eI eI) (eP eI eI)))[(Int.toNat v9)]? = some [.raw (.int .i64 v11.1.1), .raw (.int .i64 v11.1.2), .raw (.int .i64 v11.2.1), .raw (.int .i64 v11.2.2)], ([.v (.agg #[.int .i64 v10.1.1, .int .i64 v10.1.2, .int .i64 v10.2.1, .int .i64 v10.2.2]), .v (.agg #[.int .i64 v11.1.1, .int .i64 v11.1.2, .int .i64 v11.2.1, .int .i64 v11.2.2]), .v (.agg #[.int .i64 v6.1.1, .int .i64 v6.1.2])] : List Arg) = [.v (.agg #[.int .i64 v10.1.1, .int .i64 v10.1.2, .int .i64 v10.2.1, .int .i64 v10.2.2]), .v (.agg #[.int .i64 v11.1.1, .int .i64 v11.1.2, .int .i64 v11.2.1, .int .i64 v11.2.2]), .v (.agg #[.int .i64 v6.1.1, .int .i64 v6.1.2])], MeetsB Try.prog 94 (.box [.raw (.bool v6.2)]) [.v (.agg #[.int .i64 v10.1.1, .int .i64 v10.1.2, .int .i64 v10.2.1, .int .i64 v10.2.2]), .v (.agg #[.int .i64 v11.1.1, .int .i64 v11.1.2, .int .i64 v11.2.1, .int .i64 v11.2.2]), .v (.agg #[.int .i64 v6.1.1, .int .i64 v6.1.2])] [.p (.agg #[.int .i64 v12.1.1, .int .i64 v12.1.2])] (.box [.raw (.bool v12.2)]), List.all [.p (.agg #[.int .i64 v12.1.1, .int .i64 v12.1.2])] simpleR = true, ([.v (.agg #[.int .i64 v12.1.1, .int .i64 v12.1.2]), .v (.agg #[.int .i64 x5, .int .i64 v4.2])] : List Arg) = [.v (.agg #[.int .i64 v12.1.1, .int .i64 v12.1.2]), .v (.agg #[.int .i64 x5, .int .i64 v4.2])], MeetsB Try.prog 85 (.box [.raw (.bool v12.2)]) [.v (.agg #[.int .i64 v12.1.1, .int .i64 v12.1.2]), .v (.agg #[.int .i64 x5, .int .i64 v4.2])] [.p (.agg #[.int .i64 v13.1.1, .int .i64 v13.1.2])] (.box [.raw (.bool v13.2)]), (List.all [.p (.agg #[.int .i64 v13.1.1, .int .i64 v13.1.2])] simpleR && wnS (.box [.raw (.bool v13.2)])) = true] (by kernel_rfl) ⟨(idxO_some hv10).1, (map_get (eP (eP eI eI) (eP eI eI)) (idxO_some hv10).2), (idxO_some hv11).1, (map_get (eP (eP eI eI) (eP eI eI)) (idxO_some hv11).2), rfl, (wk_impl_calc_back hv12), rfl, rfl, (wk_impl_calc_add hv13), (ls_t rfl (wnc rfl)), trivial⟩) ?_
        refine k_ret ?_
        obtain rfl := Option.some.inj h
        exact eb_ret (ls := [(.p (.agg #[.int .i64 v13.1.1, .int .i64 v13.1.2]), 6)]) (by kernel_rfl) rfl rfl (by kernel_rfl) (by kernel_rfl)
      · refine k_sreg (r_go [(0, .box [.raw (.bool v6.2)]), (5, .box [.raw (.int .i64 v6.1.1), .raw (.int .i64 v6.1.2)]), (6, .box [.raw (.int .i64 0), .raw (.int .i64 0)]), (7, .d false [.sl none (a1.map (eP (eP eI eI) (eP eI eI)))]), (9, .box [.raw (.int .i64 x5), .raw (.int .i64 v4.2)]), (44, .p (.bool ((v6.1.1 == v1.2.1) && (v6.1.2 == v1.2.2))))] [(2, {pv := some (.bool ((v6.1.1 == v1.2.1) && (v6.1.2 == v1.2.2)))})] [PureAt Try.prog (.binOp .eql 28 (.tmp 42) (.tmp 43) 28) [.agg #[.int .i64 v6.1.1, .int .i64 v6.1.2], .agg #[.int .i64 v1.2.1, .int .i64 v1.2.2]] (.bool ((v6.1.1 == v1.2.1) && (v6.1.2 == v1.2.2)))] (by kernel_rfl) ⟨(pure_eql2 (by kernel_rfl)), trivial⟩) ?_
        refine k_cond (b := ((v6.1.1 == v1.2.1) && (v6.1.2 == v1.2.2))) (by kernel_rfl) (fun hc2_13 => ?_) (fun hc2_13 => ?_)
        · replace h := ite_t hc2_13 h
          refine k_sreg (r_go [(0, .box [.raw (.bool v6.2)]), (6, .box [.raw (.int .i64 0), .raw (.int .i64 0)]), (7, .d false [.sl none (a1.map (eP (eP eI eI) (eP eI eI)))]), (9, .box [.raw (.int .i64 x5), .raw (.int .i64 v4.2)]), (10, .p (.int .i64 (w64 ((a1.length : Int) - 1))))] [(1, {n := some a1.length})] [(a1.map (eP (eP eI eI) (eP eI eI))).length = a1.length] (by kernel_rfl) ⟨(List.length_map ..), trivial⟩) ?_
          refine k_join (J := fun (x : Int) => [(0, .box [.raw (.bool v6.2)]), (6, .box [.raw (.int .i64 0), .raw (.int .i64 0)]), (7, .d false [.sl none (a1.map (eP (eP eI eI) (eP eI eI)))]), (9, .box [.raw (.int .i64 x5), .raw (.int .i64 v4.2)]), (10, .p (.int .i64 x))]) (K := fun x => impl_calc_liftBefore_k3 a1 v4 x5 v6 x = some r) (fun x15 h => ?_) ?_
          · unfold impl_calc_liftBefore_k3 at h
            replace h := bind_some' h
            obtain ⟨v16, hv16, h⟩ := h
            replace h := bind_some' h
            obtain ⟨v17, hv17, h⟩ := h
            replace h := bind_some' h
            obtain ⟨v18, hv18, h⟩ := h
            replace h := bind_some' h
            obtain ⟨v19, hv19, h⟩ := h
            refine k_sreg (r_draw Try_mixed 10 [(8, 0)] [(0, .box [.raw (.bool v19.2)]), (6, .box [.raw (.int .i64 v19.1.1), .raw (.int .i64 v19.1.2)])] [(4, {row := some [.raw (.int .i64 v16.1.1), .raw (.int .i64 v16.1.2), .raw (.int .i64 v16.2.1), .raw (.int .i64 v16.2.2)]}), (7, {call := some ([], [.p (.agg #[.int .i64 v17.1, .int .i64 v17.2])], true)}), (8, {lend := some ([.v (.agg #[.int .i64 v16.1.1, .int .i64 v16.1.2]), .v (.agg #[.int .i64 v17.1, .int .i64 v17.2])], [.p (.agg #[.int .i64 v18.1.1, .int .i64 v18.1.2])], .box [.raw (.bool v18.2)], true)}), (10, {lend := some ([.v (.agg #[.int .i64 v18.1.1, .int .i64 v18.1.2]), .v (.agg #[.int .i64 x5, .int .i64 v4.2])], [.p (.agg #[.int .i64 v19.1.1, .int .i64 v19.1.2])], .box [.raw (.bool v19.2)], true)})] [0 ≤ x15, (a1.map (eP (eP eI eI) (eP eI eI)))[(Int.toNat x15)]? = some [.raw (.int .i64 v16.1.1), .raw (.int .i64 v16.1.2), .raw (.int .i64 v16.2.1), .raw (.int .i64 v16.2.2)], ([] : List Arg) = [], Meets Try.prog 84 ([] ++ []) { vals := [.p (.agg #[.int .i64 v17.1, .int .i64 v17.2])] }, List.all [.p (.agg #[.int .i64 v17.1, .int .i64 v17.2])] simpleR = true, ([.v (.agg #[.int .i64 v16.1.1, .int .i64 v16.1.2]), .v (.agg #[.int .i64 v17.1, .int .i64 v17.2])] : List Arg) = [.v (.agg #[.int .i64 v16.1.1, .int .i64 v16.1.2]), .v (.agg #[.int .i64 v17.1, .int .i64 v17.2])], MeetsB Try.prog 62 (.box [.raw (.bool v6.2)]) [.v (.agg #[.int .i64 v16.1.1, .int .i64 v16.1.2]), .v (.agg #[.int .i64 v17.1, .int .i64 v17.2])] [.p (.agg #[.int .i64 v18.1.1, .int .i64 v18.1.2])] (.box [.raw (.bool v18.2)]), List.all [.p (.agg #[.int .i64 v18.1.1, .int .i64 v18.1.2])] simpleR = true, ([.v (.agg #[.int .i64 v18.1.1, .int .i64 v18.1.2]), .v (.agg #[.int .i64 x5, .int .i64 v4.2])] : List Arg) = [.v (.agg #[.int .i64 v18.1.1, .int .i64 v18.1.2]), .v (.agg #[.int .i64 x5, .int .i64 v4.2])], MeetsB Try.prog 85 (.box [.raw (.bool v18.2)]) [.v (.agg #[.int .i64 v18.1.1, .int .i64 v18.1.2]), .v (.agg #[.int .i64 x5, .int .i64 v4.2])] [.p (.agg #[.int .i64 v19.1.1, .int .i64 v19.1.2])] (.box [.raw (.bool v19.2)]), (List.all [.p (.agg #[.int .i64 v19.1.1, .int .i64 v19.1.2])] simpleR && wnS (.box [.raw (.bool v19.2)])) = true] (by kernel_rfl) ⟨(idxO_some hv16).1, (map_get (eP (eP eI eI) (eP eI eI)) (idxO_some hv16).2), rfl, (wk_impl_oneRat hv17), rfl, rfl, (wk_impl_calc_sub hv18), rfl, rfl, (wk_impl_calc_add hv19), (ls_t rfl (wnc rfl)), trivial⟩) ?_
            refine k_ret ?_
            refine q_r ?_
            obtain rfl := Option.some.inj h
            exact eb_ret (ls := [(.p (.agg #[.int .i64 v19.1.1, .int .i64 v19.1.2]), 6)]) (by kernel_rfl) rfl rfl (by kernel_rfl) (by kernel_rfl)
          · refine k_block ?_
            obtain ⟨y21, hl_x20, hk_x20⟩ := bind_some' h
            clear h
            refine k_loop (J := fun (x : Int) => [(0, .box [.raw (.bool v6.2)]), (6, .box [.raw (.int .i64 0), .raw (.int .i64 0)]), (7, .d false [.sl none (a1.map (eP (eP eI eI) (eP eI eI)))]), (9, .box [.raw (.int .i64 x5), .raw (.int .i64 v4.2)]), (10, .p (.int .i64 x))]) hl_x20 (wk_of (by kernel_rfl) (by kernel_rfl)) (fun x20 o_x20 h hy_x20 => ?_)
            unfold impl_calc_liftBefore_b1 at h
            refine k_seq ?_
            replace h := bind_some' h
            obtain ⟨v22, hv22, h⟩ := h
            replace h := bind_some' h
            obtain ⟨v23, hv23, h⟩ := h
            refine k_sreg (r_draw Try_mixed 11 [] [(0, .box [.raw (.bool v6.2)]), (6, .box [.raw (.int .i64 0), .raw (.int .i64 0)]), (7, .d false [.sl none (a1.map (eP (eP eI eI) (eP eI eI)))]), (9, .box [.raw (.int .i64 x5), .raw (.int .i64 v4.2)]), (10, .p (.int .i64 x20)), (59, .p (.bool ((v22.2.1 == v23.2.1) && (v22.2.2 == v23.2.2))))] [(3, {row := some [.raw (.int .i64 v22.1.1), .raw (.int .i64 v22.1.2), .raw (.int .i64 v22.2.1), .raw (.int .i64 v22.2.2)]}), (8, {row := some [.raw (.int .i64 v23.1.1), .raw (.int .i64 v23.1.2), .raw (.int .i64 v23.2.1), .raw (.int .i64 v23.2.2)]}), (11, {pv := some (.bool ((v22.2.1 == v23.2.1) && (v22.2.2 == v23.2.2)))})] [0 ≤ (w64 (x20 - 1)), (a1.map (eP (eP eI eI) (eP eI eI)))[(Int.toNat (w64 (x20 - 1)))]? = some [.raw (.int .i64 v22.1.1), .raw (.int .i64 v22.1.2), .raw (.int .i64 v22.2.1), .raw (.int .i64 v22.2.2)], 0 ≤ x20, (a1.map (eP (eP eI eI) (eP eI eI)))[(Int.toNat x20)]? = some [.raw (.int .i64 v23.1.1), .raw (.int .i64 v23.1.2), .raw (.int .i64 v23.2.1), .raw (.int .i64 v23.2.2)], PureAt Try.prog (.binOp .eql 28 (.tmp 53) (.tmp 58) 28) [.agg #[.int .i64 v22.2.1, .int .i64 v22.2.2], .agg #[.int .i64 v23.2.1, .int .i64 v23.2.2]] (.bool ((v22.2.1 == v23.2.1) && (v22.2.2 == v23.2.2)))] (by kernel_rfl) ⟨(idxO_some hv22).1, (map_get (eP (eP eI eI) (eP eI eI)) (idxO_some hv22).2), (idxO_some hv23).1, (map_get (eP (eP eI eI) (eP eI eI)) (idxO_some hv23).2), (pure_eql2 (by kernel_rfl)), trivial⟩) ?_
            refine k_cond (b := ((v22.2.1 == v23.2.1) && (v22.2.2 == v23.2.2))) (by kernel_rfl) (fun hc6_23 => ?_) (fun hc6_23 => ?_)
            · replace h := ite_t hc6_23 h
              refine k_skip ?_
              refine q_n ?_
              refine k_block ?_
              refine k_reg (r_go [(0, .box [.raw (.bool v6.2)]), (6, .box [.raw (.int .i64 0), .raw (.int .i64 0)]), (7, .d false [.sl none (a1.map (eP (eP eI eI) (eP eI eI)))]), (9, .box [.raw (.int .i64 x5), .raw (.int .i64 v4.2)]), (10, .p (.int .i64 (w64 (x20 - 1))))] [] [] (by kernel_rfl) trivial) ?_
              refine b_n ?_
              exact lq_n (w64 (x20 - 1)) (Option.some.inj h).symm (wk_of (by kernel_rfl) (by kernel_rfl))
            · replace h := ite_f hc6_23 h
              refine k_exit ?_
              refine q_x ?_
              refine lq_x ?_
              refine b_x ?_
              have hyy := hy_x20 _ (Option.some.inj h).symm
              subst hyy
              have h := hk_x20
              refine q_n ?_
              exact ⟨x20, h, (wk_of (by kernel_rfl) (by kernel_rfl))⟩
        · replace h := ite_f hc2_13 h
          refine k_skip ?_
          refine q_n ?_
          exact ⟨(), h, (wk_of (by kernel_rfl) (by kernel_rfl))⟩
  · replace h := bind_some' h
    obtain ⟨v25, hv25, h⟩ := h
    replace h := bind_some' h
    obtain ⟨v26, hv26, h⟩ := h
    replace h := bind_some' h
    obtain ⟨v27, hv27, h⟩ := h
    refine k_sreg (r_draw Try_mixed 3 [] [(0, .box [.raw (.bool a0)]), (5, .box [.raw (.int .i64 a2.1), .raw (.int .i64 a2.2)]), (6, .box [.raw (.int .i64 0), .raw (.int .i64 0)]), (7, .d false [.sl none (a1.map (eP (eP eI eI) (eP eI eI)))]), (8, .box [.raw (.int .i64 v1.2.1), .raw (.int .i64 v1.2.2)]), (9, .box [.raw (.int .i64 v4.1), .raw (.int .i64 v4.2)]), (28, .p (.bool v27))] [(1, {call := some ([.v (.agg #[.int .i64 a2.1, .int .i64 a2.2])], [.p (.agg #[.int .i64 v25.1, .int .i64 v25.2])], true)}), (3, {call := some ([.v (.agg #[.int .i64 v1.2.1, .int .i64 v1.2.2])], [.p (.agg #[.int .i64 v26.1, .int .i64 v26.2])], true)}), (4, {call := some ([.v (.agg #[.int .i64 v25.1, .int .i64 v25.2]), .v (.agg #[.int .i64 v26.1, .int .i64 v26.2])], [.p (.bool v27)], true)})] [([.v (.agg #[.int .i64 a2.1, .int .i64 a2.2])] : List Arg) = [.v (.agg #[.int .i64 a2.1, .int .i64 a2.2])], Meets Try.prog 91 ([.v (.agg #[.int .i64 a2.1, .int .i64 a2.2])] ++ []) { vals := [.p (.agg #[.int .i64 v25.1, .int .i64 v25.2])] }, List.all [.p (.agg #[.int .i64 v25.1, .int .i64 v25.2])] simpleR = true, ([.v (.agg #[.int .i64 v1.2.1, .int .i64 v1.2.2])] : List Arg) = [.v (.agg #[.int .i64 v1.2.1, .int .i64 v1.2.2])], Meets Try.prog 91 ([.v (.agg #[.int .i64 v1.2.1, .int .i64 v1.2.2])] ++ []) { vals := [.p (.agg #[.int .i64 v26.1, .int .i64 v26.2])] }, List.all [.p (.agg #[.int .i64 v26.1, .int .i64 v26.2])] simpleR = true, ([.v (.agg #[.int .i64 v25.1, .int .i64 v25.2]), .v (.agg #[.int .i64 v26.1, .int .i64 v26.2])] : List Arg) = [.v (.agg #[.int .i64 v25.1, .int .i64 v25.2]), .v (.agg #[.int .i64 v26.1, .int .i64 v26.2])], Meets Try.prog 83 ([.v (.agg #[.int .i64 v25.1, .int .i64 v25.2]), .v (.agg #[.int .i64 v26.1, .int .i64 v26.2])] ++ []) { vals := [.p (.bool v27)] }, List.all [.p (.bool v27)] simpleR = true] (by kernel_rfl) ⟨rfl, (wk_impl_fractionLeft hv25), rfl, rfl, (wk_impl_fractionLeft hv26), rfl, rfl, (wk_impl_less hv27), rfl, trivial⟩) ?_
    refine k_cond (b := v27) (by kernel_rfl) (fun hc2_27 => ?_) (fun hc2_27 => ?_)
    · replace h := ite_t hc2_27 h
      refine k_reg (r_go [(0, .box [.raw (.bool a0)]), (5, .box [.raw (.int .i64 a2.1), .raw (.int .i64 a2.2)]), (6, .box [.raw (.int .i64 0), .raw (.int .i64 0)]), (7, .d false [.sl none (a1.map (eP (eP eI eI) (eP eI eI)))]), (8, .box [.raw (.int .i64 v1.2.1), .raw (.int .i64 v1.2.2)]), (9, .box [.raw (.int .i64 (w64 (v4.1 - 1))), .raw (.int .i64 v4.2)])] [] [] (by kernel_rfl) trivial) ?_
      refine q_n ?_
      exact ⟨(w64 (v4.1 - 1)), h, (wk_of (by kernel_rfl) (by kernel_rfl))⟩
    · replace h := ite_f hc2_27 h
      refine k_skip ?_
      refine q_n ?_
      exact ⟨v4.1, h, (wk_of (by kernel_rfl) (by kernel_rfl))⟩
theorem wk_impl_LiftBefore {a0 : (List ((Int × Int) × (Int × Int)))} {a1 : (Int × Int)}  {r : ((Int × Int) × Bool)} (h : impl_LiftBefore a0 a1 = some r) : Meets Try.prog 19 [.d true [.sl none (a0.map (eP (eP eI eI) (eP eI eI)))], .v (.agg #[.int .i64 a1.1, .int .i64 a1.2])] { vals := [.p (.agg #[.int .i64 r.1.1, .int .i64 r.1.2]), .p (.bool r.2)] } := by
  refine Meets_ofL (by kernel_rfl) Try.func19 rfl (by kernel_rfl) (l0 := [(0, .d true [.sl none (a0.map (eP (eP eI eI) (eP eI eI)))]), (1, .p (.agg #[.int .i64 a1.1, .int .i64 a1.2]))]) (by kernel_rfl) ?_
  unfold impl_LiftBefore at h
  refine k_sreg (r_go [(2, .box [.sl none (a0.map (eP (eP eI eI) (eP eI eI)))]), (3, .box [.raw (.int .i64 a1.1), .raw (.int .i64 a1.2)]), (4, .box [.raw (.int .i64 0), .raw (.int .i64 0)])] [] [] (by kernel_rfl) trivial) ?_
  refine k_seq ?_
  replace h := bind_some' h
  obtain ⟨v1, hv1, h⟩ := h
  replace h := bind_some' h
  obtain ⟨w3, hw3, h⟩ := h
  refine k_sreg (l1 := [(2, .box [.sl none (a0.map (eP (eP eI eI) (eP eI eI)))]), (3, .box [.raw (.int .i64 a1.1), .raw (.int .i64 a1.2)]), (4, .box [.raw (.int .i64 0), .raw (.int .i64 0)]), (15, .p (.bool w3))]) ?_ ?_
  · clear h
    rcases Bool.eq_false_or_eq_true (!v1) with ha0 | ha0
    · replace hw3 := ite_t ha0 hw3
      have hw3 := Option.some.inj hw3
      subst hw3
      exact (r_go [(2, .box [.sl none (a0.map (eP (eP eI eI) (eP eI eI)))]), (3, .box [.raw (.int .i64 a1.1), .raw (.int .i64 a1.2)]), (4, .box [.raw (.int .i64 0), .raw (.int .i64 0)]), (15, .p (.bool true))] [(0, {b := some true}), (1, {call := some ([.d true [.sl none (a0.map (eP (eP eI eI) (eP eI eI)))]], [.p (.bool v1)], true)}), (4, {g := some true}), (5, {g := some true}), (6, {g := some true}), (7, {b := some true})] [frR [.sl none (a0.map (eP (eP eI eI) (eP eI eI)))] = true, ([.d true [.sl none (a0.map (eP (eP eI eI) (eP eI eI)))]] : List Arg) = [.d true [.sl none (a0.map (eP (eP eI eI) (eP eI eI)))]], Meets Try.prog 41 ([.d true [.sl none (a0.map (eP (eP eI eI) (eP eI eI)))]] ++ []) { vals := [.p (.bool v1)] }, List.all [.p (.bool v1)] simpleR = true, (!v1) = true, (!v1) = true, (!v1) = true, (!v1) = true] (by kernel_rfl) ⟨(frR1 (frL_enc (fr_P (fr_P fr_I fr_I) (fr_P fr_I fr_I))) rfl), rfl, (wk_impl_isLift hv1), rfl, ha0, ha0, ha0, ha0, trivial⟩)
    · replace hw3 := ite_f ha0 hw3
      replace hw3 := bind_some' hw3
      obtain ⟨v2, hv2, hw3⟩ := hw3
      have hw3 := Option.some.inj hw3
      subst hw3
      exact (r_go [(2, .box [.sl none (a0.map (eP (eP eI eI) (eP eI eI)))]), (3, .box [.raw (.int .i64 a1.1), .raw (.int .i64 a1.2)]), (4, .box [.raw (.int .i64 0), .raw (.int .i64 0)]), (15, .p (.bool (!v2)))] [(0, {b := some true}), (1, {call := some ([.d true [.sl none (a0.map (eP (eP eI eI) (eP eI eI)))]], [.p (.bool v1)], true)}), (4, {g := some false}), (5, {g := some false, call := some ([.v (.agg #[.int .i64 a1.1, .int .i64 a1.2])], [.p (.bool v2)], true)}), (6, {g := some false}), (7, {b := some false})] [frR [.sl none (a0.map (eP (eP eI eI) (eP eI eI)))] = true, ([.d true [.sl none (a0.map (eP (eP eI eI) (eP eI eI)))]] : List Arg) = [.d true [.sl none (a0.map (eP (eP eI eI) (eP eI eI)))]], Meets Try.prog 41 ([.d true [.sl none (a0.map (eP (eP eI eI) (eP eI eI)))]] ++ []) { vals := [.p (.bool v1)] }, List.all [.p (.bool v1)] simpleR = true, (!v1) = false, (!v1) = false, ([.v (.agg #[.int .i64 a1.1, .int .i64 a1.2])] : List Arg) = [.v (.agg #[.int .i64 a1.1, .int .i64 a1.2])], Meets Try.prog 42 ([.v (.agg #[.int .i64 a1.1, .int .i64 a1.2])] ++ []) { vals := [.p (.bool v2)] }, List.all [.p (.bool v2)] simpleR = true, (!v1) = false, (!v1) = false] (by kernel_rfl) ⟨(frR1 (frL_enc (fr_P (fr_P fr_I fr_I) (fr_P fr_I fr_I))) rfl), rfl, (wk_impl_isLift hv1), rfl, ha0, ha0, rfl, (wk_impl_isFar hv2), rfl, ha0, ha0, trivial⟩)
  · refine k_cond (b := w3) (by kernel_rfl) (fun hc2_3 => ?_) (fun hc2_3 => ?_)
    · replace h := ite_t hc2_3 h
      refine k_sreg (r_go [(4, .box [.raw (.int .i64 0), .raw (.int .i64 0)]), (5, .p (.bool false))] [] [] (by kernel_rfl) trivial) ?_
      refine k_ret ?_
      refine q_r ?_
      obtain rfl := Option.some.inj h
      exact e_ret (ls := [(.p (.agg #[.int .i64 0, .int .i64 0]), 4), (.p (.bool false), 5)]) (by kernel_rfl) rfl (by kernel_rfl) rfl
    · replace h := ite_f hc2_3 h
      refine k_skip ?_
      refine q_n ?_
      refine k_sreg (r_go [(2, .box [.sl none (a0.map (eP (eP eI eI) (eP eI eI)))]), (3, .box [.raw (.int .i64 a1.1), .raw (.int .i64 a1.2)]), (4, .box [.raw (.int .i64 0), .raw (.int .i64 0)]), (6, .box [.raw (.bool false)])] [] [] (by kernel_rfl) trivial) ?_
      replace h := bind_some' h
      obtain ⟨v5, hv5, h⟩ := h
      refine k_sreg (r_go [(4, .box [.raw (.int .i64 0), .raw (.int .i64 0)]), (6, .box [.raw (.bool v5.2)]), (7, .box [.raw (.int .i64 v5.1.1), .raw (.int .i64 v5.1.2)])] [(0, {b := some true}), (2, {lend := some ([.d true [.sl none (a0.map (eP (eP eI eI) (eP eI eI)))], .v (.agg #[.int .i64 a1.1, .int .i64 a1.2])], [.p (.agg #[.int .i64 v5.1.1, .int .i64 v5.1.2])], .box [.raw (.bool v5.2)], true)})] [frR [.sl none (a0.map (eP (eP eI eI) (eP eI eI)))] = true, ([.d true [.sl none (a0.map (eP (eP eI eI) (eP eI eI)))], .v (.agg #[.int .i64 a1.1, .int .i64 a1.2])] : List Arg) = [.d true [.sl none (a0.map (eP (eP eI eI) (eP eI eI)))], .v (.agg #[.int .i64 a1.1, .int .i64 a1.2])], MeetsB Try.prog 53 (.box [.raw (.bool false)]) [.d true [.sl none (a0.map (eP (eP eI eI) (eP eI eI)))], .v (.agg #[.int .i64 a1.1, .int .i64 a1.2])] [.p (.agg #[.int .i64 v5.1.1, .int .i64 v5.1.2])] (.box [.raw (.bool v5.2)]), (List.all [.p (.agg #[.int .i64 v5.1.1, .int .i64 v5.1.2])] simpleR && wnS (.box [.raw (.bool v5.2)])) = true] (by kernel_rfl) ⟨(frR1 (frL_enc (fr_P (fr_P fr_I fr_I) (fr_P fr_I fr_I))) rfl), rfl, (wk_impl_calc_liftBefore hv5), (ls_t rfl (wnc rfl)), trivial⟩) ?_
      refine k_seq ?_
      refine k_sreg (r_go [(4, .box [.raw (.int .i64 0), .raw (.int .i64 0)]), (7, .box [.raw (.int .i64 v5.1.1), .raw (.int .i64 v5.1.2)]), (21, .p (.bool v5.2))] [] [] (by kernel_rfl) trivial) ?_
      refine k_cond (b := v5.2) (by kernel_rfl) (fun hc2_5 => ?_) (fun hc2_5 => ?_)
      · replace h := ite_t hc2_5 h
        refine k_sreg (r_go [(4, .box [.raw (.int .i64 0), .raw (.int .i64 0)]), (5, .p (.bool false))] [] [] (by kernel_rfl) trivial) ?_
        refine k_ret ?_
        refine q_r ?_
        obtain rfl := Option.some.inj h
        exact e_ret (ls := [(.p (.agg #[.int .i64 0, .int .i64 0]), 4), (.p (.bool false), 5)]) (by kernel_rfl) rfl (by kernel_rfl) rfl
      · replace h := ite_f hc2_5 h
        refine k_skip ?_
        refine q_n ?_
        refine k_sreg (r_go [(4, .box [.raw (.int .i64 v5.1.1), .raw (.int .i64 v5.1.2)]), (5, .p (.bool true))] [] [] (by kernel_rfl) trivial) ?_
        refine k_ret ?_
        obtain rfl := Option.some.inj h
        exact e_ret (ls := [(.p (.agg #[.int .i64 v5.1.1, .int .i64 v5.1.2]), 4), (.p (.bool true), 5)]) (by kernel_rfl) rfl (by kernel_rfl) rfl
theorem wk_laws_eqRat {a0 : (Int × Int)} {a1 : (Int × Int)}  {r : Bool} (h : laws_eqRat a0 a1 = some r) : Meets Try.prog 16 [.v (.agg #[.int .i64 a0.1, .int .i64 a0.2]), .v (.agg #[.int .i64 a1.1, .int .i64 a1.2])] { vals := [.p (.bool r)] } := by
  refine Meets_ofL (by kernel_rfl) Try.func16 rfl (by kernel_rfl) (l0 := [(0, .p (.agg #[.int .i64 a0.1, .int .i64 a0.2])), (1, .p (.agg #[.int .i64 a1.1, .int .i64 a1.2]))]) (by kernel_rfl) ?_
  unfold laws_eqRat at h
  refine k_sreg (r_go [(2, .box [.raw (.int .i64 a0.1), .raw (.int .i64 a0.2)]), (3, .box [.raw (.int .i64 a1.1), .raw (.int .i64 a1.2)])] [] [] (by kernel_rfl) trivial) ?_
  refine k_seq ?_
  refine k_sreg (r_go [(2, .box [.raw (.int .i64 a0.1), .raw (.int .i64 a0.2)]), (3, .box [.raw (.int .i64 a1.1), .raw (.int .i64 a1.2)]), (9, .p (.bool (a0.1 != a1.1)))] [] [] (by kernel_rfl) trivial) ?_
  refine k_cond (b := (a0.1 != a1.1)) (by kernel_rfl) (fun hc2_0 => ?_) (fun hc2_0 => ?_)
  · replace h := ite_t hc2_0 h
    refine k_sreg (r_go [(4, .p (.bool false))] [] [] (by kernel_rfl) trivial) ?_
    refine k_ret ?_
    refine q_r ?_
    obtain rfl := Option.some.inj h
    exact e_ret (ls := [(.p (.bool false), 4)]) (by kernel_rfl) rfl (by kernel_rfl) rfl
  · replace h := ite_f hc2_0 h
    refine k_skip ?_
    refine q_n ?_
    refine k_seq ?_
    refine k_sreg (r_go [(14, .p (.bool (a0.2 != a1.2)))] [] [] (by kernel_rfl) trivial) ?_
    refine k_cond (b := (a0.2 != a1.2)) (by kernel_rfl) (fun hc2_1 => ?_) (fun hc2_1 => ?_)
    · replace h := ite_t hc2_1 h
      refine k_sreg (r_go [(4, .p (.bool false))] [] [] (by kernel_rfl) trivial) ?_
      refine k_ret ?_
      refine q_r ?_
      obtain rfl := Option.some.inj h
      exact e_ret (ls := [(.p (.bool false), 4)]) (by kernel_rfl) rfl (by kernel_rfl) rfl
    · replace h := ite_f hc2_1 h
      refine k_skip ?_
      refine q_n ?_
      refine k_sreg (r_go [(4, .p (.bool true))] [] [] (by kernel_rfl) trivial) ?_
      refine k_ret ?_
      obtain rfl := Option.some.inj h
      exact e_ret (ls := [(.p (.bool true), 4)]) (by kernel_rfl) rfl (by kernel_rfl) rfl
theorem wk_laws_eqPoint {a0 : ((Int × Int) × (Int × Int))} {a1 : ((Int × Int) × (Int × Int))}  {r : Bool} (h : laws_eqPoint a0 a1 = some r) : Meets Try.prog 87 [.v (.agg #[.int .i64 a0.1.1, .int .i64 a0.1.2, .int .i64 a0.2.1, .int .i64 a0.2.2]), .v (.agg #[.int .i64 a1.1.1, .int .i64 a1.1.2, .int .i64 a1.2.1, .int .i64 a1.2.2])] { vals := [.p (.bool r)] } := by
  refine Meets_ofL (by kernel_rfl) Try.func87 rfl (by kernel_rfl) (l0 := [(0, .p (.agg #[.int .i64 a0.1.1, .int .i64 a0.1.2, .int .i64 a0.2.1, .int .i64 a0.2.2])), (1, .p (.agg #[.int .i64 a1.1.1, .int .i64 a1.1.2, .int .i64 a1.2.1, .int .i64 a1.2.2]))]) (by kernel_rfl) ?_
  unfold laws_eqPoint at h
  refine k_sreg (r_go [(2, .box [.raw (.int .i64 a0.1.1), .raw (.int .i64 a0.1.2), .raw (.int .i64 a0.2.1), .raw (.int .i64 a0.2.2)]), (3, .box [.raw (.int .i64 a1.1.1), .raw (.int .i64 a1.1.2), .raw (.int .i64 a1.2.1), .raw (.int .i64 a1.2.2)])] [] [] (by kernel_rfl) trivial) ?_
  refine k_seq ?_
  replace h := bind_some' h
  obtain ⟨v1, hv1, h⟩ := h
  refine k_sreg (r_go [(2, .box [.raw (.int .i64 a0.1.1), .raw (.int .i64 a0.1.2), .raw (.int .i64 a0.2.1), .raw (.int .i64 a0.2.2)]), (3, .box [.raw (.int .i64 a1.1.1), .raw (.int .i64 a1.1.2), .raw (.int .i64 a1.2.1), .raw (.int .i64 a1.2.2)]), (10, .p (.bool (!v1)))] [(4, {call := some ([.v (.agg #[.int .i64 a0.1.1, .int .i64 a0.1.2]), .v (.agg #[.int .i64 a1.1.1, .int .i64 a1.1.2])], [.p (.bool v1)], true)})] [([.v (.agg #[.int .i64 a0.1.1, .int .i64 a0.1.2]), .v (.agg #[.int .i64 a1.1.1, .int .i64 a1.1.2])] : List Arg) = [.v (.agg #[.int .i64 a0.1.1, .int .i64 a0.1.2]), .v (.agg #[.int .i64 a1.1.1, .int .i64 a1.1.2])], Meets Try.prog 16 ([.v (.agg #[.int .i64 a0.1.1, .int .i64 a0.1.2]), .v (.agg #[.int .i64 a1.1.1, .int .i64 a1.1.2])] ++ []) { vals := [.p (.bool v1)] }, List.all [.p (.bool v1)] simpleR = true] (by kernel_rfl) ⟨rfl, (wk_laws_eqRat hv1), rfl, trivial⟩) ?_
  refine k_cond (b := (!v1)) (by kernel_rfl) (fun hc2_1 => ?_) (fun hc2_1 => ?_)
  · replace h := ite_t hc2_1 h
    refine k_sreg (r_go [(4, .p (.bool false))] [] [] (by kernel_rfl) trivial) ?_
    refine k_ret ?_
    refine q_r ?_
    obtain rfl := Option.some.inj h
    exact e_ret (ls := [(.p (.bool false), 4)]) (by kernel_rfl) rfl (by kernel_rfl) rfl
  · replace h := ite_f hc2_1 h
    refine k_skip ?_
    refine q_n ?_
    refine k_seq ?_
    replace h := bind_some' h
    obtain ⟨v3, hv3, h⟩ := h
    refine k_sreg (r_go [(16, .p (.bool (!v3)))] [(4, {call := some ([.v (.agg #[.int .i64 a0.2.1, .int .i64 a0.2.2]), .v (.agg #[.int .i64 a1.2.1, .int .i64 a1.2.2])], [.p (.bool v3)], true)})] [([.v (.agg #[.int .i64 a0.2.1, .int .i64 a0.2.2]), .v (.agg #[.int .i64 a1.2.1, .int .i64 a1.2.2])] : List Arg) = [.v (.agg #[.int .i64 a0.2.1, .int .i64 a0.2.2]), .v (.agg #[.int .i64 a1.2.1, .int .i64 a1.2.2])], Meets Try.prog 16 ([.v (.agg #[.int .i64 a0.2.1, .int .i64 a0.2.2]), .v (.agg #[.int .i64 a1.2.1, .int .i64 a1.2.2])] ++ []) { vals := [.p (.bool v3)] }, List.all [.p (.bool v3)] simpleR = true] (by kernel_rfl) ⟨rfl, (wk_laws_eqRat hv3), rfl, trivial⟩) ?_
    refine k_cond (b := (!v3)) (by kernel_rfl) (fun hc2_3 => ?_) (fun hc2_3 => ?_)
    · replace h := ite_t hc2_3 h
      refine k_sreg (r_go [(4, .p (.bool false))] [] [] (by kernel_rfl) trivial) ?_
      refine k_ret ?_
      refine q_r ?_
      obtain rfl := Option.some.inj h
      exact e_ret (ls := [(.p (.bool false), 4)]) (by kernel_rfl) rfl (by kernel_rfl) rfl
    · replace h := ite_f hc2_3 h
      refine k_skip ?_
      refine q_n ?_
      refine k_sreg (r_go [(4, .p (.bool true))] [] [] (by kernel_rfl) trivial) ?_
      refine k_ret ?_
      obtain rfl := Option.some.inj h
      exact e_ret (ls := [(.p (.bool true), 4)]) (by kernel_rfl) rfl (by kernel_rfl) rfl
theorem wk_laws_eqPointS {a0 : (List ((Int × Int) × (Int × Int)))} {a1 : (List ((Int × Int) × (Int × Int)))}  {r : Bool} (h : laws_eqPointS a0 a1 = some r) : Meets Try.prog 44 [.d false [.sl none (a0.map (eP (eP eI eI) (eP eI eI)))], .d false [.sl none (a1.map (eP (eP eI eI) (eP eI eI)))]] { vals := [.p (.bool r)] } := by
  refine Meets_ofL (by kernel_rfl) Try.func44 rfl (by kernel_rfl) (l0 := [(0, .d false [.sl none (a0.map (eP (eP eI eI) (eP eI eI)))]), (1, .d false [.sl none (a1.map (eP (eP eI eI) (eP eI eI)))])]) (by kernel_rfl) ?_
  unfold laws_eqPointS at h
  refine k_sreg (r_go [(0, .d false [.sl none (a0.map (eP (eP eI eI) (eP eI eI)))]), (1, .d false [.sl none (a1.map (eP (eP eI eI) (eP eI eI)))])] [] [] (by kernel_rfl) trivial) ?_
  refine k_seq ?_
  refine k_sreg (r_go [(0, .d false [.sl none (a0.map (eP (eP eI eI) (eP eI eI)))]), (1, .d false [.sl none (a1.map (eP (eP eI eI) (eP eI eI)))]), (10, .p (.bool ((a0.length : Int) != (a1.length : Int))))] [(1, {n := some a0.length}), (3, {n := some a1.length})] [(a0.map (eP (eP eI eI) (eP eI eI))).length = a0.length, (a1.map (eP (eP eI eI) (eP eI eI))).length = a1.length] (by kernel_rfl) ⟨(List.length_map ..), (List.length_map ..), trivial⟩) ?_
  refine k_cond (b := ((a0.length : Int) != (a1.length : Int))) (by kernel_rfl) (fun hc2_0 => ?_) (fun hc2_0 => ?_)
  · replace h := ite_t hc2_0 h
    refine k_sreg (r_go [(4, .p (.bool false))] [] [] (by kernel_rfl) trivial) ?_
    refine k_ret ?_
    refine q_r ?_
    obtain rfl := Option.some.inj h
    exact e_ret (ls := [(.p (.bool false), 4)]) (by kernel_rfl) rfl (by kernel_rfl) rfl
  · replace h := ite_f hc2_0 h
    refine k_skip ?_
    refine q_n ?_
    refine k_join (J := fun (x : Unit) => []) (K := fun x => laws_eqPointS_k1 x = some r) (fun x2 h => ?_) ?_
    · unfold laws_eqPointS_k1 at h
      refine k_sreg (r_go [(4, .p (.bool true))] [] [] (by kernel_rfl) trivial) ?_
      refine k_ret ?_
      obtain rfl := Option.some.inj h
      exact e_ret (ls := [(.p (.bool true), 4)]) (by kernel_rfl) rfl (by kernel_rfl) rfl
    · refine k_sreg (r_go [(0, .d false [.sl none (a0.map (eP (eP eI eI) (eP eI eI)))]), (1, .d false [.sl none (a1.map (eP (eP eI eI) (eP eI eI)))]), (5, .p (.int .i64 0))] [] [] (by kernel_rfl) trivial) ?_
      refine k_block ?_
      obtain ⟨y4, hl_x3, hk_x3⟩ := bind_some' h
      clear h
      refine k_loop (J := fun (x : Int) => [(0, .d false [.sl none (a0.map (eP (eP eI eI) (eP eI eI)))]), (1, .d false [.sl none (a1.map (eP (eP eI eI) (eP eI eI)))]), (5, .p (.int .i64 x))]) hl_x3 (wk_of (by kernel_rfl) (by kernel_rfl)) (fun x3 o_x3 h hy_x3 => ?_)
      unfold laws_eqPointS_b1 at h
      refine k_seq ?_
      refine k_sreg (r_go [(0, .d false [.sl none (a0.map (eP (eP eI eI) (eP eI eI)))]), (1, .d false [.sl none (a1.map (eP (eP eI eI) (eP eI eI)))]), (5, .p (.int .i64 x3)), (14, .p (.bool (decide (x3 < (a0.length : Int)))))] [(2, {n := some a0.length})] [(a0.map (eP (eP eI eI) (eP eI eI))).length = a0.length] (by kernel_rfl) ⟨(List.length_map ..), trivial⟩) ?_
      refine k_cond (b := (decide (x3 < (a0.length : Int)))) (by kernel_rfl) (fun hc5_4 => ?_) (fun hc5_4 => ?_)
      · replace h := ite_t hc5_4 h
        refine k_skip ?_
        refine q_n ?_
        refine k_seq ?_
        refine k_block ?_
        replace h := bind_some' h
        obtain ⟨v6, hv6, h⟩ := h
        replace h := bind_some' h
        obtain ⟨v7, hv7, h⟩ := h
        replace h := bind_some' h
        obtain ⟨v8, hv8, h⟩ := h
        refine k_sreg (r_draw Try_mixed 8 [] [(0, .d false [.sl none (a0.map (eP (eP eI eI) (eP eI eI)))]), (1, .d false [.sl none (a1.map (eP (eP eI eI) (eP eI eI)))]), (5, .p (.int .i64 x3)), (26, .p (.bool (!v8)))] [(2, {row := some [.raw (.int .i64 v6.1.1), .raw (.int .i64 v6.1.2), .raw (.int .i64 v6.2.1), .raw (.int .i64 v6.2.2)]}), (6, {row := some [.raw (.int .i64 v7.1.1), .raw (.int .i64 v7.1.2), .raw (.int .i64 v7.2.1), .raw (.int .i64 v7.2.2)]}), (8, {call := some ([.v (.agg #[.int .i64 v6.1.1, .int .i64 v6.1.2, .int .i64 v6.2.1, .int .i64 v6.2.2]), .v (.agg #[.int .i64 v7.1.1, .int .i64 v7.1.2, .int .i64 v7.2.1, .int .i64 v7.2.2])], [.p (.bool v8)], true)})] [0 ≤ x3, (a0.map (eP (eP eI eI) (eP eI eI)))[(Int.toNat x3)]? = some [.raw (.int .i64 v6.1.1), .raw (.int .i64 v6.1.2), .raw (.int .i64 v6.2.1), .raw (.int .i64 v6.2.2)], 0 ≤ x3, (a1.map (eP (eP eI eI) (eP eI eI)))[(Int.toNat x3)]? = some [.raw (.int .i64 v7.1.1), .raw (.int .i64 v7.1.2), .raw (.int .i64 v7.2.1), .raw (.int .i64 v7.2.2)], ([.v (.agg #[.int .i64 v6.1.1, .int .i64 v6.1.2, .int .i64 v6.2.1, .int .i64 v6.2.2]), .v (.agg #[.int .i64 v7.1.1, .int .i64 v7.1.2, .int .i64 v7.2.1, .int .i64 v7.2.2])] : List Arg) = [.v (.agg #[.int .i64 v6.1.1, .int .i64 v6.1.2, .int .i64 v6.2.1, .int .i64 v6.2.2]), .v (.agg #[.int .i64 v7.1.1, .int .i64 v7.1.2, .int .i64 v7.2.1, .int .i64 v7.2.2])], Meets Try.prog 87 ([.v (.agg #[.int .i64 v6.1.1, .int .i64 v6.1.2, .int .i64 v6.2.1, .int .i64 v6.2.2]), .v (.agg #[.int .i64 v7.1.1, .int .i64 v7.1.2, .int .i64 v7.2.1, .int .i64 v7.2.2])] ++ []) { vals := [.p (.bool v8)] }, List.all [.p (.bool v8)] simpleR = true] (by kernel_rfl) ⟨(idxO_some hv6).1, (map_get (eP (eP eI eI) (eP eI eI)) (idxO_some hv6).2), (idxO_some hv7).1, (map_get (eP (eP eI eI) (eP eI eI)) (idxO_some hv7).2), rfl, (wk_laws_eqPoint hv8), rfl, trivial⟩) ?_
        refine k_cond (b := (!v8)) (by kernel_rfl) (fun hc6_8 => ?_) (fun hc6_8 => ?_)
        · replace h := ite_t hc6_8 h
          refine k_sreg (r_go [(4, .p (.bool false))] [] [] (by kernel_rfl) trivial) ?_
          refine k_ret ?_
          refine b_r ?_
          refine q_r ?_
          refine lq_r ?_
          refine b_r ?_
          refine q_r ?_
          have hyy := hy_x3 _ (Option.some.inj h).symm
          subst hyy
          have h := hk_x3
          dsimp only [Sum.elim] at h
          obtain rfl := Option.some.inj h
          exact e_ret (ls := [(.p (.bool false), 4)]) (by kernel_rfl) rfl (by kernel_rfl) rfl
        · replace h := ite_f hc6_8 h
          refine k_skip ?_
          refine b_n ?_
          refine q_n ?_
          refine k_reg (r_go [(0, .d false [.sl none (a0.map (eP (eP eI eI) (eP eI eI)))]), (1, .d false [.sl none (a1.map (eP (eP eI eI) (eP eI eI)))]), (5, .p (.int .i64 (w64 (x3 + 1))))] [] [] (by kernel_rfl) trivial) ?_
          exact lq_n (w64 (x3 + 1)) (Option.some.inj h).symm (wk_of (by kernel_rfl) (by kernel_rfl))
      · replace h := ite_f hc5_4 h
        refine k_exit ?_
        refine q_x ?_
        refine lq_x ?_
        refine b_x ?_
        have hyy := hy_x3 _ (Option.some.inj h).symm
        subst hyy
        have h := hk_x3
        dsimp only [Sum.elim] at h
        refine q_n ?_
        exact ⟨(), h, (wk_of (by kernel_rfl) (by kernel_rfl))⟩
theorem wk_laws_eqLift {a0 : (List ((Int × Int) × (Int × Int)))} {a1 : (List ((Int × Int) × (Int × Int)))}  {r : Bool} (h : laws_eqLift a0 a1 = some r) : Meets Try.prog 17 [.d true [.sl none (a0.map (eP (eP eI eI) (eP eI eI)))], .d true [.sl none (a1.map (eP (eP eI eI) (eP eI eI)))]] { vals := [.p (.bool r)] } := by
  refine Meets_ofL (by kernel_rfl) Try.func17 rfl (by kernel_rfl) (l0 := [(0, .d true [.sl none (a0.map (eP (eP eI eI) (eP eI eI)))]), (1, .d true [.sl none (a1.map (eP (eP eI eI) (eP eI eI)))])]) (by kernel_rfl) ?_
  unfold laws_eqLift at h
  refine k_sreg (r_go [(2, .box [.sl none (a0.map (eP (eP eI eI) (eP eI eI)))]), (3, .box [.sl none (a1.map (eP (eP eI eI) (eP eI eI)))])] [] [] (by kernel_rfl) trivial) ?_
  refine k_seq ?_
  replace h := bind_some' h
  obtain ⟨v1, hv1, h⟩ := h
  refine k_sreg (r_go [(10, .p (.bool (!v1)))] [(1, {b := some true}), (3, {b := some true}), (4, {call := some ([.d false [.sl none (a0.map (eP (eP eI eI) (eP eI eI)))], .d false [.sl none (a1.map (eP (eP eI eI) (eP eI eI)))]], [.p (.bool v1)], true)})] [frR [.sl none (a0.map (eP (eP eI eI) (eP eI eI)))] = true, frR [.sl none (a1.map (eP (eP eI eI) (eP eI eI)))] = true, ([.d false [.sl none (a0.map (eP (eP eI eI) (eP eI eI)))], .d false [.sl none (a1.map (eP (eP eI eI) (eP eI eI)))]] : List Arg) = [.d false [.sl none (a0.map (eP (eP eI eI) (eP eI eI)))], .d false [.sl none (a1.map (eP (eP eI eI) (eP eI eI)))]], Meets Try.prog 44 ([.d false [.sl none (a0.map (eP (eP eI eI) (eP eI eI)))], .d false [.sl none (a1.map (eP (eP eI eI) (eP eI eI)))]] ++ []) { vals := [.p (.bool v1)] }, List.all [.p (.bool v1)] simpleR = true] (by kernel_rfl) ⟨(frR1 (frL_enc (fr_P (fr_P fr_I fr_I) (fr_P fr_I fr_I))) rfl), (frR1 (frL_enc (fr_P (fr_P fr_I fr_I) (fr_P fr_I fr_I))) rfl), rfl, (wk_laws_eqPointS hv1), rfl, trivial⟩) ?_
  refine k_cond (b := (!v1)) (by kernel_rfl) (fun hc2_1 => ?_) (fun hc2_1 => ?_)
  · replace h := ite_t hc2_1 h
    refine k_sreg (r_go [(4, .p (.bool false))] [] [] (by kernel_rfl) trivial) ?_
    refine k_ret ?_
    refine q_r ?_
    obtain rfl := Option.some.inj h
    exact e_ret (ls := [(.p (.bool false), 4)]) (by kernel_rfl) rfl (by kernel_rfl) rfl
  · replace h := ite_f hc2_1 h
    refine k_skip ?_
    refine q_n ?_
    refine k_sreg (r_go [(4, .p (.bool true))] [] [] (by kernel_rfl) trivial) ?_
    refine k_ret ?_
    obtain rfl := Option.some.inj h
    exact e_ret (ls := [(.p (.bool true), 4)]) (by kernel_rfl) rfl (by kernel_rfl) rfl
theorem wk_laws_FnExactLiftBefore {a0 : (List ((Int × Int) × (Int × Int)))} {a1 : (Int × Int)}  {r : Bool} (h : laws_FnExactLiftBefore a0 a1 = some r) : Meets Try.prog 4 [.d true [.sl none (a0.map (eP (eP eI eI) (eP eI eI)))], .v (.agg #[.int .i64 a1.1, .int .i64 a1.2])] { vals := [.p (.bool r)] } := by
  refine Meets_ofL (by kernel_rfl) Try.func4 rfl (by kernel_rfl) (l0 := [(0, .d true [.sl none (a0.map (eP (eP eI eI) (eP eI eI)))]), (1, .p (.agg #[.int .i64 a1.1, .int .i64 a1.2]))]) (by kernel_rfl) ?_
  unfold laws_FnExactLiftBefore at h
  refine k_sreg (r_go [(2, .box [.sl none (a0.map (eP (eP eI eI) (eP eI eI)))]), (3, .box [.raw (.int .i64 a1.1), .raw (.int .i64 a1.2)])] [] [] (by kernel_rfl) trivial) ?_
  refine k_sreg (r_go [(2, .box [.sl none (a0.map (eP (eP eI eI) (eP eI eI)))]), (3, .box [.raw (.int .i64 a1.1), .raw (.int .i64 a1.2)]), (5, .p (.int .i64 1048576))] [] [] (by kernel_rfl) trivial) ?_
  replace h := bind_some' h
  obtain ⟨v1, hv1, h⟩ := h
  refine k_sreg (r_go [(2, .box [.sl none (a0.map (eP (eP eI eI) (eP eI eI)))]), (3, .box [.raw (.int .i64 a1.1), .raw (.int .i64 a1.2)]), (5, .p (.int .i64 v1))] [(0, {b := some true}), (2, {call := some ([.d true [.sl none (a0.map (eP (eP eI eI) (eP eI eI)))], .v (.int .i64 1048576)], [.p (.int .i64 v1)], true)})] [frR [.sl none (a0.map (eP (eP eI eI) (eP eI eI)))] = true, ([.d true [.sl none (a0.map (eP (eP eI eI) (eP eI eI)))], .v (.int .i64 1048576)] : List Arg) = [.d true [.sl none (a0.map (eP (eP eI eI) (eP eI eI)))], .v (.int .i64 1048576)], Meets Try.prog 11 ([.d true [.sl none (a0.map (eP (eP eI eI) (eP eI eI)))], .v (.int .i64 1048576)] ++ []) { vals := [.p (.int .i64 v1)] }, List.all [.p (.int .i64 v1)] simpleR = true] (by kernel_rfl) ⟨(frR1 (frL_enc (fr_P (fr_P fr_I fr_I) (fr_P fr_I fr_I))) rfl), rfl, (wk_laws_szLift hv1), rfl, trivial⟩) ?_
  refine k_seq ?_
  refine k_sreg (r_go [(2, .box [.sl none (a0.map (eP (eP eI eI) (eP eI eI)))]), (3, .box [.raw (.int .i64 a1.1), .raw (.int .i64 a1.2)]), (15, .p (.bool (decide (v1 < 0))))] [] [] (by kernel_rfl) trivial) ?_
  refine k_cond (b := (decide (v1 < 0))) (by kernel_rfl) (fun hc2_1 => ?_) (fun hc2_1 => ?_)
  · replace h := ite_t hc2_1 h
    refine k_sreg (r_go [(4, .p (.bool true))] [] [] (by kernel_rfl) trivial) ?_
    refine k_ret ?_
    refine q_r ?_
    obtain rfl := Option.some.inj h
    exact e_ret (ls := [(.p (.bool true), 4)]) (by kernel_rfl) rfl (by kernel_rfl) rfl
  · replace h := ite_f hc2_1 h
    refine k_skip ?_
    refine q_n ?_
    replace h := bind_some' h
    obtain ⟨v3, hv3, h⟩ := h
    replace h := bind_some' h
    obtain ⟨v4, hv4, h⟩ := h
    replace h := bind_some' h
    obtain ⟨v5, hv5, h⟩ := h
    refine k_sreg (r_draw Try_mixed 10 [(9, 6)] [(2, .box [.sl none (a0.map (eP (eP eI eI) (eP eI eI)))]), (3, .box [.raw (.int .i64 a1.1), .raw (.int .i64 a1.2)]), (6, .box [.raw (.int .i64 v5.1.1), .raw (.int .i64 v5.1.2)]), (7, .p (.bool v5.2))] [(0, {b := some true}), (1, {call := some ([.d true [.sl none (a0.map (eP (eP eI eI) (eP eI eI)))]], [.ov true [.sl (some 66) (v3.map (eP (eP eI eI) (eP eI eI)))]], true)}), (3, {call := some ([.v (.agg #[.int .i64 a1.1, .int .i64 a1.2])], [.p (.agg #[.int .i64 v4.1, .int .i64 v4.2])], true)}), (4, {call := some ([.d true [.sl none (v3.map (eP (eP eI eI) (eP eI eI)))], .v (.agg #[.int .i64 v4.1, .int .i64 v4.2])], [.p (.agg #[.int .i64 v5.1.1, .int .i64 v5.1.2]), .p (.bool v5.2)], true)})] [frR [.sl none (a0.map (eP (eP eI eI) (eP eI eI)))] = true, ([.d true [.sl none (a0.map (eP (eP eI eI) (eP eI eI)))]] : List Arg) = [.d true [.sl none (a0.map (eP (eP eI eI) (eP eI eI)))]], Meets Try.prog 13 ([.d true [.sl none (a0.map (eP (eP eI eI) (eP eI eI)))]] ++ []) { vals := [.ov true [.sl (some 66) (v3.map (eP (eP eI eI) (eP eI eI)))]] }, List.all [.ov true [.sl (some 66) (v3.map (eP (eP eI eI) (eP eI eI)))]] simpleR = true, ([.v (.agg #[.int .i64 a1.1, .int .i64 a1.2])] : List Arg) = [.v (.agg #[.int .i64 a1.1, .int .i64 a1.2])], Meets Try.prog 14 ([.v (.agg #[.int .i64 a1.1, .int .i64 a1.2])] ++ []) { vals := [.p (.agg #[.int .i64 v4.1, .int .i64 v4.2])] }, List.all [.p (.agg #[.int .i64 v4.1, .int .i64 v4.2])] simpleR = true, ([.d true [.sl none (eraL (v3.map (eP (eP eI eI) (eP eI eI))))], .v (.agg #[.int .i64 v4.1, .int .i64 v4.2])] : List Arg) = [.d true [.sl none (v3.map (eP (eP eI eI) (eP eI eI)))], .v (.agg #[.int .i64 v4.1, .int .i64 v4.2])], Meets Try.prog 18 ([.d true [.sl none (v3.map (eP (eP eI eI) (eP eI eI)))], .v (.agg #[.int .i64 v4.1, .int .i64 v4.2])] ++ []) { vals := [.p (.agg #[.int .i64 v5.1.1, .int .i64 v5.1.2]), .p (.bool v5.2)] }, List.all [.p (.agg #[.int .i64 v5.1.1, .int .i64 v5.1.2]), .p (.bool v5.2)] simpleR = true] (by kernel_rfl) ⟨(frR1 (frL_enc (fr_P (fr_P fr_I fr_I) (fr_P fr_I fr_I))) rfl), rfl, (wk_laws_toLift hv3), (sa_o (wnR1 (wnL_enc (wn_P (wn_P wn_I wn_I) (wn_P wn_I wn_I))) rfl) rfl), rfl, (wk_laws_toRat hv4), rfl, (by simp only [eraL_enc (h := (eP (eP eI eI) (eP eI eI))) (era_P (era_P er_I er_I) (era_P er_I er_I))]), (wk_spec_LiftBefore hv5), rfl, trivial⟩) ?_
    replace h := bind_some' h
    obtain ⟨v6, hv6, h⟩ := h
    refine k_sreg (r_go [(2, .box [.sl none (a0.map (eP (eP eI eI) (eP eI eI)))]), (3, .box [.raw (.int .i64 a1.1), .raw (.int .i64 a1.2)]), (6, .box [.raw (.int .i64 v5.1.1), .raw (.int .i64 v5.1.2)]), (7, .p (.bool v5.2)), (8, .box [.sl (some 66) (v6.map (eP (eP eI eI) (eP eI eI)))])] [(0, {b := some true}), (1, {call := some ([.d true [.sl none (a0.map (eP (eP eI eI) (eP eI eI)))]], [.ov true [.sl (some 66) (v6.map (eP (eP eI eI) (eP eI eI)))]], true)})] [frR [.sl none (a0.map (eP (eP eI eI) (eP eI eI)))] = true, ([.d true [.sl none (a0.map (eP (eP eI eI) (eP eI eI)))]] : List Arg) = [.d true [.sl none (a0.map (eP (eP eI eI) (eP eI eI)))]], Meets Try.prog 13 ([.d true [.sl none (a0.map (eP (eP eI eI) (eP eI eI)))]] ++ []) { vals := [.ov true [.sl (some 66) (v6.map (eP (eP eI eI) (eP eI eI)))]] }, List.all [.ov true [.sl (some 66) (v6.map (eP (eP eI eI) (eP eI eI)))]] simpleR = true] (by kernel_rfl) ⟨(frR1 (frL_enc (fr_P (fr_P fr_I fr_I) (fr_P fr_I fr_I))) rfl), rfl, (wk_laws_toLift hv6), (sa_o (wnR1 (wnL_enc (wn_P (wn_P wn_I wn_I) (wn_P wn_I wn_I))) rfl) rfl), trivial⟩) ?_
    replace h := bind_some' h
    obtain ⟨v7, hv7, h⟩ := h
    replace h := bind_some' h
    obtain ⟨v8, hv8, h⟩ := h
    refine k_sreg (r_draw Try_mixed 9 [(8, 9)] [(2, .box [.sl none (a0.map (eP (eP eI eI) (eP eI eI)))]), (6, .box [.raw (.int .i64 v5.1.1), .raw (.int .i64 v5.1.2)]), (7, .p (.bool v5.2)), (8, .box [.sl (some 66) (v6.map (eP (eP eI eI) (eP eI eI)))]), (9, .box [.raw (.int .i64 v8.1.1), .raw (.int .i64 v8.1.2)]), (10, .p (.bool v8.2))] [(2, {call := some ([.v (.agg #[.int .i64 a1.1, .int .i64 a1.2])], [.p (.agg #[.int .i64 v7.1, .int .i64 v7.2])], true)}), (3, {call := some ([.d true [.sl none (v6.map (eP (eP eI eI) (eP eI eI)))], .v (.agg #[.int .i64 v7.1, .int .i64 v7.2])], [.p (.agg #[.int .i64 v8.1.1, .int .i64 v8.1.2]), .p (.bool v8.2)], true)})] [frR [.sl (some 66) (v6.map (eP (eP eI eI) (eP eI eI)))] = false, ([.v (.agg #[.int .i64 a1.1, .int .i64 a1.2])] : List Arg) = [.v (.agg #[.int .i64 a1.1, .int .i64 a1.2])], Meets Try.prog 14 ([.v (.agg #[.int .i64 a1.1, .int .i64 a1.2])] ++ []) { vals := [.p (.agg #[.int .i64 v7.1, .int .i64 v7.2])] }, List.all [.p (.agg #[.int .i64 v7.1, .int .i64 v7.2])] simpleR = true, ([.d true [.sl none (eraL (v6.map (eP (eP eI eI) (eP eI eI))))], .v (.agg #[.int .i64 v7.1, .int .i64 v7.2])] : List Arg) = [.d true [.sl none (v6.map (eP (eP eI eI) (eP eI eI)))], .v (.agg #[.int .i64 v7.1, .int .i64 v7.2])], Meets Try.prog 19 ([.d true [.sl none (v6.map (eP (eP eI eI) (eP eI eI)))], .v (.agg #[.int .i64 v7.1, .int .i64 v7.2])] ++ []) { vals := [.p (.agg #[.int .i64 v8.1.1, .int .i64 v8.1.2]), .p (.bool v8.2)] }, List.all [.p (.agg #[.int .i64 v8.1.1, .int .i64 v8.1.2]), .p (.bool v8.2)] simpleR = true] (by kernel_rfl) ⟨rfl, rfl, (wk_laws_toRat hv7), rfl, (by simp only [eraL_enc (h := (eP (eP eI eI) (eP eI eI))) (era_P (era_P er_I er_I) (era_P er_I er_I))]), (wk_impl_LiftBefore hv8), rfl, trivial⟩) ?_
    refine k_seq ?_
    replace h := bind_some' h
    obtain ⟨v9, hv9, h⟩ := h
    refine k_sreg (l1 := [(2, .box [.sl none (a0.map (eP (eP eI eI) (eP eI eI)))]), (8, .box [.sl (some 66) (v6.map (eP (eP eI eI) (eP eI eI)))]), (41, .p (.bool ((!v9) || (!(v8.2 == v5.2)))))]) ?_ ?_
    · rcases Bool.eq_false_or_eq_true (!v9) with ha1 | ha1
      · exact RegOk.of_eq (l2 := [(2, .box [.sl none (a0.map (eP (eP eI eI) (eP eI eI)))]), (8, .box [.sl (some 66) (v6.map (eP (eP eI eI) (eP eI eI)))]), (41, .p (.bool ((!v9) || (!(v8.2 == v5.2)))))]) (r_go [(2, .box [.sl none (a0.map (eP (eP eI eI) (eP eI eI)))]), (8, .box [.sl (some 66) (v6.map (eP (eP eI eI) (eP eI eI)))]), (41, .p (.bool true))] [(2, {call := some ([.v (.agg #[.int .i64 v8.1.1, .int .i64 v8.1.2]), .v (.agg #[.int .i64 v5.1.1, .int .i64 v5.1.2])], [.p (.bool v9)], true)}), (5, {g := some true}), (6, {g := some true}), (7, {g := some true}), (8, {b := some true})] [([.v (.agg #[.int .i64 v8.1.1, .int .i64 v8.1.2]), .v (.agg #[.int .i64 v5.1.1, .int .i64 v5.1.2])] : List Arg) = [.v (.agg #[.int .i64 v8.1.1, .int .i64 v8.1.2]), .v (.agg #[.int .i64 v5.1.1, .int .i64 v5.1.2])], Meets Try.prog 16 ([.v (.agg #[.int .i64 v8.1.1, .int .i64 v8.1.2]), .v (.agg #[.int .i64 v5.1.1, .int .i64 v5.1.2])] ++ []) { vals := [.p (.bool v9)] }, List.all [.p (.bool v9)] simpleR = true, (!v9) = true, (!v9) = true, (!v9) = true, (!v9) = true] (by kernel_rfl) ⟨rfl, (wk_laws_eqRat hv9), rfl, ha1, ha1, ha1, ha1, trivial⟩) (by simp [ha1])
      · exact RegOk.of_eq (l2 := [(2, .box [.sl none (a0.map (eP (eP eI eI) (eP eI eI)))]), (8, .box [.sl (some 66) (v6.map (eP (eP eI eI) (eP eI eI)))]), (41, .p (.bool ((!v9) || (!(v8.2 == v5.2)))))]) (r_go [(2, .box [.sl none (a0.map (eP (eP eI eI) (eP eI eI)))]), (8, .box [.sl (some 66) (v6.map (eP (eP eI eI) (eP eI eI)))]), (41, .p (.bool (!(v8.2 == v5.2))))] [(2, {call := some ([.v (.agg #[.int .i64 v8.1.1, .int .i64 v8.1.2]), .v (.agg #[.int .i64 v5.1.1, .int .i64 v5.1.2])], [.p (.bool v9)], true)}), (5, {g := some false}), (6, {g := some false}), (7, {g := some false}), (8, {b := some false})] [([.v (.agg #[.int .i64 v8.1.1, .int .i64 v8.1.2]), .v (.agg #[.int .i64 v5.1.1, .int .i64 v5.1.2])] : List Arg) = [.v (.agg #[.int .i64 v8.1.1, .int .i64 v8.1.2]), .v (.agg #[.int .i64 v5.1.1, .int .i64 v5.1.2])], Meets Try.prog 16 ([.v (.agg #[.int .i64 v8.1.1, .int .i64 v8.1.2]), .v (.agg #[.int .i64 v5.1.1, .int .i64 v5.1.2])] ++ []) { vals := [.p (.bool v9)] }, List.all [.p (.bool v9)] simpleR = true, (!v9) = false, (!v9) = false, (!v9) = false, (!v9) = false] (by kernel_rfl) ⟨rfl, (wk_laws_eqRat hv9), rfl, ha1, ha1, ha1, ha1, trivial⟩) (by simp [ha1])
    · refine k_cond (b := ((!v9) || (!(v8.2 == v5.2)))) (by kernel_rfl) (fun hc2_9 => ?_) (fun hc2_9 => ?_)
      · replace h := ite_t hc2_9 h
        refine k_sreg (r_go [(4, .p (.bool false))] [] [] (by kernel_rfl) trivial) ?_
        refine k_ret ?_
        refine q_r ?_
        obtain rfl := Option.some.inj h
        exact e_ret (ls := [(.p (.bool false), 4)]) (by kernel_rfl) rfl (by kernel_rfl) rfl
      · replace h := ite_f hc2_9 h
        refine k_skip ?_
        refine q_n ?_
        refine k_seq ?_
        replace h := bind_some' h
        obtain ⟨v11, hv11, h⟩ := h
        replace h := bind_some' h
        obtain ⟨v12, hv12, h⟩ := h
        refine k_sreg (r_draw Try_mixed 3 [] [(46, .p (.bool (!v12)))] [(1, {b := some true}), (2, {call := some ([.d true [.sl none (a0.map (eP (eP eI eI) (eP eI eI)))]], [.ov true [.sl (some 66) (v11.map (eP (eP eI eI) (eP eI eI)))]], true)}), (3, {call := some ([.d true [.sl none (v6.map (eP (eP eI eI) (eP eI eI)))], .d true [.sl none (v11.map (eP (eP eI eI) (eP eI eI)))]], [.p (.bool v12)], true)})] [frR [.sl (some 66) (v6.map (eP (eP eI eI) (eP eI eI)))] = false, frR [.sl none (a0.map (eP (eP eI eI) (eP eI eI)))] = true, ([.d true [.sl none (a0.map (eP (eP eI eI) (eP eI eI)))]] : List Arg) = [.d true [.sl none (a0.map (eP (eP eI eI) (eP eI eI)))]], Meets Try.prog 13 ([.d true [.sl none (a0.map (eP (eP eI eI) (eP eI eI)))]] ++ []) { vals := [.ov true [.sl (some 66) (v11.map (eP (eP eI eI) (eP eI eI)))]] }, List.all [.ov true [.sl (some 66) (v11.map (eP (eP eI eI) (eP eI eI)))]] simpleR = true, ([.d true [.sl none (eraL (v6.map (eP (eP eI eI) (eP eI eI))))], .d true [.sl none (eraL (v11.map (eP (eP eI eI) (eP eI eI))))]] : List Arg) = [.d true [.sl none (v6.map (eP (eP eI eI) (eP eI eI)))], .d true [.sl none (v11.map (eP (eP eI eI) (eP eI eI)))]], Meets Try.prog 17 ([.d true [.sl none (v6.map (eP (eP eI eI) (eP eI eI)))], .d true [.sl none (v11.map (eP (eP eI eI) (eP eI eI)))]] ++ []) { vals := [.p (.bool v12)] }, List.all [.p (.bool v12)] simpleR = true] (by kernel_rfl) ⟨rfl, (frR1 (frL_enc (fr_P (fr_P fr_I fr_I) (fr_P fr_I fr_I))) rfl), rfl, (wk_laws_toLift hv11), (sa_o (wnR1 (wnL_enc (wn_P (wn_P wn_I wn_I) (wn_P wn_I wn_I))) rfl) rfl), (by simp only [eraL_enc (h := (eP (eP eI eI) (eP eI eI))) (era_P (era_P er_I er_I) (era_P er_I er_I)), eraL_enc (h := (eP (eP eI eI) (eP eI eI))) (era_P (era_P er_I er_I) (era_P er_I er_I))]), (wk_laws_eqLift hv12), rfl, trivial⟩) ?_
        refine k_cond (b := (!v12)) (by kernel_rfl) (fun hc2_12 => ?_) (fun hc2_12 => ?_)
        · replace h := ite_t hc2_12 h
          refine k_sreg (r_go [(4, .p (.bool false))] [] [] (by kernel_rfl) trivial) ?_
          refine k_ret ?_
          refine q_r ?_
          obtain rfl := Option.some.inj h
          exact e_ret (ls := [(.p (.bool false), 4)]) (by kernel_rfl) rfl (by kernel_rfl) rfl
        · replace h := ite_f hc2_12 h
          refine k_skip ?_
          refine q_n ?_
          refine k_sreg (r_go [(4, .p (.bool true))] [] [] (by kernel_rfl) trivial) ?_
          refine k_ret ?_
          obtain rfl := Option.some.inj h
          exact e_ret (ls := [(.p (.bool true), 4)]) (by kernel_rfl) rfl (by kernel_rfl) rfl
end Go.PV

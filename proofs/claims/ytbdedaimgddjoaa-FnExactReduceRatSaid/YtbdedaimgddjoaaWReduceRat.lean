/-
  Walks through the functions that the law reaches: each answers as its plain definition does.
  Conditions: none.
-/
import Derived.Test.YtbdedaimgddjoaaDf
import Derived.Test.YtbdedaimgddjoaaProg
import Derived.KernelRfl
open Go Go.PV Go.Proofs
set_option linter.all false
namespace Go.PV
attribute [local irreducible] pvC pvL pvD sOp seqQ blockQ Meets Ok OkL RegOk agree endQ seqL blockL loopQ endL
theorem Try_mixed : Try.prog.follows .mixedOrders = true := by kernel_rfl
theorem wk_laws_toRat {a0 : (Int × Int)}  {r : (Int × Int)} (h : laws_toRat a0 = some r) : Meets Try.prog 20 [.v (.agg #[.int .i64 a0.1, .int .i64 a0.2])] { vals := [.p (.agg #[.int .i64 r.1, .int .i64 r.2])] } := by
  refine Meets_ofL (by kernel_rfl) Try.func20 rfl (by kernel_rfl) (l0 := [(0, .p (.agg #[.int .i64 a0.1, .int .i64 a0.2]))]) (by kernel_rfl) ?_
  unfold laws_toRat at h
  refine k_sreg (r_go [(1, .box [.raw (.int .i64 a0.1), .raw (.int .i64 a0.2)]), (2, .box [.raw (.int .i64 0), .raw (.int .i64 0)])] [] [] (by kernel_rfl) trivial) ?_
  refine k_sreg (r_go [(1, .box [.raw (.int .i64 a0.1), .raw (.int .i64 a0.2)]), (2, .box [.raw (.int .i64 0), .raw (.int .i64 0)]), (3, .box [.raw (.int .i64 0), .raw (.int .i64 0)])] [] [] (by kernel_rfl) trivial) ?_
  refine k_sreg (r_go [(1, .box [.raw (.int .i64 a0.1), .raw (.int .i64 a0.2)]), (2, .box [.raw (.int .i64 0), .raw (.int .i64 0)]), (3, .box [.raw (.int .i64 a0.1), .raw (.int .i64 0)])] [] [] (by kernel_rfl) trivial) ?_
  refine k_sreg (r_go [(2, .box [.raw (.int .i64 0), .raw (.int .i64 0)]), (3, .box [.raw (.int .i64 a0.1), .raw (.int .i64 a0.2)])] [] [] (by kernel_rfl) trivial) ?_
  refine k_sreg (r_go [(2, .box [.raw (.int .i64 a0.1), .raw (.int .i64 a0.2)])] [] [] (by kernel_rfl) trivial) ?_
  refine k_ret ?_
  obtain rfl := Option.some.inj h
  exact e_ret (ls := [(.p (.agg #[.int .i64 a0.1, .int .i64 a0.2]), 2)]) (by kernel_rfl) rfl (by kernel_rfl) rfl
theorem wk_spec_l1In {a0 : Int} {a1 : Int} {a2 : Int}  {r : Bool} (h : spec_l1In a0 a1 a2 = some r) : Meets Try.prog 86 [.v (.int .i64 a0), .v (.int .i64 a1), .v (.int .i64 a2)] { vals := [.p (.bool r)] } := by
  refine Meets_ofL (by kernel_rfl) Try.func86 rfl (by kernel_rfl) (l0 := [(0, .p (.int .i64 a0)), (1, .p (.int .i64 a1)), (2, .p (.int .i64 a2))]) (by kernel_rfl) ?_
  unfold spec_l1In at h
  refine k_sreg (r_go [(0, .p (.int .i64 a0)), (1, .p (.int .i64 a1)), (2, .p (.int .i64 a2))] [] [] (by kernel_rfl) trivial) ?_
  refine k_sreg (l1 := [(6, .p (.bool ((decide (a0 ≥ a1)) && (decide (a0 ≤ a2)))))]) ?_ ?_
  · rcases Bool.eq_false_or_eq_true (decide (a0 ≥ a1)) with ha0 | ha0
    · exact RegOk.of_eq (l2 := [(6, .p (.bool ((decide (a0 ≥ a1)) && (decide (a0 ≤ a2)))))]) (r_go [(6, .p (.bool (decide (a0 ≤ a2))))] [(4, {g := some true}), (5, {g := some true}), (6, {g := some true}), (7, {b := some true})] [(decide (a0 ≥ a1)) = true, (decide (a0 ≥ a1)) = true, (decide (a0 ≥ a1)) = true, (decide (a0 ≥ a1)) = true] (by kernel_rfl) ⟨ha0, ha0, ha0, ha0, trivial⟩) (by simp [ha0])
    · exact RegOk.of_eq (l2 := [(6, .p (.bool ((decide (a0 ≥ a1)) && (decide (a0 ≤ a2)))))]) (r_go [(6, .p (.bool false))] [(4, {g := some false}), (5, {g := some false}), (6, {g := some false}), (7, {b := some false})] [(decide (a0 ≥ a1)) = false, (decide (a0 ≥ a1)) = false, (decide (a0 ≥ a1)) = false, (decide (a0 ≥ a1)) = false] (by kernel_rfl) ⟨ha0, ha0, ha0, ha0, trivial⟩) (by simp [ha0])
  · refine k_ret ?_
    obtain rfl := Option.some.inj h
    exact e_ret (ls := [(.p (.bool ((decide (a0 ≥ a1)) && (decide (a0 ≤ a2)))), 6)]) (by kernel_rfl) rfl (by kernel_rfl) rfl
theorem wk_spec_l1Most {a0 : Int} {a1 : Int}  {r : Int} (h : spec_l1Most a0 a1 = some r) : Meets Try.prog 134 [.v (.int .i64 a0), .v (.int .i64 a1)] { vals := [.p (.int .i64 r)] } := by
  refine Meets_ofL (by kernel_rfl) Try.func134 rfl (by kernel_rfl) (l0 := [(0, .p (.int .i64 a0)), (1, .p (.int .i64 a1))]) (by kernel_rfl) ?_
  unfold spec_l1Most at h
  refine k_sreg (r_go [(0, .p (.int .i64 a0)), (1, .p (.int .i64 a1))] [] [] (by kernel_rfl) trivial) ?_
  refine k_seq ?_
  refine k_sreg (r_go [(0, .p (.int .i64 a0)), (1, .p (.int .i64 a1)), (7, .p (.bool (decide (a0 > a1))))] [] [] (by kernel_rfl) trivial) ?_
  refine k_cond (b := (decide (a0 > a1))) (by kernel_rfl) (fun hc2_0 => ?_) (fun hc2_0 => ?_)
  · replace h := ite_t hc2_0 h
    refine k_sreg (r_go [(4, .p (.int .i64 a0))] [] [] (by kernel_rfl) trivial) ?_
    refine k_ret ?_
    refine q_r ?_
    obtain rfl := Option.some.inj h
    exact e_ret (ls := [(.p (.int .i64 a0), 4)]) (by kernel_rfl) rfl (by kernel_rfl) rfl
  · replace h := ite_f hc2_0 h
    refine k_skip ?_
    refine q_n ?_
    refine k_sreg (r_go [(4, .p (.int .i64 a1))] [] [] (by kernel_rfl) trivial) ?_
    refine k_ret ?_
    obtain rfl := Option.some.inj h
    exact e_ret (ls := [(.p (.int .i64 a1), 4)]) (by kernel_rfl) rfl (by kernel_rfl) rfl
theorem wk_spec_l1Abs {a0 : Int}  {r : Int} (h : spec_l1Abs a0 = some r) : Meets Try.prog 123 [.v (.int .i64 a0)] { vals := [.p (.int .i64 r)] } := by
  refine Meets_ofL (by kernel_rfl) Try.func123 rfl (by kernel_rfl) (l0 := [(0, .p (.int .i64 a0))]) (by kernel_rfl) ?_
  unfold spec_l1Abs at h
  refine k_sreg (r_go [(0, .p (.int .i64 a0))] [] [] (by kernel_rfl) trivial) ?_
  replace h := bind_some' h
  obtain ⟨v1, hv1, h⟩ := h
  refine k_sreg (r_go [(2, .p (.int .i64 v1))] [(3, {call := some ([.v (.int .i64 a0), .v (.int .i64 (w64 (0 - a0)))], [.p (.int .i64 v1)], true)})] [([.v (.int .i64 a0), .v (.int .i64 (w64 (0 - a0)))] : List Arg) = [.v (.int .i64 a0), .v (.int .i64 (w64 (0 - a0)))], Meets Try.prog 134 ([.v (.int .i64 a0), .v (.int .i64 (w64 (0 - a0)))] ++ []) { vals := [.p (.int .i64 v1)] }, List.all [.p (.int .i64 v1)] simpleR = true] (by kernel_rfl) ⟨rfl, (wk_spec_l1Most hv1), rfl, trivial⟩) ?_
  refine k_ret ?_
  obtain rfl := Option.some.inj h
  exact e_ret (ls := [(.p (.int .i64 v1), 2)]) (by kernel_rfl) rfl (by kernel_rfl) rfl
theorem wk_spec_raCommon {a0 : Int} {a1 : Int}  {r : Int} (h : spec_raCommon a0 a1 = some r) : Meets Try.prog 122 [.v (.int .i64 a0), .v (.int .i64 a1)] { vals := [.p (.int .i64 r)] } := by
  refine Meets_ofL (by kernel_rfl) Try.func122 rfl (by kernel_rfl) (l0 := [(0, .p (.int .i64 a0)), (1, .p (.int .i64 a1))]) (by kernel_rfl) ?_
  unfold spec_raCommon at h
  refine k_sreg (r_go [(0, .p (.int .i64 a0)), (1, .p (.int .i64 a1))] [] [] (by kernel_rfl) trivial) ?_
  refine k_join (J := fun (x : Int) => [(0, .p (.int .i64 x))]) (K := fun x => spec_raCommon_k1 x = some r) (fun x1 h => ?_) ?_
  · unfold spec_raCommon_k1 at h
    refine k_sreg (r_go [(4, .p (.int .i64 x1))] [] [] (by kernel_rfl) trivial) ?_
    refine k_ret ?_
    obtain rfl := Option.some.inj h
    exact e_ret (ls := [(.p (.int .i64 x1), 4)]) (by kernel_rfl) rfl (by kernel_rfl) rfl
  · refine k_block ?_
    obtain ⟨y3, hl_x2, hk_x2⟩ := bind_some' h
    clear h
    refine k_loop (J := fun (x : (Int × Int)) => [(0, .p (.int .i64 x.1)), (1, .p (.int .i64 x.2))]) hl_x2 (wk_of (by kernel_rfl) (by kernel_rfl)) (fun x2 o_x2 h hy_x2 => ?_)
    unfold spec_raCommon_b1 at h
    refine k_seq ?_
    refine k_sreg (r_go [(0, .p (.int .i64 x2.1)), (1, .p (.int .i64 x2.2)), (7, .p (.bool (decide (x2.2 > 0))))] [] [] (by kernel_rfl) trivial) ?_
    refine k_cond (b := (decide (x2.2 > 0))) (by kernel_rfl) (fun hc5_3 => ?_) (fun hc5_3 => ?_)
    · replace h := ite_t hc5_3 h
      refine k_skip ?_
      refine q_n ?_
      refine k_block ?_
      replace h := bind_some' h
      obtain ⟨u5, hu5, h⟩ := h
      refine k_sreg (r_go [(1, .p (.int .i64 x2.2)), (5, .p (.int .i64 (Int.tmod x2.1 x2.2)))] [] [x2.2 ≠ (0 : Int)] (by kernel_rfl) ⟨(guardO_some hu5), trivial⟩) ?_
      refine k_sreg (r_go [(0, .p (.int .i64 x2.2)), (5, .p (.int .i64 (Int.tmod x2.1 x2.2)))] [] [] (by kernel_rfl) trivial) ?_
      refine k_reg (r_go [(0, .p (.int .i64 x2.2)), (1, .p (.int .i64 (Int.tmod x2.1 x2.2)))] [] [] (by kernel_rfl) trivial) ?_
      refine b_n ?_
      exact lq_n (x2.2, (Int.tmod x2.1 x2.2)) (Option.some.inj h).symm (wk_of (by kernel_rfl) (by kernel_rfl))
    · replace h := ite_f hc5_3 h
      refine k_exit ?_
      refine q_x ?_
      refine lq_x ?_
      refine b_x ?_
      have hyy := hy_x2 _ (Option.some.inj h).symm
      subst hyy
      have h := hk_x2
      refine q_n ?_
      exact ⟨x2.1, h, (wk_of (by kernel_rfl) (by kernel_rfl))⟩
theorem wk_spec_raGood {a0 : (Int × Int)}  {r : Bool} (h : spec_raGood a0 = some r) : Meets Try.prog 90 [.v (.agg #[.int .i64 a0.1, .int .i64 a0.2])] { vals := [.p (.bool r)] } := by
  refine Meets_ofL (by kernel_rfl) Try.func90 rfl (by kernel_rfl) (l0 := [(0, .p (.agg #[.int .i64 a0.1, .int .i64 a0.2]))]) (by kernel_rfl) ?_
  unfold spec_raGood at h
  refine k_sreg (r_go [(1, .box [.raw (.int .i64 a0.1), .raw (.int .i64 a0.2)])] [] [] (by kernel_rfl) trivial) ?_
  replace h := bind_some' h
  obtain ⟨v1, hv1, h⟩ := h
  replace h := bind_some' h
  obtain ⟨w5, hw5, h⟩ := h
  refine k_sreg (l1 := [(2, .p (.bool w5))]) ?_ ?_
  · clear h
    rcases Bool.eq_false_or_eq_true v1 with ha0 | ha0
    · replace hw5 := ite_t ha0 hw5
      replace hw5 := bind_some' hw5
      obtain ⟨v2, hv2, hw5⟩ := hw5
      rcases Bool.eq_false_or_eq_true v2 with ha1 | ha1
      · replace hw5 := ite_t ha1 hw5
        replace hw5 := bind_some' hw5
        obtain ⟨v3, hv3, hw5⟩ := hw5
        replace hw5 := bind_some' hw5
        obtain ⟨v4, hv4, hw5⟩ := hw5
        have hw5 := Option.some.inj hw5
        subst hw5
        exact (r_draw Try_mixed 17 [(2, .p (.bool (v4 == 1)))] [(2, {call := some ([.v (.int .i64 a0.2), .v (.int .i64 1), .v (.int .i64 1000000000)], [.p (.bool v1)], true)}), (4, {g := some true}), (5, {g := some true}), (6, {g := some true, call := some ([.v (.int .i64 a0.1), .v (.int .i64 (-1000000000)), .v (.int .i64 1000000000)], [.p (.bool v2)], true)}), (7, {b := some true}), (9, {g := some true}), (10, {g := some true}), (11, {g := some true, call := some ([.v (.int .i64 a0.1)], [.p (.int .i64 v3)], true)}), (12, {g := some true}), (13, {g := some true}), (14, {g := some true, call := some ([.v (.int .i64 v3), .v (.int .i64 a0.2)], [.p (.int .i64 v4)], true)}), (15, {g := some true}), (16, {b := some true})] [([.v (.int .i64 a0.2), .v (.int .i64 1), .v (.int .i64 1000000000)] : List Arg) = [.v (.int .i64 a0.2), .v (.int .i64 1), .v (.int .i64 1000000000)], Meets Try.prog 86 ([.v (.int .i64 a0.2), .v (.int .i64 1), .v (.int .i64 1000000000)] ++ []) { vals := [.p (.bool v1)] }, List.all [.p (.bool v1)] simpleR = true, v1 = true, v1 = true, v1 = true, ([.v (.int .i64 a0.1), .v (.int .i64 (-1000000000)), .v (.int .i64 1000000000)] : List Arg) = [.v (.int .i64 a0.1), .v (.int .i64 (-1000000000)), .v (.int .i64 1000000000)], Meets Try.prog 86 ([.v (.int .i64 a0.1), .v (.int .i64 (-1000000000)), .v (.int .i64 1000000000)] ++ []) { vals := [.p (.bool v2)] }, List.all [.p (.bool v2)] simpleR = true, v1 = true, v2 = true, v2 = true, v2 = true, ([.v (.int .i64 a0.1)] : List Arg) = [.v (.int .i64 a0.1)], Meets Try.prog 123 ([.v (.int .i64 a0.1)] ++ []) { vals := [.p (.int .i64 v3)] }, List.all [.p (.int .i64 v3)] simpleR = true, v2 = true, v2 = true, v2 = true, ([.v (.int .i64 v3), .v (.int .i64 a0.2)] : List Arg) = [.v (.int .i64 v3), .v (.int .i64 a0.2)], Meets Try.prog 122 ([.v (.int .i64 v3), .v (.int .i64 a0.2)] ++ []) { vals := [.p (.int .i64 v4)] }, List.all [.p (.int .i64 v4)] simpleR = true, v2 = true, v2 = true] (by kernel_rfl) ⟨rfl, (wk_spec_l1In hv1), rfl, ha0, ha0, ha0, rfl, (wk_spec_l1In hv2), rfl, ha0, ha1, ha1, ha1, rfl, (wk_spec_l1Abs hv3), rfl, ha1, ha1, ha1, rfl, (wk_spec_raCommon hv4), rfl, ha1, ha1, trivial⟩)
      · replace hw5 := ite_f ha1 hw5
        have hw5 := Option.some.inj hw5
        subst hw5
        exact (r_draw Try_mixed 17 [(2, .p (.bool false))] [(2, {call := some ([.v (.int .i64 a0.2), .v (.int .i64 1), .v (.int .i64 1000000000)], [.p (.bool v1)], true)}), (4, {g := some true}), (5, {g := some true}), (6, {g := some true, call := some ([.v (.int .i64 a0.1), .v (.int .i64 (-1000000000)), .v (.int .i64 1000000000)], [.p (.bool v2)], true)}), (7, {b := some true}), (9, {g := some false}), (10, {g := some false}), (11, {g := some false}), (12, {g := some false}), (13, {g := some false}), (14, {g := some false}), (15, {g := some false}), (16, {b := some false})] [([.v (.int .i64 a0.2), .v (.int .i64 1), .v (.int .i64 1000000000)] : List Arg) = [.v (.int .i64 a0.2), .v (.int .i64 1), .v (.int .i64 1000000000)], Meets Try.prog 86 ([.v (.int .i64 a0.2), .v (.int .i64 1), .v (.int .i64 1000000000)] ++ []) { vals := [.p (.bool v1)] }, List.all [.p (.bool v1)] simpleR = true, v1 = true, v1 = true, v1 = true, ([.v (.int .i64 a0.1), .v (.int .i64 (-1000000000)), .v (.int .i64 1000000000)] : List Arg) = [.v (.int .i64 a0.1), .v (.int .i64 (-1000000000)), .v (.int .i64 1000000000)], Meets Try.prog 86 ([.v (.int .i64 a0.1), .v (.int .i64 (-1000000000)), .v (.int .i64 1000000000)] ++ []) { vals := [.p (.bool v2)] }, List.all [.p (.bool v2)] simpleR = true, v1 = true, v2 = false, v2 = false, v2 = false, v2 = false, v2 = false, v2 = false, v2 = false, v2 = false] (by kernel_rfl) ⟨rfl, (wk_spec_l1In hv1), rfl, ha0, ha0, ha0, rfl, (wk_spec_l1In hv2), rfl, ha0, ha1, ha1, ha1, ha1, ha1, ha1, ha1, ha1, trivial⟩)
    · replace hw5 := ite_f ha0 hw5
      have hw5 := Option.some.inj hw5
      subst hw5
      exact (r_draw Try_mixed 17 [(2, .p (.bool false))] [(2, {call := some ([.v (.int .i64 a0.2), .v (.int .i64 1), .v (.int .i64 1000000000)], [.p (.bool v1)], true)}), (4, {g := some false}), (5, {g := some false}), (6, {g := some false}), (7, {b := some false}), (9, {g := some false}), (10, {g := some false}), (11, {g := some false}), (12, {g := some false}), (13, {g := some false}), (14, {g := some false}), (15, {g := some false}), (16, {b := some false})] [([.v (.int .i64 a0.2), .v (.int .i64 1), .v (.int .i64 1000000000)] : List Arg) = [.v (.int .i64 a0.2), .v (.int .i64 1), .v (.int .i64 1000000000)], Meets Try.prog 86 ([.v (.int .i64 a0.2), .v (.int .i64 1), .v (.int .i64 1000000000)] ++ []) { vals := [.p (.bool v1)] }, List.all [.p (.bool v1)] simpleR = true, v1 = false, v1 = false, v1 = false, v1 = false, false = false, false = false, false = false, false = false, false = false, false = false, false = false, false = false] (by kernel_rfl) ⟨rfl, (wk_spec_l1In hv1), rfl, ha0, ha0, ha0, ha0, rfl, rfl, rfl, rfl, rfl, rfl, rfl, rfl, trivial⟩)
  · refine k_ret ?_
    obtain rfl := Option.some.inj h
    exact e_ret (ls := [(.p (.bool w5), 2)]) (by kernel_rfl) rfl (by kernel_rfl) rfl
theorem wk_spec_liNear {a0 : (Int × Int)}  {r : Bool} (h : spec_liNear a0 = some r) : Meets Try.prog 51 [.v (.agg #[.int .i64 a0.1, .int .i64 a0.2])] { vals := [.p (.bool r)] } := by
  refine Meets_ofL (by kernel_rfl) Try.func51 rfl (by kernel_rfl) (l0 := [(0, .p (.agg #[.int .i64 a0.1, .int .i64 a0.2]))]) (by kernel_rfl) ?_
  unfold spec_liNear at h
  refine k_sreg (r_go [(1, .box [.raw (.int .i64 a0.1), .raw (.int .i64 a0.2)])] [] [] (by kernel_rfl) trivial) ?_
  replace h := bind_some' h
  obtain ⟨v1, hv1, h⟩ := h
  replace h := bind_some' h
  obtain ⟨w3, hw3, h⟩ := h
  refine k_sreg (l1 := [(2, .p (.bool w3))]) ?_ ?_
  · clear h
    rcases Bool.eq_false_or_eq_true v1 with ha0 | ha0
    · replace hw3 := ite_t ha0 hw3
      replace hw3 := bind_some' hw3
      obtain ⟨v2, hv2, hw3⟩ := hw3
      have hw3 := Option.some.inj hw3
      subst hw3
      exact (r_go [(2, .p (.bool v2))] [(1, {call := some ([.v (.agg #[.int .i64 a0.1, .int .i64 a0.2])], [.p (.bool v1)], true)}), (3, {g := some true}), (4, {g := some true}), (5, {g := some true}), (6, {g := some true}), (7, {g := some true}), (8, {g := some true}), (9, {g := some true}), (10, {g := some true}), (11, {g := some true, call := some ([.v (.int .i64 a0.1), .v (.int .i64 (w64 ((-1000) * a0.2))), .v (.int .i64 (w64 (1000 * a0.2)))], [.p (.bool v2)], true)}), (12, {b := some true})] [([.v (.agg #[.int .i64 a0.1, .int .i64 a0.2])] : List Arg) = [.v (.agg #[.int .i64 a0.1, .int .i64 a0.2])], Meets Try.prog 90 ([.v (.agg #[.int .i64 a0.1, .int .i64 a0.2])] ++ []) { vals := [.p (.bool v1)] }, List.all [.p (.bool v1)] simpleR = true, v1 = true, v1 = true, v1 = true, v1 = true, v1 = true, v1 = true, v1 = true, v1 = true, v1 = true, ([.v (.int .i64 a0.1), .v (.int .i64 (w64 ((-1000) * a0.2))), .v (.int .i64 (w64 (1000 * a0.2)))] : List Arg) = [.v (.int .i64 a0.1), .v (.int .i64 (w64 ((-1000) * a0.2))), .v (.int .i64 (w64 (1000 * a0.2)))], Meets Try.prog 86 ([.v (.int .i64 a0.1), .v (.int .i64 (w64 ((-1000) * a0.2))), .v (.int .i64 (w64 (1000 * a0.2)))] ++ []) { vals := [.p (.bool v2)] }, List.all [.p (.bool v2)] simpleR = true, v1 = true] (by kernel_rfl) ⟨rfl, (wk_spec_raGood hv1), rfl, ha0, ha0, ha0, ha0, ha0, ha0, ha0, ha0, ha0, rfl, (wk_spec_l1In hv2), rfl, ha0, trivial⟩)
    · replace hw3 := ite_f ha0 hw3
      have hw3 := Option.some.inj hw3
      subst hw3
      exact (r_go [(2, .p (.bool false))] [(1, {call := some ([.v (.agg #[.int .i64 a0.1, .int .i64 a0.2])], [.p (.bool v1)], true)}), (3, {g := some false}), (4, {g := some false}), (5, {g := some false}), (6, {g := some false}), (7, {g := some false}), (8, {g := some false}), (9, {g := some false}), (10, {g := some false}), (11, {g := some false}), (12, {b := some false})] [([.v (.agg #[.int .i64 a0.1, .int .i64 a0.2])] : List Arg) = [.v (.agg #[.int .i64 a0.1, .int .i64 a0.2])], Meets Try.prog 90 ([.v (.agg #[.int .i64 a0.1, .int .i64 a0.2])] ++ []) { vals := [.p (.bool v1)] }, List.all [.p (.bool v1)] simpleR = true, v1 = false, v1 = false, v1 = false, v1 = false, v1 = false, v1 = false, v1 = false, v1 = false, v1 = false, v1 = false] (by kernel_rfl) ⟨rfl, (wk_spec_raGood hv1), rfl, ha0, ha0, ha0, ha0, ha0, ha0, ha0, ha0, ha0, ha0, trivial⟩)
  · refine k_ret ?_
    obtain rfl := Option.some.inj h
    exact e_ret (ls := [(.p (.bool w3), 2)]) (by kernel_rfl) rfl (by kernel_rfl) rfl
theorem wk_spec_raDown {a0 : Int} {a1 : Int}  {r : Int} (h : spec_raDown a0 a1 = some r) : Meets Try.prog 91 [.v (.int .i64 a0), .v (.int .i64 a1)] { vals := [.p (.int .i64 r)] } := by
  refine Meets_ofL (by kernel_rfl) Try.func91 rfl (by kernel_rfl) (l0 := [(0, .p (.int .i64 a0)), (1, .p (.int .i64 a1))]) (by kernel_rfl) ?_
  unfold spec_raDown at h
  refine k_sreg (r_go [(0, .p (.int .i64 a0)), (1, .p (.int .i64 a1))] [] [] (by kernel_rfl) trivial) ?_
  refine k_seq ?_
  refine k_sreg (r_go [(0, .p (.int .i64 a0)), (1, .p (.int .i64 a1)), (7, .p (.bool (a1 == 0)))] [] [] (by kernel_rfl) trivial) ?_
  refine k_cond (b := (a1 == 0)) (by kernel_rfl) (fun hc2_0 => ?_) (fun hc2_0 => ?_)
  · replace h := ite_t hc2_0 h
    refine k_sreg (r_go [(4, .p (.int .i64 0))] [] [] (by kernel_rfl) trivial) ?_
    refine k_ret ?_
    refine q_r ?_
    obtain rfl := Option.some.inj h
    exact e_ret (ls := [(.p (.int .i64 0), 4)]) (by kernel_rfl) rfl (by kernel_rfl) rfl
  · replace h := ite_f hc2_0 h
    refine k_skip ?_
    refine q_n ?_
    replace h := bind_some' h
    obtain ⟨u2, hu2, h⟩ := h
    refine k_sreg (r_go [(0, .p (.int .i64 a0)), (1, .p (.int .i64 a1)), (5, .p (.int .i64 (w64 (Int.tdiv a0 a1))))] [] [a1 ≠ (0 : Int)] (by kernel_rfl) ⟨(guardO_some hu2), trivial⟩) ?_
    refine k_seq ?_
    refine k_sreg (r_go [(5, .p (.int .i64 (w64 (Int.tdiv a0 a1)))), (14, .p (.bool (decide ((Int.tmod a0 a1) < 0))))] [] [a1 ≠ (0 : Int)] (by kernel_rfl) ⟨(guardO_some hu2), trivial⟩) ?_
    refine k_cond (b := (decide ((Int.tmod a0 a1) < 0))) (by kernel_rfl) (fun hc2_2 => ?_) (fun hc2_2 => ?_)
    · replace h := ite_t hc2_2 h
      refine k_reg (r_go [(5, .p (.int .i64 (w64 ((w64 (Int.tdiv a0 a1)) - 1))))] [] [] (by kernel_rfl) trivial) ?_
      refine q_n ?_
      refine k_sreg (r_go [(4, .p (.int .i64 (w64 ((w64 (Int.tdiv a0 a1)) - 1))))] [] [] (by kernel_rfl) trivial) ?_
      refine k_ret ?_
      obtain rfl := Option.some.inj h
      exact e_ret (ls := [(.p (.int .i64 (w64 ((w64 (Int.tdiv a0 a1)) - 1))), 4)]) (by kernel_rfl) rfl (by kernel_rfl) rfl
    · replace h := ite_f hc2_2 h
      refine k_skip ?_
      refine q_n ?_
      refine k_sreg (r_go [(4, .p (.int .i64 (w64 (Int.tdiv a0 a1))))] [] [] (by kernel_rfl) trivial) ?_
      refine k_ret ?_
      obtain rfl := Option.some.inj h
      exact e_ret (ls := [(.p (.int .i64 (w64 (Int.tdiv a0 a1))), 4)]) (by kernel_rfl) rfl (by kernel_rfl) rfl
theorem wk_spec_raFloor {a0 : (Int × Int)}  {r : Int} (h : spec_raFloor a0 = some r) : Meets Try.prog 53 [.v (.agg #[.int .i64 a0.1, .int .i64 a0.2])] { vals := [.p (.int .i64 r)] } := by
  refine Meets_ofL (by kernel_rfl) Try.func53 rfl (by kernel_rfl) (l0 := [(0, .p (.agg #[.int .i64 a0.1, .int .i64 a0.2]))]) (by kernel_rfl) ?_
  unfold spec_raFloor at h
  refine k_sreg (r_go [(1, .box [.raw (.int .i64 a0.1), .raw (.int .i64 a0.2)])] [] [] (by kernel_rfl) trivial) ?_
  replace h := bind_some' h
  obtain ⟨v1, hv1, h⟩ := h
  refine k_sreg (r_go [(2, .p (.int .i64 v1))] [(4, {call := some ([.v (.int .i64 a0.1), .v (.int .i64 a0.2)], [.p (.int .i64 v1)], true)})] [([.v (.int .i64 a0.1), .v (.int .i64 a0.2)] : List Arg) = [.v (.int .i64 a0.1), .v (.int .i64 a0.2)], Meets Try.prog 91 ([.v (.int .i64 a0.1), .v (.int .i64 a0.2)] ++ []) { vals := [.p (.int .i64 v1)] }, List.all [.p (.int .i64 v1)] simpleR = true] (by kernel_rfl) ⟨rfl, (wk_spec_raDown hv1), rfl, trivial⟩) ?_
  refine k_ret ?_
  obtain rfl := Option.some.inj h
  exact e_ret (ls := [(.p (.int .i64 v1), 2)]) (by kernel_rfl) rfl (by kernel_rfl) rfl
theorem wk_spec_liPlus {a0 : (Int × Int)} {a1 : Int}  {r : (Int × Int)} (h : spec_liPlus a0 a1 = some r) : Meets Try.prog 52 [.v (.agg #[.int .i64 a0.1, .int .i64 a0.2]), .v (.int .i64 a1)] { vals := [.p (.agg #[.int .i64 r.1, .int .i64 r.2])] } := by
  refine Meets_ofL (by kernel_rfl) Try.func52 rfl (by kernel_rfl) (l0 := [(0, .p (.agg #[.int .i64 a0.1, .int .i64 a0.2])), (1, .p (.int .i64 a1))]) (by kernel_rfl) ?_
  unfold spec_liPlus at h
  refine k_sreg (r_go [(1, .p (.int .i64 a1)), (2, .box [.raw (.int .i64 a0.1), .raw (.int .i64 a0.2)]), (4, .box [.raw (.int .i64 0), .raw (.int .i64 0)])] [] [] (by kernel_rfl) trivial) ?_
  refine k_sreg (r_go [(4, .box [.raw (.int .i64 (w64 (a0.1 + (w64 (a1 * a0.2))))), .raw (.int .i64 a0.2)])] [] [] (by kernel_rfl) trivial) ?_
  refine k_ret ?_
  obtain rfl := Option.some.inj h
  exact e_ret (ls := [(.p (.agg #[.int .i64 (w64 (a0.1 + (w64 (a1 * a0.2)))), .int .i64 a0.2]), 4)]) (by kernel_rfl) rfl (by kernel_rfl) rfl
theorem wk_spec_ReduceRat {a0 : (Int × Int)}  {r : ((Int × Int) × Bool)} (h : spec_ReduceRat a0 = some r) : Meets Try.prog 19 [.v (.agg #[.int .i64 a0.1, .int .i64 a0.2])] { vals := [.p (.agg #[.int .i64 r.1.1, .int .i64 r.1.2]), .p (.bool r.2)] } := by
  refine Meets_ofL (by kernel_rfl) Try.func19 rfl (by kernel_rfl) (l0 := [(0, .p (.agg #[.int .i64 a0.1, .int .i64 a0.2]))]) (by kernel_rfl) ?_
  unfold spec_ReduceRat at h
  refine k_sreg (r_go [(1, .box [.raw (.int .i64 a0.1), .raw (.int .i64 a0.2)]), (2, .box [.raw (.int .i64 0), .raw (.int .i64 0)])] [] [] (by kernel_rfl) trivial) ?_
  refine k_seq ?_
  replace h := bind_some' h
  obtain ⟨v1, hv1, h⟩ := h
  refine k_sreg (r_go [(1, .box [.raw (.int .i64 a0.1), .raw (.int .i64 a0.2)]), (2, .box [.raw (.int .i64 0), .raw (.int .i64 0)]), (6, .p (.bool (!v1)))] [(1, {call := some ([.v (.agg #[.int .i64 a0.1, .int .i64 a0.2])], [.p (.bool v1)], true)})] [([.v (.agg #[.int .i64 a0.1, .int .i64 a0.2])] : List Arg) = [.v (.agg #[.int .i64 a0.1, .int .i64 a0.2])], Meets Try.prog 51 ([.v (.agg #[.int .i64 a0.1, .int .i64 a0.2])] ++ []) { vals := [.p (.bool v1)] }, List.all [.p (.bool v1)] simpleR = true] (by kernel_rfl) ⟨rfl, (wk_spec_liNear hv1), rfl, trivial⟩) ?_
  refine k_cond (b := (!v1)) (by kernel_rfl) (fun hc2_1 => ?_) (fun hc2_1 => ?_)
  · replace h := ite_t hc2_1 h
    refine k_sreg (r_go [(2, .box [.raw (.int .i64 0), .raw (.int .i64 0)]), (3, .p (.bool false))] [] [] (by kernel_rfl) trivial) ?_
    refine k_ret ?_
    refine q_r ?_
    obtain rfl := Option.some.inj h
    exact e_ret (ls := [(.p (.agg #[.int .i64 0, .int .i64 0]), 2), (.p (.bool false), 3)]) (by kernel_rfl) rfl (by kernel_rfl) rfl
  · replace h := ite_f hc2_1 h
    refine k_skip ?_
    refine q_n ?_
    replace h := bind_some' h
    obtain ⟨v3, hv3, h⟩ := h
    replace h := bind_some' h
    obtain ⟨v4, hv4, h⟩ := h
    refine k_sreg (r_draw Try_mixed 5 [(2, .box [.raw (.int .i64 v4.1), .raw (.int .i64 v4.2)]), (3, .p (.bool true))] [(2, {call := some ([.v (.agg #[.int .i64 a0.1, .int .i64 a0.2])], [.p (.int .i64 v3)], true)}), (4, {call := some ([.v (.agg #[.int .i64 a0.1, .int .i64 a0.2]), .v (.int .i64 (w64 (0 - v3)))], [.p (.agg #[.int .i64 v4.1, .int .i64 v4.2])], true)})] [([.v (.agg #[.int .i64 a0.1, .int .i64 a0.2])] : List Arg) = [.v (.agg #[.int .i64 a0.1, .int .i64 a0.2])], Meets Try.prog 53 ([.v (.agg #[.int .i64 a0.1, .int .i64 a0.2])] ++ []) { vals := [.p (.int .i64 v3)] }, List.all [.p (.int .i64 v3)] simpleR = true, ([.v (.agg #[.int .i64 a0.1, .int .i64 a0.2]), .v (.int .i64 (w64 (0 - v3)))] : List Arg) = [.v (.agg #[.int .i64 a0.1, .int .i64 a0.2]), .v (.int .i64 (w64 (0 - v3)))], Meets Try.prog 52 ([.v (.agg #[.int .i64 a0.1, .int .i64 a0.2]), .v (.int .i64 (w64 (0 - v3)))] ++ []) { vals := [.p (.agg #[.int .i64 v4.1, .int .i64 v4.2])] }, List.all [.p (.agg #[.int .i64 v4.1, .int .i64 v4.2])] simpleR = true] (by kernel_rfl) ⟨rfl, (wk_spec_raFloor hv3), rfl, rfl, (wk_spec_liPlus hv4), rfl, trivial⟩) ?_
    refine k_ret ?_
    obtain rfl := Option.some.inj h
    exact e_ret (ls := [(.p (.agg #[.int .i64 v4.1, .int .i64 v4.2]), 2), (.p (.bool true), 3)]) (by kernel_rfl) rfl (by kernel_rfl) rfl
theorem wk_impl_within {a0 : Int} {a1 : Int} {a2 : Int}  {r : Bool} (h : impl_within a0 a1 a2 = some r) : Meets Try.prog 76 [.v (.int .i64 a0), .v (.int .i64 a1), .v (.int .i64 a2)] { vals := [.p (.bool r)] } := by
  refine Meets_ofL (by kernel_rfl) Try.func76 rfl (by kernel_rfl) (l0 := [(0, .p (.int .i64 a0)), (1, .p (.int .i64 a1)), (2, .p (.int .i64 a2))]) (by kernel_rfl) ?_
  unfold impl_within at h
  refine k_sreg (r_go [(0, .p (.int .i64 a0)), (1, .p (.int .i64 a1)), (2, .p (.int .i64 a2))] [] [] (by kernel_rfl) trivial) ?_
  refine k_sreg (l1 := [(6, .p (.bool ((decide (a1 ≤ a0)) && (decide (a0 ≤ a2)))))]) ?_ ?_
  · rcases Bool.eq_false_or_eq_true (decide (a1 ≤ a0)) with ha0 | ha0
    · exact RegOk.of_eq (l2 := [(6, .p (.bool ((decide (a1 ≤ a0)) && (decide (a0 ≤ a2)))))]) (r_go [(6, .p (.bool (decide (a0 ≤ a2))))] [(4, {g := some true}), (5, {g := some true}), (6, {g := some true}), (7, {b := some true})] [(decide (a1 ≤ a0)) = true, (decide (a1 ≤ a0)) = true, (decide (a1 ≤ a0)) = true, (decide (a1 ≤ a0)) = true] (by kernel_rfl) ⟨ha0, ha0, ha0, ha0, trivial⟩) (by simp [ha0])
    · exact RegOk.of_eq (l2 := [(6, .p (.bool ((decide (a1 ≤ a0)) && (decide (a0 ≤ a2)))))]) (r_go [(6, .p (.bool false))] [(4, {g := some false}), (5, {g := some false}), (6, {g := some false}), (7, {b := some false})] [(decide (a1 ≤ a0)) = false, (decide (a1 ≤ a0)) = false, (decide (a1 ≤ a0)) = false, (decide (a1 ≤ a0)) = false] (by kernel_rfl) ⟨ha0, ha0, ha0, ha0, trivial⟩) (by simp [ha0])
  · refine k_ret ?_
    obtain rfl := Option.some.inj h
    exact e_ret (ls := [(.p (.bool ((decide (a1 ≤ a0)) && (decide (a0 ≤ a2)))), 6)]) (by kernel_rfl) rfl (by kernel_rfl) rfl
theorem wk_impl_abs {a0 : Int}  {r : Int} (h : impl_abs a0 = some r) : Meets Try.prog 135 [.v (.int .i64 a0)] { vals := [.p (.int .i64 r)] } := by
  refine Meets_ofL (by kernel_rfl) Try.func135 rfl (by kernel_rfl) (l0 := [(0, .p (.int .i64 a0))]) (by kernel_rfl) ?_
  unfold impl_abs at h
  refine k_sreg (r_go [(0, .p (.int .i64 a0))] [] [] (by kernel_rfl) trivial) ?_
  refine k_seq ?_
  refine k_sreg (r_go [(0, .p (.int .i64 a0)), (4, .p (.bool (decide (a0 < 0))))] [] [] (by kernel_rfl) trivial) ?_
  refine k_cond (b := (decide (a0 < 0))) (by kernel_rfl) (fun hc2_0 => ?_) (fun hc2_0 => ?_)
  · replace h := ite_t hc2_0 h
    refine k_sreg (r_go [(2, .p (.int .i64 (w64 (0 - a0))))] [] [] (by kernel_rfl) trivial) ?_
    refine k_ret ?_
    refine q_r ?_
    obtain rfl := Option.some.inj h
    exact e_ret (ls := [(.p (.int .i64 (w64 (0 - a0))), 2)]) (by kernel_rfl) rfl (by kernel_rfl) rfl
  · replace h := ite_f hc2_0 h
    refine k_skip ?_
    refine q_n ?_
    refine k_sreg (r_go [(2, .p (.int .i64 a0))] [] [] (by kernel_rfl) trivial) ?_
    refine k_ret ?_
    obtain rfl := Option.some.inj h
    exact e_ret (ls := [(.p (.int .i64 a0), 2)]) (by kernel_rfl) rfl (by kernel_rfl) rfl
theorem wk_impl_greatestDivisor {a0 : Int} {a1 : Int}  {r : Int} (h : impl_greatestDivisor a0 a1 = some r) : Meets Try.prog 124 [.v (.int .i64 a0), .v (.int .i64 a1)] { vals := [.p (.int .i64 r)] } := by
  refine Meets_ofL (by kernel_rfl) Try.func124 rfl (by kernel_rfl) (l0 := [(0, .p (.int .i64 a0)), (1, .p (.int .i64 a1))]) (by kernel_rfl) ?_
  unfold impl_greatestDivisor at h
  refine k_sreg (r_go [(0, .p (.int .i64 a0)), (1, .p (.int .i64 a1))] [] [] (by kernel_rfl) trivial) ?_
  replace h := bind_some' h
  obtain ⟨v1, hv1, h⟩ := h
  replace h := bind_some' h
  obtain ⟨v2, hv2, h⟩ := h
  refine k_sreg (r_go [(0, .p (.int .i64 v1)), (1, .p (.int .i64 v2))] [(1, {call := some ([.v (.int .i64 a0)], [.p (.int .i64 v1)], true)}), (3, {call := some ([.v (.int .i64 a1)], [.p (.int .i64 v2)], true)})] [([.v (.int .i64 a0)] : List Arg) = [.v (.int .i64 a0)], Meets Try.prog 135 ([.v (.int .i64 a0)] ++ []) { vals := [.p (.int .i64 v1)] }, List.all [.p (.int .i64 v1)] simpleR = true, ([.v (.int .i64 a1)] : List Arg) = [.v (.int .i64 a1)], Meets Try.prog 135 ([.v (.int .i64 a1)] ++ []) { vals := [.p (.int .i64 v2)] }, List.all [.p (.int .i64 v2)] simpleR = true] (by kernel_rfl) ⟨rfl, (wk_impl_abs hv1), rfl, rfl, (wk_impl_abs hv2), rfl, trivial⟩) ?_
  refine k_join (J := fun (x : Int) => [(0, .p (.int .i64 x))]) (K := fun x => impl_greatestDivisor_k1 x = some r) (fun x3 h => ?_) ?_
  · unfold impl_greatestDivisor_k1 at h
    refine k_sreg (r_go [(4, .p (.int .i64 x3))] [] [] (by kernel_rfl) trivial) ?_
    refine k_ret ?_
    obtain rfl := Option.some.inj h
    exact e_ret (ls := [(.p (.int .i64 x3), 4)]) (by kernel_rfl) rfl (by kernel_rfl) rfl
  · refine k_block ?_
    obtain ⟨y5, hl_x4, hk_x4⟩ := bind_some' h
    clear h
    refine k_loop (J := fun (x : (Int × Int)) => [(0, .p (.int .i64 x.1)), (1, .p (.int .i64 x.2))]) hl_x4 (wk_of (by kernel_rfl) (by kernel_rfl)) (fun x4 o_x4 h hy_x4 => ?_)
    unfold impl_greatestDivisor_b1 at h
    refine k_seq ?_
    refine k_sreg (r_go [(0, .p (.int .i64 x4.1)), (1, .p (.int .i64 x4.2)), (10, .p (.bool (x4.2 != 0)))] [] [] (by kernel_rfl) trivial) ?_
    refine k_cond (b := (x4.2 != 0)) (by kernel_rfl) (fun hc5_5 => ?_) (fun hc5_5 => ?_)
    · replace h := ite_t hc5_5 h
      refine k_skip ?_
      refine q_n ?_
      refine k_block ?_
      replace h := bind_some' h
      obtain ⟨u7, hu7, h⟩ := h
      refine k_reg (r_draw Try_mixed 5 [(0, .p (.int .i64 x4.2)), (1, .p (.int .i64 (Int.tmod x4.1 x4.2)))] [] [x4.2 ≠ (0 : Int)] (by kernel_rfl) ⟨(guardO_some hu7), trivial⟩) ?_
      refine b_n ?_
      exact lq_n (x4.2, (Int.tmod x4.1 x4.2)) (Option.some.inj h).symm (wk_of (by kernel_rfl) (by kernel_rfl))
    · replace h := ite_f hc5_5 h
      refine k_exit ?_
      refine q_x ?_
      refine lq_x ?_
      refine b_x ?_
      have hyy := hy_x4 _ (Option.some.inj h).symm
      subst hyy
      have h := hk_x4
      refine q_n ?_
      exact ⟨x4.1, h, (wk_of (by kernel_rfl) (by kernel_rfl))⟩
theorem wk_impl_isRat {a0 : (Int × Int)}  {r : Bool} (h : impl_isRat a0 = some r) : Meets Try.prog 92 [.v (.agg #[.int .i64 a0.1, .int .i64 a0.2])] { vals := [.p (.bool r)] } := by
  refine Meets_ofL (by kernel_rfl) Try.func92 rfl (by kernel_rfl) (l0 := [(0, .p (.agg #[.int .i64 a0.1, .int .i64 a0.2]))]) (by kernel_rfl) ?_
  unfold impl_isRat at h
  refine k_sreg (r_go [(1, .box [.raw (.int .i64 a0.1), .raw (.int .i64 a0.2)])] [] [] (by kernel_rfl) trivial) ?_
  replace h := bind_some' h
  obtain ⟨v1, hv1, h⟩ := h
  replace h := bind_some' h
  obtain ⟨w4, hw4, h⟩ := h
  refine k_sreg (l1 := [(2, .p (.bool w4))]) ?_ ?_
  · clear h
    rcases Bool.eq_false_or_eq_true v1 with ha0 | ha0
    · replace hw4 := ite_t ha0 hw4
      replace hw4 := bind_some' hw4
      obtain ⟨v2, hv2, hw4⟩ := hw4
      rcases Bool.eq_false_or_eq_true v2 with ha1 | ha1
      · replace hw4 := ite_t ha1 hw4
        replace hw4 := bind_some' hw4
        obtain ⟨v3, hv3, hw4⟩ := hw4
        have hw4 := Option.some.inj hw4
        subst hw4
        exact (r_go [(2, .p (.bool (v3 == 1)))] [(2, {call := some ([.v (.int .i64 a0.2), .v (.int .i64 1), .v (.int .i64 1000000000)], [.p (.bool v1)], true)}), (4, {g := some true}), (5, {g := some true}), (6, {g := some true, call := some ([.v (.int .i64 a0.1), .v (.int .i64 (-1000000000)), .v (.int .i64 1000000000)], [.p (.bool v2)], true)}), (7, {b := some true}), (9, {g := some true}), (10, {g := some true}), (11, {g := some true}), (12, {g := some true}), (13, {g := some true, call := some ([.v (.int .i64 a0.1), .v (.int .i64 a0.2)], [.p (.int .i64 v3)], true)}), (14, {g := some true}), (15, {b := some true})] [([.v (.int .i64 a0.2), .v (.int .i64 1), .v (.int .i64 1000000000)] : List Arg) = [.v (.int .i64 a0.2), .v (.int .i64 1), .v (.int .i64 1000000000)], Meets Try.prog 76 ([.v (.int .i64 a0.2), .v (.int .i64 1), .v (.int .i64 1000000000)] ++ []) { vals := [.p (.bool v1)] }, List.all [.p (.bool v1)] simpleR = true, v1 = true, v1 = true, v1 = true, ([.v (.int .i64 a0.1), .v (.int .i64 (-1000000000)), .v (.int .i64 1000000000)] : List Arg) = [.v (.int .i64 a0.1), .v (.int .i64 (-1000000000)), .v (.int .i64 1000000000)], Meets Try.prog 76 ([.v (.int .i64 a0.1), .v (.int .i64 (-1000000000)), .v (.int .i64 1000000000)] ++ []) { vals := [.p (.bool v2)] }, List.all [.p (.bool v2)] simpleR = true, v1 = true, v2 = true, v2 = true, v2 = true, v2 = true, v2 = true, ([.v (.int .i64 a0.1), .v (.int .i64 a0.2)] : List Arg) = [.v (.int .i64 a0.1), .v (.int .i64 a0.2)], Meets Try.prog 124 ([.v (.int .i64 a0.1), .v (.int .i64 a0.2)] ++ []) { vals := [.p (.int .i64 v3)] }, List.all [.p (.int .i64 v3)] simpleR = true, v2 = true, v2 = true] (by kernel_rfl) ⟨rfl, (wk_impl_within hv1), rfl, ha0, ha0, ha0, rfl, (wk_impl_within hv2), rfl, ha0, ha1, ha1, ha1, ha1, ha1, rfl, (wk_impl_greatestDivisor hv3), rfl, ha1, ha1, trivial⟩)
      · replace hw4 := ite_f ha1 hw4
        have hw4 := Option.some.inj hw4
        subst hw4
        exact (r_go [(2, .p (.bool false))] [(2, {call := some ([.v (.int .i64 a0.2), .v (.int .i64 1), .v (.int .i64 1000000000)], [.p (.bool v1)], true)}), (4, {g := some true}), (5, {g := some true}), (6, {g := some true, call := some ([.v (.int .i64 a0.1), .v (.int .i64 (-1000000000)), .v (.int .i64 1000000000)], [.p (.bool v2)], true)}), (7, {b := some true}), (9, {g := some false}), (10, {g := some false}), (11, {g := some false}), (12, {g := some false}), (13, {g := some false}), (14, {g := some false}), (15, {b := some false})] [([.v (.int .i64 a0.2), .v (.int .i64 1), .v (.int .i64 1000000000)] : List Arg) = [.v (.int .i64 a0.2), .v (.int .i64 1), .v (.int .i64 1000000000)], Meets Try.prog 76 ([.v (.int .i64 a0.2), .v (.int .i64 1), .v (.int .i64 1000000000)] ++ []) { vals := [.p (.bool v1)] }, List.all [.p (.bool v1)] simpleR = true, v1 = true, v1 = true, v1 = true, ([.v (.int .i64 a0.1), .v (.int .i64 (-1000000000)), .v (.int .i64 1000000000)] : List Arg) = [.v (.int .i64 a0.1), .v (.int .i64 (-1000000000)), .v (.int .i64 1000000000)], Meets Try.prog 76 ([.v (.int .i64 a0.1), .v (.int .i64 (-1000000000)), .v (.int .i64 1000000000)] ++ []) { vals := [.p (.bool v2)] }, List.all [.p (.bool v2)] simpleR = true, v1 = true, v2 = false, v2 = false, v2 = false, v2 = false, v2 = false, v2 = false, v2 = false] (by kernel_rfl) ⟨rfl, (wk_impl_within hv1), rfl, ha0, ha0, ha0, rfl, (wk_impl_within hv2), rfl, ha0, ha1, ha1, ha1, ha1, ha1, ha1, ha1, trivial⟩)
    · replace hw4 := ite_f ha0 hw4
      have hw4 := Option.some.inj hw4
      subst hw4
      exact (r_go [(2, .p (.bool false))] [(2, {call := some ([.v (.int .i64 a0.2), .v (.int .i64 1), .v (.int .i64 1000000000)], [.p (.bool v1)], true)}), (4, {g := some false}), (5, {g := some false}), (6, {g := some false}), (7, {b := some false}), (9, {g := some false}), (10, {g := some false}), (11, {g := some false}), (12, {g := some false}), (13, {g := some false}), (14, {g := some false}), (15, {b := some false})] [([.v (.int .i64 a0.2), .v (.int .i64 1), .v (.int .i64 1000000000)] : List Arg) = [.v (.int .i64 a0.2), .v (.int .i64 1), .v (.int .i64 1000000000)], Meets Try.prog 76 ([.v (.int .i64 a0.2), .v (.int .i64 1), .v (.int .i64 1000000000)] ++ []) { vals := [.p (.bool v1)] }, List.all [.p (.bool v1)] simpleR = true, v1 = false, v1 = false, v1 = false, v1 = false, false = false, false = false, false = false, false = false, false = false, false = false, false = false] (by kernel_rfl) ⟨rfl, (wk_impl_within hv1), rfl, ha0, ha0, ha0, ha0, rfl, rfl, rfl, rfl, rfl, rfl, rfl, trivial⟩)
  · refine k_ret ?_
    obtain rfl := Option.some.inj h
    exact e_ret (ls := [(.p (.bool w4), 2)]) (by kernel_rfl) rfl (by kernel_rfl) rfl
theorem wk_impl_whole {a0 : Int}  {r : (Int × Int)} (h : impl_whole a0 = some r) : Meets Try.prog 56 [.v (.int .i64 a0)] { vals := [.p (.agg #[.int .i64 r.1, .int .i64 r.2])] } := by
  refine Meets_ofL (by kernel_rfl) Try.func56 rfl (by kernel_rfl) (l0 := [(0, .p (.int .i64 a0))]) (by kernel_rfl) ?_
  unfold impl_whole at h
  refine k_sreg (r_go [(0, .p (.int .i64 a0)), (2, .box [.raw (.int .i64 0), .raw (.int .i64 0)])] [] [] (by kernel_rfl) trivial) ?_
  refine k_sreg (r_go [(2, .box [.raw (.int .i64 a0), .raw (.int .i64 1)])] [] [] (by kernel_rfl) trivial) ?_
  refine k_ret ?_
  obtain rfl := Option.some.inj h
  exact e_ret (ls := [(.p (.agg #[.int .i64 a0, .int .i64 1]), 2)]) (by kernel_rfl) rfl (by kernel_rfl) rfl
theorem wk_impl_compare {a0 : (Int × Int)} {a1 : (Int × Int)}  {r : Int} (h : impl_compare a0 a1 = some r) : Meets Try.prog 119 [.v (.agg #[.int .i64 a0.1, .int .i64 a0.2]), .v (.agg #[.int .i64 a1.1, .int .i64 a1.2])] { vals := [.p (.int .i64 r)] } := by
  refine Meets_ofL (by kernel_rfl) Try.func119 rfl (by kernel_rfl) (l0 := [(0, .p (.agg #[.int .i64 a0.1, .int .i64 a0.2])), (1, .p (.agg #[.int .i64 a1.1, .int .i64 a1.2]))]) (by kernel_rfl) ?_
  unfold impl_compare at h
  refine k_sreg (r_go [(2, .box [.raw (.int .i64 a0.1), .raw (.int .i64 a0.2)]), (3, .box [.raw (.int .i64 a1.1), .raw (.int .i64 a1.2)])] [] [] (by kernel_rfl) trivial) ?_
  refine k_seq ?_
  refine k_sreg (r_draw Try_mixed 11 [(5, .p (.int .i64 (w64 (a0.1 * a1.2)))), (6, .p (.int .i64 (w64 (a1.1 * a0.2))))] [] [] (by kernel_rfl) trivial) ?_
  refine k_block ?_
  refine k_sreg (r_go [(5, .p (.int .i64 (w64 (a0.1 * a1.2)))), (6, .p (.int .i64 (w64 (a1.1 * a0.2)))), (17, .p (.bool (decide ((w64 (a0.1 * a1.2)) < (w64 (a1.1 * a0.2))))))] [] [] (by kernel_rfl) trivial) ?_
  refine k_cond (b := (decide ((w64 (a0.1 * a1.2)) < (w64 (a1.1 * a0.2))))) (by kernel_rfl) (fun hc3_0 => ?_) (fun hc3_0 => ?_)
  · replace h := ite_t hc3_0 h
    refine k_sreg (r_go [(4, .p (.int .i64 (-1)))] [] [] (by kernel_rfl) trivial) ?_
    refine k_ret ?_
    refine b_r ?_
    refine q_r ?_
    obtain rfl := Option.some.inj h
    exact e_ret (ls := [(.p (.int .i64 (-1)), 4)]) (by kernel_rfl) rfl (by kernel_rfl) rfl
  · replace h := ite_f hc3_0 h
    refine k_sreg (r_go [(21, .p (.bool (decide ((w64 (a0.1 * a1.2)) > (w64 (a1.1 * a0.2))))))] [] [] (by kernel_rfl) trivial) ?_
    refine k_cond (b := (decide ((w64 (a0.1 * a1.2)) > (w64 (a1.1 * a0.2))))) (by kernel_rfl) (fun hc3_1 => ?_) (fun hc3_1 => ?_)
    · replace h := ite_t hc3_1 h
      refine k_sreg (r_go [(4, .p (.int .i64 1))] [] [] (by kernel_rfl) trivial) ?_
      refine k_ret ?_
      refine b_r ?_
      refine q_r ?_
      obtain rfl := Option.some.inj h
      exact e_ret (ls := [(.p (.int .i64 1), 4)]) (by kernel_rfl) rfl (by kernel_rfl) rfl
    · replace h := ite_f hc3_1 h
      refine k_skip ?_
      refine b_n ?_
      refine q_n ?_
      refine k_sreg (r_go [(4, .p (.int .i64 0))] [] [] (by kernel_rfl) trivial) ?_
      refine k_ret ?_
      obtain rfl := Option.some.inj h
      exact e_ret (ls := [(.p (.int .i64 0), 4)]) (by kernel_rfl) rfl (by kernel_rfl) rfl
theorem wk_impl_less {a0 : (Int × Int)} {a1 : (Int × Int)}  {r : Bool} (h : impl_less a0 a1 = some r) : Meets Try.prog 93 [.v (.agg #[.int .i64 a0.1, .int .i64 a0.2]), .v (.agg #[.int .i64 a1.1, .int .i64 a1.2])] { vals := [.p (.bool r)] } := by
  refine Meets_ofL (by kernel_rfl) Try.func93 rfl (by kernel_rfl) (l0 := [(0, .p (.agg #[.int .i64 a0.1, .int .i64 a0.2])), (1, .p (.agg #[.int .i64 a1.1, .int .i64 a1.2]))]) (by kernel_rfl) ?_
  unfold impl_less at h
  refine k_sreg (r_go [(2, .box [.raw (.int .i64 a0.1), .raw (.int .i64 a0.2)]), (3, .box [.raw (.int .i64 a1.1), .raw (.int .i64 a1.2)])] [] [] (by kernel_rfl) trivial) ?_
  replace h := bind_some' h
  obtain ⟨v1, hv1, h⟩ := h
  refine k_sreg (r_go [(4, .p (.bool (decide (v1 < 0))))] [(2, {call := some ([.v (.agg #[.int .i64 a0.1, .int .i64 a0.2]), .v (.agg #[.int .i64 a1.1, .int .i64 a1.2])], [.p (.int .i64 v1)], true)})] [([.v (.agg #[.int .i64 a0.1, .int .i64 a0.2]), .v (.agg #[.int .i64 a1.1, .int .i64 a1.2])] : List Arg) = [.v (.agg #[.int .i64 a0.1, .int .i64 a0.2]), .v (.agg #[.int .i64 a1.1, .int .i64 a1.2])], Meets Try.prog 119 ([.v (.agg #[.int .i64 a0.1, .int .i64 a0.2]), .v (.agg #[.int .i64 a1.1, .int .i64 a1.2])] ++ []) { vals := [.p (.int .i64 v1)] }, List.all [.p (.int .i64 v1)] simpleR = true] (by kernel_rfl) ⟨rfl, (wk_impl_compare hv1), rfl, trivial⟩) ?_
  refine k_ret ?_
  obtain rfl := Option.some.inj h
  exact e_ret (ls := [(.p (.bool (decide (v1 < 0))), 4)]) (by kernel_rfl) rfl (by kernel_rfl) rfl
theorem wk_impl_isFar {a0 : (Int × Int)}  {r : Bool} (h : impl_isFar a0 = some r) : Meets Try.prog 54 [.v (.agg #[.int .i64 a0.1, .int .i64 a0.2])] { vals := [.p (.bool r)] } := by
  refine Meets_ofL (by kernel_rfl) Try.func54 rfl (by kernel_rfl) (l0 := [(0, .p (.agg #[.int .i64 a0.1, .int .i64 a0.2]))]) (by kernel_rfl) ?_
  unfold impl_isFar at h
  refine k_sreg (r_go [(1, .box [.raw (.int .i64 a0.1), .raw (.int .i64 a0.2)])] [] [] (by kernel_rfl) trivial) ?_
  replace h := bind_some' h
  obtain ⟨v1, hv1, h⟩ := h
  replace h := bind_some' h
  obtain ⟨w6, hw6, h⟩ := h
  refine k_sreg (l1 := [(2, .p (.bool w6))]) ?_ ?_
  · clear h
    rcases Bool.eq_false_or_eq_true v1 with ha0 | ha0
    · replace hw6 := ite_t ha0 hw6
      replace hw6 := bind_some' hw6
      obtain ⟨v2, hv2, hw6⟩ := hw6
      replace hw6 := bind_some' hw6
      obtain ⟨v3, hv3, hw6⟩ := hw6
      rcases Bool.eq_false_or_eq_true (!v3) with ha1 | ha1
      · replace hw6 := ite_t ha1 hw6
        replace hw6 := bind_some' hw6
        obtain ⟨v4, hv4, hw6⟩ := hw6
        replace hw6 := bind_some' hw6
        obtain ⟨v5, hv5, hw6⟩ := hw6
        have hw6 := Option.some.inj hw6
        subst hw6
        exact (r_draw Try_mixed 14 [(2, .p (.bool (!v5)))] [(1, {call := some ([.v (.agg #[.int .i64 a0.1, .int .i64 a0.2])], [.p (.bool v1)], true)}), (3, {g := some true}), (4, {g := some true, call := some ([.v (.int .i64 (-1000))], [.p (.agg #[.int .i64 v2.1, .int .i64 v2.2])], true)}), (5, {g := some true, call := some ([.v (.agg #[.int .i64 a0.1, .int .i64 a0.2]), .v (.agg #[.int .i64 v2.1, .int .i64 v2.2])], [.p (.bool v3)], true)}), (6, {g := some true}), (7, {b := some true}), (9, {g := some true, call := some ([.v (.int .i64 1000)], [.p (.agg #[.int .i64 v4.1, .int .i64 v4.2])], true)}), (10, {g := some true}), (11, {g := some true, call := some ([.v (.agg #[.int .i64 v4.1, .int .i64 v4.2]), .v (.agg #[.int .i64 a0.1, .int .i64 a0.2])], [.p (.bool v5)], true)}), (12, {g := some true}), (13, {b := some true})] [([.v (.agg #[.int .i64 a0.1, .int .i64 a0.2])] : List Arg) = [.v (.agg #[.int .i64 a0.1, .int .i64 a0.2])], Meets Try.prog 92 ([.v (.agg #[.int .i64 a0.1, .int .i64 a0.2])] ++ []) { vals := [.p (.bool v1)] }, List.all [.p (.bool v1)] simpleR = true, v1 = true, v1 = true, ([.v (.int .i64 (-1000))] : List Arg) = [.v (.int .i64 (-1000))], Meets Try.prog 56 ([.v (.int .i64 (-1000))] ++ []) { vals := [.p (.agg #[.int .i64 v2.1, .int .i64 v2.2])] }, List.all [.p (.agg #[.int .i64 v2.1, .int .i64 v2.2])] simpleR = true, v1 = true, ([.v (.agg #[.int .i64 a0.1, .int .i64 a0.2]), .v (.agg #[.int .i64 v2.1, .int .i64 v2.2])] : List Arg) = [.v (.agg #[.int .i64 a0.1, .int .i64 a0.2]), .v (.agg #[.int .i64 v2.1, .int .i64 v2.2])], Meets Try.prog 93 ([.v (.agg #[.int .i64 a0.1, .int .i64 a0.2]), .v (.agg #[.int .i64 v2.1, .int .i64 v2.2])] ++ []) { vals := [.p (.bool v3)] }, List.all [.p (.bool v3)] simpleR = true, v1 = true, v1 = true, (!v3) = true, ([.v (.int .i64 1000)] : List Arg) = [.v (.int .i64 1000)], Meets Try.prog 56 ([.v (.int .i64 1000)] ++ []) { vals := [.p (.agg #[.int .i64 v4.1, .int .i64 v4.2])] }, List.all [.p (.agg #[.int .i64 v4.1, .int .i64 v4.2])] simpleR = true, (!v3) = true, (!v3) = true, ([.v (.agg #[.int .i64 v4.1, .int .i64 v4.2]), .v (.agg #[.int .i64 a0.1, .int .i64 a0.2])] : List Arg) = [.v (.agg #[.int .i64 v4.1, .int .i64 v4.2]), .v (.agg #[.int .i64 a0.1, .int .i64 a0.2])], Meets Try.prog 93 ([.v (.agg #[.int .i64 v4.1, .int .i64 v4.2]), .v (.agg #[.int .i64 a0.1, .int .i64 a0.2])] ++ []) { vals := [.p (.bool v5)] }, List.all [.p (.bool v5)] simpleR = true, (!v3) = true, (!v3) = true] (by kernel_rfl) ⟨rfl, (wk_impl_isRat hv1), rfl, ha0, ha0, rfl, (wk_impl_whole hv2), rfl, ha0, rfl, (wk_impl_less hv3), rfl, ha0, ha0, ha1, rfl, (wk_impl_whole hv4), rfl, ha1, ha1, rfl, (wk_impl_less hv5), rfl, ha1, ha1, trivial⟩)
      · replace hw6 := ite_f ha1 hw6
        have hw6 := Option.some.inj hw6
        subst hw6
        exact (r_draw Try_mixed 14 [(2, .p (.bool false))] [(1, {call := some ([.v (.agg #[.int .i64 a0.1, .int .i64 a0.2])], [.p (.bool v1)], true)}), (3, {g := some true}), (4, {g := some true, call := some ([.v (.int .i64 (-1000))], [.p (.agg #[.int .i64 v2.1, .int .i64 v2.2])], true)}), (5, {g := some true, call := some ([.v (.agg #[.int .i64 a0.1, .int .i64 a0.2]), .v (.agg #[.int .i64 v2.1, .int .i64 v2.2])], [.p (.bool v3)], true)}), (6, {g := some true}), (7, {b := some true}), (9, {g := some false}), (10, {g := some false}), (11, {g := some false}), (12, {g := some false}), (13, {b := some false})] [([.v (.agg #[.int .i64 a0.1, .int .i64 a0.2])] : List Arg) = [.v (.agg #[.int .i64 a0.1, .int .i64 a0.2])], Meets Try.prog 92 ([.v (.agg #[.int .i64 a0.1, .int .i64 a0.2])] ++ []) { vals := [.p (.bool v1)] }, List.all [.p (.bool v1)] simpleR = true, v1 = true, v1 = true, ([.v (.int .i64 (-1000))] : List Arg) = [.v (.int .i64 (-1000))], Meets Try.prog 56 ([.v (.int .i64 (-1000))] ++ []) { vals := [.p (.agg #[.int .i64 v2.1, .int .i64 v2.2])] }, List.all [.p (.agg #[.int .i64 v2.1, .int .i64 v2.2])] simpleR = true, v1 = true, ([.v (.agg #[.int .i64 a0.1, .int .i64 a0.2]), .v (.agg #[.int .i64 v2.1, .int .i64 v2.2])] : List Arg) = [.v (.agg #[.int .i64 a0.1, .int .i64 a0.2]), .v (.agg #[.int .i64 v2.1, .int .i64 v2.2])], Meets Try.prog 93 ([.v (.agg #[.int .i64 a0.1, .int .i64 a0.2]), .v (.agg #[.int .i64 v2.1, .int .i64 v2.2])] ++ []) { vals := [.p (.bool v3)] }, List.all [.p (.bool v3)] simpleR = true, v1 = true, v1 = true, (!v3) = false, (!v3) = false, (!v3) = false, (!v3) = false, (!v3) = false] (by kernel_rfl) ⟨rfl, (wk_impl_isRat hv1), rfl, ha0, ha0, rfl, (wk_impl_whole hv2), rfl, ha0, rfl, (wk_impl_less hv3), rfl, ha0, ha0, ha1, ha1, ha1, ha1, ha1, trivial⟩)
    · replace hw6 := ite_f ha0 hw6
      have hw6 := Option.some.inj hw6
      subst hw6
      exact (r_draw Try_mixed 14 [(2, .p (.bool false))] [(1, {call := some ([.v (.agg #[.int .i64 a0.1, .int .i64 a0.2])], [.p (.bool v1)], true)}), (3, {g := some false}), (4, {g := some false}), (5, {g := some false}), (6, {g := some false}), (7, {b := some false}), (9, {g := some false}), (10, {g := some false}), (11, {g := some false}), (12, {g := some false}), (13, {b := some false})] [([.v (.agg #[.int .i64 a0.1, .int .i64 a0.2])] : List Arg) = [.v (.agg #[.int .i64 a0.1, .int .i64 a0.2])], Meets Try.prog 92 ([.v (.agg #[.int .i64 a0.1, .int .i64 a0.2])] ++ []) { vals := [.p (.bool v1)] }, List.all [.p (.bool v1)] simpleR = true, v1 = false, v1 = false, v1 = false, v1 = false, v1 = false, false = false, false = false, false = false, false = false, false = false] (by kernel_rfl) ⟨rfl, (wk_impl_isRat hv1), rfl, ha0, ha0, ha0, ha0, ha0, rfl, rfl, rfl, rfl, rfl, trivial⟩)
  · refine k_ret ?_
    obtain rfl := Option.some.inj h
    exact e_ret (ls := [(.p (.bool w6), 2)]) (by kernel_rfl) rfl (by kernel_rfl) rfl
theorem wk_impl_floorDivide {a0 : Int} {a1 : Int}  {r : Int} (h : impl_floorDivide a0 a1 = some r) : Meets Try.prog 96 [.v (.int .i64 a0), .v (.int .i64 a1)] { vals := [.p (.int .i64 r)] } := by
  refine Meets_ofL (by kernel_rfl) Try.func96 rfl (by kernel_rfl) (l0 := [(0, .p (.int .i64 a0)), (1, .p (.int .i64 a1))]) (by kernel_rfl) ?_
  unfold impl_floorDivide at h
  refine k_sreg (r_go [(0, .p (.int .i64 a0)), (1, .p (.int .i64 a1))] [] [] (by kernel_rfl) trivial) ?_
  replace h := bind_some' h
  obtain ⟨u1, hu1, h⟩ := h
  refine k_sreg (r_go [(0, .p (.int .i64 a0)), (1, .p (.int .i64 a1)), (5, .p (.int .i64 (w64 (Int.tdiv a0 a1))))] [] [a1 ≠ (0 : Int)] (by kernel_rfl) ⟨(guardO_some hu1), trivial⟩) ?_
  refine k_seq ?_
  refine k_sreg (r_go [(5, .p (.int .i64 (w64 (Int.tdiv a0 a1)))), (12, .p (.bool (decide ((Int.tmod a0 a1) < 0))))] [] [a1 ≠ (0 : Int)] (by kernel_rfl) ⟨(guardO_some hu1), trivial⟩) ?_
  refine k_cond (b := (decide ((Int.tmod a0 a1) < 0))) (by kernel_rfl) (fun hc2_1 => ?_) (fun hc2_1 => ?_)
  · replace h := ite_t hc2_1 h
    refine k_reg (r_go [(5, .p (.int .i64 (w64 ((w64 (Int.tdiv a0 a1)) - 1))))] [] [] (by kernel_rfl) trivial) ?_
    refine q_n ?_
    refine k_sreg (r_go [(4, .p (.int .i64 (w64 ((w64 (Int.tdiv a0 a1)) - 1))))] [] [] (by kernel_rfl) trivial) ?_
    refine k_ret ?_
    obtain rfl := Option.some.inj h
    exact e_ret (ls := [(.p (.int .i64 (w64 ((w64 (Int.tdiv a0 a1)) - 1))), 4)]) (by kernel_rfl) rfl (by kernel_rfl) rfl
  · replace h := ite_f hc2_1 h
    refine k_skip ?_
    refine q_n ?_
    refine k_sreg (r_go [(4, .p (.int .i64 (w64 (Int.tdiv a0 a1))))] [] [] (by kernel_rfl) trivial) ?_
    refine k_ret ?_
    obtain rfl := Option.some.inj h
    exact e_ret (ls := [(.p (.int .i64 (w64 (Int.tdiv a0 a1))), 4)]) (by kernel_rfl) rfl (by kernel_rfl) rfl
theorem wk_impl_floor {a0 : (Int × Int)}  {r : Int} (h : impl_floor a0 = some r) : Meets Try.prog 57 [.v (.agg #[.int .i64 a0.1, .int .i64 a0.2])] { vals := [.p (.int .i64 r)] } := by
  refine Meets_ofL (by kernel_rfl) Try.func57 rfl (by kernel_rfl) (l0 := [(0, .p (.agg #[.int .i64 a0.1, .int .i64 a0.2]))]) (by kernel_rfl) ?_
  unfold impl_floor at h
  refine k_sreg (r_go [(1, .box [.raw (.int .i64 a0.1), .raw (.int .i64 a0.2)])] [] [] (by kernel_rfl) trivial) ?_
  replace h := bind_some' h
  obtain ⟨v1, hv1, h⟩ := h
  refine k_sreg (r_go [(2, .p (.int .i64 v1))] [(4, {call := some ([.v (.int .i64 a0.1), .v (.int .i64 a0.2)], [.p (.int .i64 v1)], true)})] [([.v (.int .i64 a0.1), .v (.int .i64 a0.2)] : List Arg) = [.v (.int .i64 a0.1), .v (.int .i64 a0.2)], Meets Try.prog 96 ([.v (.int .i64 a0.1), .v (.int .i64 a0.2)] ++ []) { vals := [.p (.int .i64 v1)] }, List.all [.p (.int .i64 v1)] simpleR = true] (by kernel_rfl) ⟨rfl, (wk_impl_floorDivide hv1), rfl, trivial⟩) ?_
  refine k_ret ?_
  obtain rfl := Option.some.inj h
  exact e_ret (ls := [(.p (.int .i64 v1), 2)]) (by kernel_rfl) rfl (by kernel_rfl) rfl
theorem wk_impl_negated {a0 : (Int × Int)}  {r : (Int × Int)} (h : impl_negated a0 = some r) : Meets Try.prog 95 [.v (.agg #[.int .i64 a0.1, .int .i64 a0.2])] { vals := [.p (.agg #[.int .i64 r.1, .int .i64 r.2])] } := by
  refine Meets_ofL (by kernel_rfl) Try.func95 rfl (by kernel_rfl) (l0 := [(0, .p (.agg #[.int .i64 a0.1, .int .i64 a0.2]))]) (by kernel_rfl) ?_
  unfold impl_negated at h
  refine k_sreg (r_go [(1, .box [.raw (.int .i64 a0.1), .raw (.int .i64 a0.2)]), (2, .box [.raw (.int .i64 0), .raw (.int .i64 0)])] [] [] (by kernel_rfl) trivial) ?_
  refine k_sreg (r_go [(2, .box [.raw (.int .i64 (w64 (0 - a0.1))), .raw (.int .i64 a0.2)])] [] [] (by kernel_rfl) trivial) ?_
  refine k_ret ?_
  obtain rfl := Option.some.inj h
  exact e_ret (ls := [(.p (.agg #[.int .i64 (w64 (0 - a0.1)), .int .i64 a0.2]), 2)]) (by kernel_rfl) rfl (by kernel_rfl) rfl
theorem wk_impl_areRats {a0 : (List (Int × Int))}  {r : Bool} (h : impl_areRats a0 = some r) : Meets Try.prog 125 [.d false [.sl none (a0.map (eP eI eI))]] { vals := [.p (.bool r)] } := by
  refine Meets_ofL (by kernel_rfl) Try.func125 rfl (by kernel_rfl) (l0 := [(0, .d false [.sl none (a0.map (eP eI eI))])]) (by kernel_rfl) ?_
  unfold impl_areRats at h
  refine k_sreg (r_go [(0, .d false [.sl none (a0.map (eP eI eI))])] [] [] (by kernel_rfl) trivial) ?_
  refine k_join (J := fun (x : Unit) => []) (K := fun x => impl_areRats_k1 x = some r) (fun x1 h => ?_) ?_
  · unfold impl_areRats_k1 at h
    refine k_sreg (r_go [(2, .p (.bool true))] [] [] (by kernel_rfl) trivial) ?_
    refine k_ret ?_
    obtain rfl := Option.some.inj h
    exact e_ret (ls := [(.p (.bool true), 2)]) (by kernel_rfl) rfl (by kernel_rfl) rfl
  · refine k_sreg (r_go [(5, .d false [.sl none (a0.map (eP eI eI))]), (6, .p (.int .i64 (a0.length : Int))), (7, .p (.int .i64 0))] [(1, {n := some a0.length})] [(a0.map (eP eI eI)).length = a0.length] (by kernel_rfl) ⟨(List.length_map ..), trivial⟩) ?_
    refine k_block ?_
    obtain ⟨y3, hl_x2, hk_x2⟩ := bind_some' h
    clear h
    refine k_loop (J := fun (x : Int) => [(5, .d false [.sl none (a0.map (eP eI eI))]), (6, .p (.int .i64 (a0.length : Int))), (7, .p (.int .i64 x))]) hl_x2 (wk_of (by kernel_rfl) (by kernel_rfl)) (fun x2 o_x2 h hy_x2 => ?_)
    unfold impl_areRats_b1 at h
    refine k_sreg (r_go [(5, .d false [.sl none (a0.map (eP eI eI))]), (6, .p (.int .i64 (a0.length : Int))), (7, .p (.int .i64 x2)), (8, .p (.bool (decide (x2 < (a0.length : Int)))))] [] [] (by kernel_rfl) trivial) ?_
    refine k_seq ?_
    refine k_cond (b := (decide (x2 < (a0.length : Int)))) (by kernel_rfl) (fun hc5_3 => ?_) (fun hc5_3 => ?_)
    · replace h := ite_t hc5_3 h
      refine k_skip ?_
      refine q_n ?_
      refine k_seq ?_
      refine k_block ?_
      replace h := bind_some' h
      obtain ⟨v5, hv5, h⟩ := h
      refine k_sreg (r_go [(4, .box [.raw (.int .i64 v5.1), .raw (.int .i64 v5.2)]), (5, .d false [.sl none (a0.map (eP eI eI))]), (6, .p (.int .i64 (a0.length : Int))), (7, .p (.int .i64 x2))] [(0, {row := some [.raw (.int .i64 v5.1), .raw (.int .i64 v5.2)]})] [0 ≤ x2, (a0.map (eP eI eI))[(Int.toNat x2)]? = some [.raw (.int .i64 v5.1), .raw (.int .i64 v5.2)]] (by kernel_rfl) ⟨(idxO_some hv5).1, (map_get (eP eI eI) (idxO_some hv5).2), trivial⟩) ?_
      replace h := bind_some' h
      obtain ⟨v6, hv6, h⟩ := h
      refine k_sreg (r_go [(5, .d false [.sl none (a0.map (eP eI eI))]), (6, .p (.int .i64 (a0.length : Int))), (7, .p (.int .i64 x2)), (13, .p (.bool (!v6)))] [(1, {call := some ([.v (.agg #[.int .i64 v5.1, .int .i64 v5.2])], [.p (.bool v6)], true)})] [([.v (.agg #[.int .i64 v5.1, .int .i64 v5.2])] : List Arg) = [.v (.agg #[.int .i64 v5.1, .int .i64 v5.2])], Meets Try.prog 92 ([.v (.agg #[.int .i64 v5.1, .int .i64 v5.2])] ++ []) { vals := [.p (.bool v6)] }, List.all [.p (.bool v6)] simpleR = true] (by kernel_rfl) ⟨rfl, (wk_impl_isRat hv6), rfl, trivial⟩) ?_
      refine k_cond (b := (!v6)) (by kernel_rfl) (fun hc6_6 => ?_) (fun hc6_6 => ?_)
      · replace h := ite_t hc6_6 h
        refine k_sreg (r_go [(2, .p (.bool false))] [] [] (by kernel_rfl) trivial) ?_
        refine k_ret ?_
        refine b_r ?_
        refine q_r ?_
        refine lq_r ?_
        refine b_r ?_
        refine q_r ?_
        have hyy := hy_x2 _ (Option.some.inj h).symm
        subst hyy
        have h := hk_x2
        dsimp only [Sum.elim] at h
        obtain rfl := Option.some.inj h
        exact e_ret (ls := [(.p (.bool false), 2)]) (by kernel_rfl) rfl (by kernel_rfl) rfl
      · replace h := ite_f hc6_6 h
        refine k_skip ?_
        refine b_n ?_
        refine q_n ?_
        refine k_reg (r_go [(5, .d false [.sl none (a0.map (eP eI eI))]), (6, .p (.int .i64 (a0.length : Int))), (7, .p (.int .i64 (w64 (x2 + 1))))] [] [] (by kernel_rfl) trivial) ?_
        exact lq_n (w64 (x2 + 1)) (Option.some.inj h).symm (wk_of (by kernel_rfl) (by kernel_rfl))
    · replace h := ite_f hc5_3 h
      refine k_exit ?_
      refine q_x ?_
      refine lq_x ?_
      refine b_x ?_
      have hyy := hy_x2 _ (Option.some.inj h).symm
      subst hyy
      have h := hk_x2
      dsimp only [Sum.elim] at h
      refine q_n ?_
      exact ⟨(), h, (wk_of (by kernel_rfl) (by kernel_rfl))⟩
theorem wk_impl_lowest {a0 : Int} {a1 : Int}  {r : ((Int × Int) × Bool)} (h : impl_lowest a0 a1 = some r) : Meets Try.prog 117 [.v (.int .i64 a0), .v (.int .i64 a1)] { vals := [.p (.agg #[.int .i64 r.1.1, .int .i64 r.1.2]), .p (.bool r.2)] } := by
  refine Meets_ofL (by kernel_rfl) Try.func117 rfl (by kernel_rfl) (l0 := [(0, .p (.int .i64 a0)), (1, .p (.int .i64 a1))]) (by kernel_rfl) ?_
  unfold impl_lowest at h
  refine k_sreg (r_go [(0, .p (.int .i64 a0)), (1, .p (.int .i64 a1)), (4, .box [.raw (.int .i64 0), .raw (.int .i64 0)])] [] [] (by kernel_rfl) trivial) ?_
  replace h := bind_some' h
  obtain ⟨v1, hv1, h⟩ := h
  refine k_sreg (r_go [(0, .p (.int .i64 a0)), (1, .p (.int .i64 a1)), (4, .box [.raw (.int .i64 0), .raw (.int .i64 0)]), (6, .p (.int .i64 v1))] [(2, {call := some ([.v (.int .i64 a0), .v (.int .i64 a1)], [.p (.int .i64 v1)], true)})] [([.v (.int .i64 a0), .v (.int .i64 a1)] : List Arg) = [.v (.int .i64 a0), .v (.int .i64 a1)], Meets Try.prog 124 ([.v (.int .i64 a0), .v (.int .i64 a1)] ++ []) { vals := [.p (.int .i64 v1)] }, List.all [.p (.int .i64 v1)] simpleR = true] (by kernel_rfl) ⟨rfl, (wk_impl_greatestDivisor hv1), rfl, trivial⟩) ?_
  refine k_join (J := fun (x : Int) => [(0, .p (.int .i64 a0)), (1, .p (.int .i64 a1)), (4, .box [.raw (.int .i64 0), .raw (.int .i64 0)]), (6, .p (.int .i64 x))]) (K := fun x => impl_lowest_k1 a0 a1 x = some r) (fun x2 h => ?_) ?_
  · unfold impl_lowest_k1 at h
    replace h := bind_some' h
    obtain ⟨u3, hu3, h⟩ := h
    refine k_sreg (r_draw Try_mixed 8 [(4, .box [.raw (.int .i64 0), .raw (.int .i64 0)]), (7, .box [.raw (.int .i64 (w64 (Int.tdiv a0 x2))), .raw (.int .i64 (w64 (Int.tdiv a1 x2)))])] [] [x2 ≠ (0 : Int), x2 ≠ (0 : Int)] (by kernel_rfl) ⟨(guardO_some hu3), (guardO_some hu3), trivial⟩) ?_
    refine k_seq ?_
    replace h := bind_some' h
    obtain ⟨v4, hv4, h⟩ := h
    refine k_sreg (r_go [(4, .box [.raw (.int .i64 0), .raw (.int .i64 0)]), (7, .box [.raw (.int .i64 (w64 (Int.tdiv a0 x2))), .raw (.int .i64 (w64 (Int.tdiv a1 x2)))]), (24, .p (.bool (!v4)))] [(1, {call := some ([.v (.agg #[.int .i64 (w64 (Int.tdiv a0 x2)), .int .i64 (w64 (Int.tdiv a1 x2))])], [.p (.bool v4)], true)})] [([.v (.agg #[.int .i64 (w64 (Int.tdiv a0 x2)), .int .i64 (w64 (Int.tdiv a1 x2))])] : List Arg) = [.v (.agg #[.int .i64 (w64 (Int.tdiv a0 x2)), .int .i64 (w64 (Int.tdiv a1 x2))])], Meets Try.prog 92 ([.v (.agg #[.int .i64 (w64 (Int.tdiv a0 x2)), .int .i64 (w64 (Int.tdiv a1 x2))])] ++ []) { vals := [.p (.bool v4)] }, List.all [.p (.bool v4)] simpleR = true] (by kernel_rfl) ⟨rfl, (wk_impl_isRat hv4), rfl, trivial⟩) ?_
    refine k_cond (b := (!v4)) (by kernel_rfl) (fun hc2_4 => ?_) (fun hc2_4 => ?_)
    · replace h := ite_t hc2_4 h
      refine k_sreg (r_go [(4, .box [.raw (.int .i64 0), .raw (.int .i64 0)]), (5, .p (.bool false))] [] [] (by kernel_rfl) trivial) ?_
      refine k_ret ?_
      refine q_r ?_
      obtain rfl := Option.some.inj h
      exact e_ret (ls := [(.p (.agg #[.int .i64 0, .int .i64 0]), 4), (.p (.bool false), 5)]) (by kernel_rfl) rfl (by kernel_rfl) rfl
    · replace h := ite_f hc2_4 h
      refine k_skip ?_
      refine q_n ?_
      refine k_sreg (r_go [(4, .box [.raw (.int .i64 (w64 (Int.tdiv a0 x2))), .raw (.int .i64 (w64 (Int.tdiv a1 x2)))]), (5, .p (.bool true))] [] [] (by kernel_rfl) trivial) ?_
      refine k_ret ?_
      obtain rfl := Option.some.inj h
      exact e_ret (ls := [(.p (.agg #[.int .i64 (w64 (Int.tdiv a0 x2)), .int .i64 (w64 (Int.tdiv a1 x2))]), 4), (.p (.bool true), 5)]) (by kernel_rfl) rfl (by kernel_rfl) rfl
  · refine k_sreg (r_go [(0, .p (.int .i64 a0)), (1, .p (.int .i64 a1)), (4, .box [.raw (.int .i64 0), .raw (.int .i64 0)]), (6, .p (.int .i64 v1)), (12, .p (.bool (decide (a1 < 0))))] [] [] (by kernel_rfl) trivial) ?_
    refine k_cond (b := (decide (a1 < 0))) (by kernel_rfl) (fun hc2_5 => ?_) (fun hc2_5 => ?_)
    · replace h := ite_t hc2_5 h
      refine k_reg (r_go [(0, .p (.int .i64 a0)), (1, .p (.int .i64 a1)), (4, .box [.raw (.int .i64 0), .raw (.int .i64 0)]), (6, .p (.int .i64 (w64 (0 - v1))))] [] [] (by kernel_rfl) trivial) ?_
      refine q_n ?_
      exact ⟨(w64 (0 - v1)), h, (wk_of (by kernel_rfl) (by kernel_rfl))⟩
    · replace h := ite_f hc2_5 h
      refine k_skip ?_
      refine q_n ?_
      exact ⟨v1, h, (wk_of (by kernel_rfl) (by kernel_rfl))⟩
theorem wk_impl_AddRats {a0 : (Int × Int)} {a1 : (Int × Int)}  {r : ((Int × Int) × Bool)} (h : impl_AddRats a0 a1 = some r) : Meets Try.prog 94 [.v (.agg #[.int .i64 a0.1, .int .i64 a0.2]), .v (.agg #[.int .i64 a1.1, .int .i64 a1.2])] { vals := [.p (.agg #[.int .i64 r.1.1, .int .i64 r.1.2]), .p (.bool r.2)] } := by
  refine Meets_ofL (by kernel_rfl) Try.func94 rfl (by kernel_rfl) (l0 := [(0, .p (.agg #[.int .i64 a0.1, .int .i64 a0.2])), (1, .p (.agg #[.int .i64 a1.1, .int .i64 a1.2]))]) (by kernel_rfl) ?_
  unfold impl_AddRats at h
  refine k_sreg (r_go [(2, .box [.raw (.int .i64 a0.1), .raw (.int .i64 a0.2)]), (3, .box [.raw (.int .i64 a1.1), .raw (.int .i64 a1.2)]), (4, .box [.raw (.int .i64 0), .raw (.int .i64 0)])] [] [] (by kernel_rfl) trivial) ?_
  refine k_seq ?_
  replace h := bind_some' h
  obtain ⟨v1, hv1, h⟩ := h
  refine k_sreg (r_go [(2, .box [.raw (.int .i64 a0.1), .raw (.int .i64 a0.2)]), (3, .box [.raw (.int .i64 a1.1), .raw (.int .i64 a1.2)]), (4, .box [.raw (.int .i64 0), .raw (.int .i64 0)]), (10, .p (.bool (!v1)))] [(3, {call := some ([.d false [.sl none (([a0, a1]).map (eP eI eI))]], [.p (.bool v1)], true)})] [([.d false [.sl none (eraL (([a0, a1]).map (eP eI eI)))]] : List Arg) = [.d false [.sl none (([a0, a1]).map (eP eI eI))]], Meets Try.prog 125 ([.d false [.sl none (([a0, a1]).map (eP eI eI))]] ++ []) { vals := [.p (.bool v1)] }, List.all [.p (.bool v1)] simpleR = true] (by kernel_rfl) ⟨(by simp only [eraL_enc (h := (eP eI eI)) (era_P er_I er_I)]), (wk_impl_areRats hv1), rfl, trivial⟩) ?_
  refine k_cond (b := (!v1)) (by kernel_rfl) (fun hc2_1 => ?_) (fun hc2_1 => ?_)
  · replace h := ite_t hc2_1 h
    refine k_sreg (r_go [(4, .box [.raw (.int .i64 0), .raw (.int .i64 0)]), (5, .p (.bool false))] [] [] (by kernel_rfl) trivial) ?_
    refine k_ret ?_
    refine q_r ?_
    obtain rfl := Option.some.inj h
    exact e_ret (ls := [(.p (.agg #[.int .i64 0, .int .i64 0]), 4), (.p (.bool false), 5)]) (by kernel_rfl) rfl (by kernel_rfl) rfl
  · replace h := ite_f hc2_1 h
    refine k_skip ?_
    refine q_n ?_
    replace h := bind_some' h
    obtain ⟨v3, hv3, h⟩ := h
    refine k_sreg (r_go [(4, .box [.raw (.int .i64 v3.1.1), .raw (.int .i64 v3.1.2)]), (5, .p (.bool v3.2))] [(16, {call := some ([.v (.int .i64 (w64 ((w64 (a0.1 * a1.2)) + (w64 (a1.1 * a0.2))))), .v (.int .i64 (w64 (a0.2 * a1.2)))], [.p (.agg #[.int .i64 v3.1.1, .int .i64 v3.1.2]), .p (.bool v3.2)], true)})] [([.v (.int .i64 (w64 ((w64 (a0.1 * a1.2)) + (w64 (a1.1 * a0.2))))), .v (.int .i64 (w64 (a0.2 * a1.2)))] : List Arg) = [.v (.int .i64 (w64 ((w64 (a0.1 * a1.2)) + (w64 (a1.1 * a0.2))))), .v (.int .i64 (w64 (a0.2 * a1.2)))], Meets Try.prog 117 ([.v (.int .i64 (w64 ((w64 (a0.1 * a1.2)) + (w64 (a1.1 * a0.2))))), .v (.int .i64 (w64 (a0.2 * a1.2)))] ++ []) { vals := [.p (.agg #[.int .i64 v3.1.1, .int .i64 v3.1.2]), .p (.bool v3.2)] }, List.all [.p (.agg #[.int .i64 v3.1.1, .int .i64 v3.1.2]), .p (.bool v3.2)] simpleR = true] (by kernel_rfl) ⟨rfl, (wk_impl_lowest hv3), rfl, trivial⟩) ?_
    refine k_ret ?_
    obtain rfl := Option.some.inj h
    exact e_ret (ls := [(.p (.agg #[.int .i64 v3.1.1, .int .i64 v3.1.2]), 4), (.p (.bool v3.2), 5)]) (by kernel_rfl) rfl (by kernel_rfl) rfl
theorem wk_impl_SubtractRats {a0 : (Int × Int)} {a1 : (Int × Int)}  {r : ((Int × Int) × Bool)} (h : impl_SubtractRats a0 a1 = some r) : Meets Try.prog 55 [.v (.agg #[.int .i64 a0.1, .int .i64 a0.2]), .v (.agg #[.int .i64 a1.1, .int .i64 a1.2])] { vals := [.p (.agg #[.int .i64 r.1.1, .int .i64 r.1.2]), .p (.bool r.2)] } := by
  refine Meets_ofL (by kernel_rfl) Try.func55 rfl (by kernel_rfl) (l0 := [(0, .p (.agg #[.int .i64 a0.1, .int .i64 a0.2])), (1, .p (.agg #[.int .i64 a1.1, .int .i64 a1.2]))]) (by kernel_rfl) ?_
  unfold impl_SubtractRats at h
  refine k_sreg (r_go [(2, .box [.raw (.int .i64 a0.1), .raw (.int .i64 a0.2)]), (3, .box [.raw (.int .i64 a1.1), .raw (.int .i64 a1.2)]), (4, .box [.raw (.int .i64 0), .raw (.int .i64 0)])] [] [] (by kernel_rfl) trivial) ?_
  replace h := bind_some' h
  obtain ⟨v1, hv1, h⟩ := h
  replace h := bind_some' h
  obtain ⟨v2, hv2, h⟩ := h
  refine k_sreg (r_draw Try_mixed 6 [(4, .box [.raw (.int .i64 v2.1.1), .raw (.int .i64 v2.1.2)]), (5, .p (.bool v2.2))] [(2, {call := some ([.v (.agg #[.int .i64 a1.1, .int .i64 a1.2])], [.p (.agg #[.int .i64 v1.1, .int .i64 v1.2])], true)}), (3, {call := some ([.v (.agg #[.int .i64 a0.1, .int .i64 a0.2]), .v (.agg #[.int .i64 v1.1, .int .i64 v1.2])], [.p (.agg #[.int .i64 v2.1.1, .int .i64 v2.1.2]), .p (.bool v2.2)], true)})] [([.v (.agg #[.int .i64 a1.1, .int .i64 a1.2])] : List Arg) = [.v (.agg #[.int .i64 a1.1, .int .i64 a1.2])], Meets Try.prog 95 ([.v (.agg #[.int .i64 a1.1, .int .i64 a1.2])] ++ []) { vals := [.p (.agg #[.int .i64 v1.1, .int .i64 v1.2])] }, List.all [.p (.agg #[.int .i64 v1.1, .int .i64 v1.2])] simpleR = true, ([.v (.agg #[.int .i64 a0.1, .int .i64 a0.2]), .v (.agg #[.int .i64 v1.1, .int .i64 v1.2])] : List Arg) = [.v (.agg #[.int .i64 a0.1, .int .i64 a0.2]), .v (.agg #[.int .i64 v1.1, .int .i64 v1.2])], Meets Try.prog 94 ([.v (.agg #[.int .i64 a0.1, .int .i64 a0.2]), .v (.agg #[.int .i64 v1.1, .int .i64 v1.2])] ++ []) { vals := [.p (.agg #[.int .i64 v2.1.1, .int .i64 v2.1.2]), .p (.bool v2.2)] }, List.all [.p (.agg #[.int .i64 v2.1.1, .int .i64 v2.1.2]), .p (.bool v2.2)] simpleR = true] (by kernel_rfl) ⟨rfl, (wk_impl_negated hv1), rfl, rfl, (wk_impl_AddRats hv2), rfl, trivial⟩) ?_
  refine k_ret ?_
  obtain rfl := Option.some.inj h
  exact e_ret (ls := [(.p (.agg #[.int .i64 v2.1.1, .int .i64 v2.1.2]), 4), (.p (.bool v2.2), 5)]) (by kernel_rfl) rfl (by kernel_rfl) rfl
theorem wk_impl_ReduceRat {a0 : (Int × Int)}  {r : ((Int × Int) × Bool)} (h : impl_ReduceRat a0 = some r) : Meets Try.prog 21 [.v (.agg #[.int .i64 a0.1, .int .i64 a0.2])] { vals := [.p (.agg #[.int .i64 r.1.1, .int .i64 r.1.2]), .p (.bool r.2)] } := by
  refine Meets_ofL (by kernel_rfl) Try.func21 rfl (by kernel_rfl) (l0 := [(0, .p (.agg #[.int .i64 a0.1, .int .i64 a0.2]))]) (by kernel_rfl) ?_
  unfold impl_ReduceRat at h
  refine k_sreg (r_go [(1, .box [.raw (.int .i64 a0.1), .raw (.int .i64 a0.2)]), (2, .box [.raw (.int .i64 0), .raw (.int .i64 0)])] [] [] (by kernel_rfl) trivial) ?_
  refine k_seq ?_
  replace h := bind_some' h
  obtain ⟨v1, hv1, h⟩ := h
  refine k_sreg (r_go [(1, .box [.raw (.int .i64 a0.1), .raw (.int .i64 a0.2)]), (2, .box [.raw (.int .i64 0), .raw (.int .i64 0)]), (6, .p (.bool (!v1)))] [(1, {call := some ([.v (.agg #[.int .i64 a0.1, .int .i64 a0.2])], [.p (.bool v1)], true)})] [([.v (.agg #[.int .i64 a0.1, .int .i64 a0.2])] : List Arg) = [.v (.agg #[.int .i64 a0.1, .int .i64 a0.2])], Meets Try.prog 54 ([.v (.agg #[.int .i64 a0.1, .int .i64 a0.2])] ++ []) { vals := [.p (.bool v1)] }, List.all [.p (.bool v1)] simpleR = true] (by kernel_rfl) ⟨rfl, (wk_impl_isFar hv1), rfl, trivial⟩) ?_
  refine k_cond (b := (!v1)) (by kernel_rfl) (fun hc2_1 => ?_) (fun hc2_1 => ?_)
  · replace h := ite_t hc2_1 h
    refine k_sreg (r_go [(2, .box [.raw (.int .i64 0), .raw (.int .i64 0)]), (3, .p (.bool false))] [] [] (by kernel_rfl) trivial) ?_
    refine k_ret ?_
    refine q_r ?_
    obtain rfl := Option.some.inj h
    exact e_ret (ls := [(.p (.agg #[.int .i64 0, .int .i64 0]), 2), (.p (.bool false), 3)]) (by kernel_rfl) rfl (by kernel_rfl) rfl
  · replace h := ite_f hc2_1 h
    refine k_skip ?_
    refine q_n ?_
    replace h := bind_some' h
    obtain ⟨v3, hv3, h⟩ := h
    replace h := bind_some' h
    obtain ⟨v4, hv4, h⟩ := h
    replace h := bind_some' h
    obtain ⟨v5, hv5, h⟩ := h
    refine k_sreg (r_draw Try_mixed 7 [(2, .box [.raw (.int .i64 v5.1.1), .raw (.int .i64 v5.1.2)]), (3, .p (.bool v5.2))] [(2, {call := some ([.v (.agg #[.int .i64 a0.1, .int .i64 a0.2])], [.p (.int .i64 v3)], true)}), (3, {call := some ([.v (.int .i64 v3)], [.p (.agg #[.int .i64 v4.1, .int .i64 v4.2])], true)}), (4, {call := some ([.v (.agg #[.int .i64 a0.1, .int .i64 a0.2]), .v (.agg #[.int .i64 v4.1, .int .i64 v4.2])], [.p (.agg #[.int .i64 v5.1.1, .int .i64 v5.1.2]), .p (.bool v5.2)], true)})] [([.v (.agg #[.int .i64 a0.1, .int .i64 a0.2])] : List Arg) = [.v (.agg #[.int .i64 a0.1, .int .i64 a0.2])], Meets Try.prog 57 ([.v (.agg #[.int .i64 a0.1, .int .i64 a0.2])] ++ []) { vals := [.p (.int .i64 v3)] }, List.all [.p (.int .i64 v3)] simpleR = true, ([.v (.int .i64 v3)] : List Arg) = [.v (.int .i64 v3)], Meets Try.prog 56 ([.v (.int .i64 v3)] ++ []) { vals := [.p (.agg #[.int .i64 v4.1, .int .i64 v4.2])] }, List.all [.p (.agg #[.int .i64 v4.1, .int .i64 v4.2])] simpleR = true, ([.v (.agg #[.int .i64 a0.1, .int .i64 a0.2]), .v (.agg #[.int .i64 v4.1, .int .i64 v4.2])] : List Arg) = [.v (.agg #[.int .i64 a0.1, .int .i64 a0.2]), .v (.agg #[.int .i64 v4.1, .int .i64 v4.2])], Meets Try.prog 55 ([.v (.agg #[.int .i64 a0.1, .int .i64 a0.2]), .v (.agg #[.int .i64 v4.1, .int .i64 v4.2])] ++ []) { vals := [.p (.agg #[.int .i64 v5.1.1, .int .i64 v5.1.2]), .p (.bool v5.2)] }, List.all [.p (.agg #[.int .i64 v5.1.1, .int .i64 v5.1.2]), .p (.bool v5.2)] simpleR = true] (by kernel_rfl) ⟨rfl, (wk_impl_floor hv3), rfl, rfl, (wk_impl_whole hv4), rfl, rfl, (wk_impl_SubtractRats hv5), rfl, trivial⟩) ?_
    refine k_ret ?_
    obtain rfl := Option.some.inj h
    exact e_ret (ls := [(.p (.agg #[.int .i64 v5.1.1, .int .i64 v5.1.2]), 2), (.p (.bool v5.2), 3)]) (by kernel_rfl) rfl (by kernel_rfl) rfl
theorem wk_laws_eqRat {a0 : (Int × Int)} {a1 : (Int × Int)}  {r : Bool} (h : laws_eqRat a0 a1 = some r) : Meets Try.prog 22 [.v (.agg #[.int .i64 a0.1, .int .i64 a0.2]), .v (.agg #[.int .i64 a1.1, .int .i64 a1.2])] { vals := [.p (.bool r)] } := by
  refine Meets_ofL (by kernel_rfl) Try.func22 rfl (by kernel_rfl) (l0 := [(0, .p (.agg #[.int .i64 a0.1, .int .i64 a0.2])), (1, .p (.agg #[.int .i64 a1.1, .int .i64 a1.2]))]) (by kernel_rfl) ?_
  unfold laws_eqRat at h
  refine k_sreg (r_go [(2, .box [.raw (.int .i64 a0.1), .raw (.int .i64 a0.2)]), (3, .box [.raw (.int .i64 a1.1), .raw (.int .i64 a1.2)])] [] [] (by kernel_rfl) trivial) ?_
  refine k_seq ?_
  refine k_sreg (r_go [(2, .box [.raw (.int .i64 a0.1), .raw (.int .i64 a0.2)]), (3, .box [.raw (.int .i64 a1.1), .raw (.int .i64 a1.2)]), (9, .p (.bool (a0.1 != a1.1)))] [] [] (by kernel_rfl) trivial) ?_
  refine k_cond (b := (a0.1 != a1.1)) (by kernel_rfl) (fun hc2_0 => ?_) (fun hc2_0 => ?_)
  · replace h := ite_t hc2_0 h
    refine k_sreg (r_go [(4, .p (.bool false))] [] [] (by kernel_rfl) trivial) ?_
    refine k_ret ?_
    refine q_r ?_
    obtain rfl := Option.some.inj h
    exact e_ret (ls := [(.p (.bool false), 4)]) (by kernel_rfl) rfl (by kernel_rfl) rfl
  · replace h := ite_f hc2_0 h
    refine k_skip ?_
    refine q_n ?_
    refine k_seq ?_
    refine k_sreg (r_go [(14, .p (.bool (a0.2 != a1.2)))] [] [] (by kernel_rfl) trivial) ?_
    refine k_cond (b := (a0.2 != a1.2)) (by kernel_rfl) (fun hc2_1 => ?_) (fun hc2_1 => ?_)
    · replace h := ite_t hc2_1 h
      refine k_sreg (r_go [(4, .p (.bool false))] [] [] (by kernel_rfl) trivial) ?_
      refine k_ret ?_
      refine q_r ?_
      obtain rfl := Option.some.inj h
      exact e_ret (ls := [(.p (.bool false), 4)]) (by kernel_rfl) rfl (by kernel_rfl) rfl
    · replace h := ite_f hc2_1 h
      refine k_skip ?_
      refine q_n ?_
      refine k_sreg (r_go [(4, .p (.bool true))] [] [] (by kernel_rfl) trivial) ?_
      refine k_ret ?_
      obtain rfl := Option.some.inj h
      exact e_ret (ls := [(.p (.bool true), 4)]) (by kernel_rfl) rfl (by kernel_rfl) rfl
theorem wk_laws_FnExactReduceRat {a0 : (Int × Int)}  {r : Bool} (h : laws_FnExactReduceRat a0 = some r) : Meets Try.prog 4 [.v (.agg #[.int .i64 a0.1, .int .i64 a0.2])] { vals := [.p (.bool r)] } := by
  refine Meets_ofL (by kernel_rfl) Try.func4 rfl (by kernel_rfl) (l0 := [(0, .p (.agg #[.int .i64 a0.1, .int .i64 a0.2]))]) (by kernel_rfl) ?_
  unfold laws_FnExactReduceRat at h
  refine k_sreg (r_go [(1, .box [.raw (.int .i64 a0.1), .raw (.int .i64 a0.2)])] [] [] (by kernel_rfl) trivial) ?_
  replace h := bind_some' h
  obtain ⟨v1, hv1, h⟩ := h
  replace h := bind_some' h
  obtain ⟨v2, hv2, h⟩ := h
  refine k_sreg (r_go [(1, .box [.raw (.int .i64 a0.1), .raw (.int .i64 a0.2)]), (3, .box [.raw (.int .i64 v2.1.1), .raw (.int .i64 v2.1.2)]), (4, .p (.bool v2.2))] [(1, {call := some ([.v (.agg #[.int .i64 a0.1, .int .i64 a0.2])], [.p (.agg #[.int .i64 v1.1, .int .i64 v1.2])], true)}), (2, {call := some ([.v (.agg #[.int .i64 v1.1, .int .i64 v1.2])], [.p (.agg #[.int .i64 v2.1.1, .int .i64 v2.1.2]), .p (.bool v2.2)], true)})] [([.v (.agg #[.int .i64 a0.1, .int .i64 a0.2])] : List Arg) = [.v (.agg #[.int .i64 a0.1, .int .i64 a0.2])], Meets Try.prog 20 ([.v (.agg #[.int .i64 a0.1, .int .i64 a0.2])] ++ []) { vals := [.p (.agg #[.int .i64 v1.1, .int .i64 v1.2])] }, List.all [.p (.agg #[.int .i64 v1.1, .int .i64 v1.2])] simpleR = true, ([.v (.agg #[.int .i64 v1.1, .int .i64 v1.2])] : List Arg) = [.v (.agg #[.int .i64 v1.1, .int .i64 v1.2])], Meets Try.prog 19 ([.v (.agg #[.int .i64 v1.1, .int .i64 v1.2])] ++ []) { vals := [.p (.agg #[.int .i64 v2.1.1, .int .i64 v2.1.2]), .p (.bool v2.2)] }, List.all [.p (.agg #[.int .i64 v2.1.1, .int .i64 v2.1.2]), .p (.bool v2.2)] simpleR = true] (by kernel_rfl) ⟨rfl, (wk_laws_toRat hv1), rfl, rfl, (wk_spec_ReduceRat hv2), rfl, trivial⟩) ?_
  replace h := bind_some' h
  obtain ⟨v3, hv3, h⟩ := h
  replace h := bind_some' h
  obtain ⟨v4, hv4, h⟩ := h
  refine k_sreg (r_go [(3, .box [.raw (.int .i64 v2.1.1), .raw (.int .i64 v2.1.2)]), (4, .p (.bool v2.2)), (5, .box [.raw (.int .i64 v4.1.1), .raw (.int .i64 v4.1.2)]), (6, .p (.bool v4.2))] [(1, {call := some ([.v (.agg #[.int .i64 a0.1, .int .i64 a0.2])], [.p (.agg #[.int .i64 v3.1, .int .i64 v3.2])], true)}), (2, {call := some ([.v (.agg #[.int .i64 v3.1, .int .i64 v3.2])], [.p (.agg #[.int .i64 v4.1.1, .int .i64 v4.1.2]), .p (.bool v4.2)], true)})] [([.v (.agg #[.int .i64 a0.1, .int .i64 a0.2])] : List Arg) = [.v (.agg #[.int .i64 a0.1, .int .i64 a0.2])], Meets Try.prog 20 ([.v (.agg #[.int .i64 a0.1, .int .i64 a0.2])] ++ []) { vals := [.p (.agg #[.int .i64 v3.1, .int .i64 v3.2])] }, List.all [.p (.agg #[.int .i64 v3.1, .int .i64 v3.2])] simpleR = true, ([.v (.agg #[.int .i64 v3.1, .int .i64 v3.2])] : List Arg) = [.v (.agg #[.int .i64 v3.1, .int .i64 v3.2])], Meets Try.prog 21 ([.v (.agg #[.int .i64 v3.1, .int .i64 v3.2])] ++ []) { vals := [.p (.agg #[.int .i64 v4.1.1, .int .i64 v4.1.2]), .p (.bool v4.2)] }, List.all [.p (.agg #[.int .i64 v4.1.1, .int .i64 v4.1.2]), .p (.bool v4.2)] simpleR = true] (by kernel_rfl) ⟨rfl, (wk_laws_toRat hv3), rfl, rfl, (wk_impl_ReduceRat hv4), rfl, trivial⟩) ?_
  refine k_seq ?_
  replace h := bind_some' h
  obtain ⟨v5, hv5, h⟩ := h
  refine k_sreg (l1 := [(27, .p (.bool ((!v5) || (!(v4.2 == v2.2)))))]) ?_ ?_
  · rcases Bool.eq_false_or_eq_true (!v5) with ha0 | ha0
    · exact RegOk.of_eq (l2 := [(27, .p (.bool ((!v5) || (!(v4.2 == v2.2)))))]) (r_go [(27, .p (.bool true))] [(2, {call := some ([.v (.agg #[.int .i64 v4.1.1, .int .i64 v4.1.2]), .v (.agg #[.int .i64 v2.1.1, .int .i64 v2.1.2])], [.p (.bool v5)], true)}), (5, {g := some true}), (6, {g := some true}), (7, {g := some true}), (8, {b := some true})] [([.v (.agg #[.int .i64 v4.1.1, .int .i64 v4.1.2]), .v (.agg #[.int .i64 v2.1.1, .int .i64 v2.1.2])] : List Arg) = [.v (.agg #[.int .i64 v4.1.1, .int .i64 v4.1.2]), .v (.agg #[.int .i64 v2.1.1, .int .i64 v2.1.2])], Meets Try.prog 22 ([.v (.agg #[.int .i64 v4.1.1, .int .i64 v4.1.2]), .v (.agg #[.int .i64 v2.1.1, .int .i64 v2.1.2])] ++ []) { vals := [.p (.bool v5)] }, List.all [.p (.bool v5)] simpleR = true, (!v5) = true, (!v5) = true, (!v5) = true, (!v5) = true] (by kernel_rfl) ⟨rfl, (wk_laws_eqRat hv5), rfl, ha0, ha0, ha0, ha0, trivial⟩) (by simp [ha0])
    · exact RegOk.of_eq (l2 := [(27, .p (.bool ((!v5) || (!(v4.2 == v2.2)))))]) (r_go [(27, .p (.bool (!(v4.2 == v2.2))))] [(2, {call := some ([.v (.agg #[.int .i64 v4.1.1, .int .i64 v4.1.2]), .v (.agg #[.int .i64 v2.1.1, .int .i64 v2.1.2])], [.p (.bool v5)], true)}), (5, {g := some false}), (6, {g := some false}), (7, {g := some false}), (8, {b := some false})] [([.v (.agg #[.int .i64 v4.1.1, .int .i64 v4.1.2]), .v (.agg #[.int .i64 v2.1.1, .int .i64 v2.1.2])] : List Arg) = [.v (.agg #[.int .i64 v4.1.1, .int .i64 v4.1.2]), .v (.agg #[.int .i64 v2.1.1, .int .i64 v2.1.2])], Meets Try.prog 22 ([.v (.agg #[.int .i64 v4.1.1, .int .i64 v4.1.2]), .v (.agg #[.int .i64 v2.1.1, .int .i64 v2.1.2])] ++ []) { vals := [.p (.bool v5)] }, List.all [.p (.bool v5)] simpleR = true, (!v5) = false, (!v5) = false, (!v5) = false, (!v5) = false] (by kernel_rfl) ⟨rfl, (wk_laws_eqRat hv5), rfl, ha0, ha0, ha0, ha0, trivial⟩) (by simp [ha0])
  · refine k_cond (b := ((!v5) || (!(v4.2 == v2.2)))) (by kernel_rfl) (fun hc2_5 => ?_) (fun hc2_5 => ?_)
    · replace h := ite_t hc2_5 h
      refine k_sreg (r_go [(2, .p (.bool false))] [] [] (by kernel_rfl) trivial) ?_
      refine k_ret ?_
      refine q_r ?_
      obtain rfl := Option.some.inj h
      exact e_ret (ls := [(.p (.bool false), 2)]) (by kernel_rfl) rfl (by kernel_rfl) rfl
    · replace h := ite_f hc2_5 h
      refine k_skip ?_
      refine q_n ?_
      refine k_sreg (r_go [(2, .p (.bool true))] [] [] (by kernel_rfl) trivial) ?_
      refine k_ret ?_
      obtain rfl := Option.some.inj h
      exact e_ret (ls := [(.p (.bool true), 2)]) (by kernel_rfl) rfl (by kernel_rfl) rfl
end Go.PV

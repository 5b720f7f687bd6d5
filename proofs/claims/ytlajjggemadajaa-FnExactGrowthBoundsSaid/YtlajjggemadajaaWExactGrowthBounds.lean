/-
  Walks through the functions that the law reaches: each answers as its plain definition does.
  Conditions: none.
-/
import Derived.KernelRfl
import Derived.Test.YtlajjggemadajaaWExactGrowthBoundsPartA
import Derived.Test.YtlajjggemadajaaProg
open Go Go.PV Go.Proofs
set_option linter.all false
namespace Go.PV
attribute [local irreducible] pvC pvL pvD sOp seqQ blockQ Meets MeetsB Ok OkL RegOk agree endQ seqL blockL loopQ endL endLB
theorem wk_laws_FnExactGrowthBounds {a0 : (List (List Int))} {a1 : Int}  {r : Bool} (h : laws_FnExactGrowthBounds a0 a1 = some r) : Meets Try.prog 12 [.d false [.sl none (a0.map (eF eI))], .v (.int .i64 a1)] { vals := [.p (.bool r)] } := by
  refine Meets_ofL (by kernel_rfl) Try.func12 rfl (by kernel_rfl) (l0 := [(0, .d false [.sl none (a0.map (eF eI))]), (1, .p (.int .i64 a1))]) (by kernel_rfl) ?_
  unfold laws_FnExactGrowthBounds at h
  refine k_sreg (r_go [(0, .d false [.sl none (a0.map (eF eI))]), (1, .p (.int .i64 a1))] [] [] (by kernel_rfl) trivial) ?_
  refine k_sreg (r_go [(0, .d false [.sl none (a0.map (eF eI))]), (1, .p (.int .i64 a1)), (5, .p (.int .i64 1048576))] [] [] (by kernel_rfl) trivial) ?_
  replace h := bind_some' h
  obtain ⟨v1, hv1, h⟩ := h
  refine k_sreg (r_go [(0, .d false [.sl none (a0.map (eF eI))]), (1, .p (.int .i64 a1)), (5, .p (.int .i64 v1))] [(2, {call := some ([.d false [.sl none (a0.map (eF eI))], .v (.int .i64 1048576)], [.p (.int .i64 v1)], true)})] [([.d false [.sl none (a0.map (eF eI))], .v (.int .i64 1048576)] : List Arg) = [.d false [.sl none (a0.map (eF eI))], .v (.int .i64 1048576)], Meets Try.prog 35 ([.d false [.sl none (a0.map (eF eI))], .v (.int .i64 1048576)] ++ []) { vals := [.p (.int .i64 v1)] }, (!true || List.all [.p (.int .i64 v1)] simpleR) = true] (by kernel_rfl) ⟨rfl, (wk_laws_szIntSS hv1), (bt rfl), trivial⟩) ?_
  refine k_seq ?_
  refine k_sreg (r_go [(0, .d false [.sl none (a0.map (eF eI))]), (1, .p (.int .i64 a1)), (17, .p (.bool (decide (v1 < 0))))] [] [] (by kernel_rfl) trivial) ?_
  refine k_cond (b := (decide (v1 < 0))) (by kernel_rfl) (fun hc2_1 => ?_) (fun hc2_1 => ?_)
  · replace h := ite_t hc2_1 h
    refine k_sreg (r_go [(4, .p (.bool true))] [] [] (by kernel_rfl) trivial) ?_
    refine k_ret ?_
    refine q_r ?_
    obtain rfl := Option.some.inj h
    exact e_ret (ls := [(.p (.bool true), 4)]) (by kernel_rfl) rfl (by kernel_rfl) rfl
  · replace h := ite_f hc2_1 h
    refine k_skip ?_
    refine q_n ?_
    replace h := bind_some' h
    obtain ⟨v3, hv3, h⟩ := h
    replace h := bind_some' h
    obtain ⟨v4, hv4, h⟩ := h
    refine k_sreg (r_go [(0, .d false [.sl none (a0.map (eF eI))]), (1, .p (.int .i64 a1)), (6, .box [.raw (.int .i64 v4.1.1), .raw (.int .i64 v4.1.2)]), (7, .box [.raw (.int .i64 v4.2.1.1), .raw (.int .i64 v4.2.1.2)]), (8, .p (.bool v4.2.2))] [(1, {call := some ([.d false [.sl none (a0.map (eF eI))]], [.ov false [.sl (some 53) (v3.map (eO 3 eI))]], true)}), (3, {call := some ([.d false [.sl none (v3.map (eF eI))], .v (.int .i64 a1)], [.p (.agg #[.int .i64 v4.1.1, .int .i64 v4.1.2]), .p (.agg #[.int .i64 v4.2.1.1, .int .i64 v4.2.1.2]), .p (.bool v4.2.2)], true)})] [([.d false [.sl none (a0.map (eF eI))]] : List Arg) = [.d false [.sl none (a0.map (eF eI))]], Meets Try.prog 37 ([.d false [.sl none (a0.map (eF eI))]] ++ []) { vals := [.ov false [.sl (some 53) (v3.map (eO 3 eI))]] }, (!true || List.all [.ov false [.sl (some 53) (v3.map (eO 3 eI))]] simpleR) = true, ([.d false [.sl none (eraL (v3.map (eO 3 eI)))], .v (.int .i64 a1)] : List Arg) = [.d false [.sl none (v3.map (eF eI))], .v (.int .i64 a1)], Meets Try.prog 46 ([.d false [.sl none (v3.map (eF eI))], .v (.int .i64 a1)] ++ []) { vals := [.p (.agg #[.int .i64 v4.1.1, .int .i64 v4.1.2]), .p (.agg #[.int .i64 v4.2.1.1, .int .i64 v4.2.1.2]), .p (.bool v4.2.2)] }, (!true || List.all [.p (.agg #[.int .i64 v4.1.1, .int .i64 v4.1.2]), .p (.agg #[.int .i64 v4.2.1.1, .int .i64 v4.2.1.2]), .p (.bool v4.2.2)] simpleR) = true] (by kernel_rfl) ⟨rfl, (wk_laws_toIntSS hv3), (bt (sa_o (wnR1 (wnL_enc (wn_O wn_I)) rfl) rfl)), (by simp only [eraL_enc (h := (eF eI)) (era_O er_I)]), (wk_spec_GrowthBounds hv4), (bt rfl), trivial⟩) ?_
    replace h := bind_some' h
    obtain ⟨v5, hv5, h⟩ := h
    refine k_sreg (r_go [(0, .d false [.sl none (a0.map (eF eI))]), (1, .p (.int .i64 a1)), (6, .box [.raw (.int .i64 v4.1.1), .raw (.int .i64 v4.1.2)]), (7, .box [.raw (.int .i64 v4.2.1.1), .raw (.int .i64 v4.2.1.2)]), (8, .p (.bool v4.2.2)), (9, .ov false [.sl (some 53) (v5.map (eO 3 eI))])] [(1, {call := some ([.d false [.sl none (a0.map (eF eI))]], [.ov false [.sl (some 53) (v5.map (eO 3 eI))]], true)})] [([.d false [.sl none (a0.map (eF eI))]] : List Arg) = [.d false [.sl none (a0.map (eF eI))]], Meets Try.prog 37 ([.d false [.sl none (a0.map (eF eI))]] ++ []) { vals := [.ov false [.sl (some 53) (v5.map (eO 3 eI))]] }, (!true || List.all [.ov false [.sl (some 53) (v5.map (eO 3 eI))]] simpleR) = true] (by kernel_rfl) ⟨rfl, (wk_laws_toIntSS hv5), (bt (sa_o (wnR1 (wnL_enc (wn_O wn_I)) rfl) rfl)), trivial⟩) ?_
    replace h := bind_some' h
    obtain ⟨v6, hv6, h⟩ := h
    refine k_sreg (r_go [(0, .d false [.sl none (a0.map (eF eI))]), (6, .box [.raw (.int .i64 v4.1.1), .raw (.int .i64 v4.1.2)]), (7, .box [.raw (.int .i64 v4.2.1.1), .raw (.int .i64 v4.2.1.2)]), (8, .p (.bool v4.2.2)), (9, .ov false [.sl (some 53) (v5.map (eO 3 eI))]), (10, .box [.raw (.int .i64 v6.1.1), .raw (.int .i64 v6.1.2)]), (11, .box [.raw (.int .i64 v6.2.1.1), .raw (.int .i64 v6.2.1.2)]), (12, .p (.bool v6.2.2))] [(2, {call := some ([.d false [.sl none (v5.map (eF eI))], .v (.int .i64 a1)], [.p (.agg #[.int .i64 v6.1.1, .int .i64 v6.1.2]), .p (.agg #[.int .i64 v6.2.1.1, .int .i64 v6.2.1.2]), .p (.bool v6.2.2)], true)})] [([.d false [.sl none (eraL (v5.map (eO 3 eI)))], .v (.int .i64 a1)] : List Arg) = [.d false [.sl none (v5.map (eF eI))], .v (.int .i64 a1)], Meets Try.prog 47 ([.d false [.sl none (v5.map (eF eI))], .v (.int .i64 a1)] ++ []) { vals := [.p (.agg #[.int .i64 v6.1.1, .int .i64 v6.1.2]), .p (.agg #[.int .i64 v6.2.1.1, .int .i64 v6.2.1.2]), .p (.bool v6.2.2)] }, (!true || List.all [.p (.agg #[.int .i64 v6.1.1, .int .i64 v6.1.2]), .p (.agg #[.int .i64 v6.2.1.1, .int .i64 v6.2.1.2]), .p (.bool v6.2.2)] simpleR) = true] (by kernel_rfl) ⟨(by simp only [eraL_enc (h := (eF eI)) (era_O er_I)]), (wk_impl_GrowthBounds hv6), (bt rfl), trivial⟩) ?_
    refine k_seq ?_
    replace h := bind_some' h
    obtain ⟨v7, hv7, h⟩ := h
    replace h := bind_some' h
    obtain ⟨w9, hw9, h⟩ := h
    refine k_sreg (l1 := [(0, .d false [.sl none (a0.map (eF eI))]), (9, .ov false [.sl (some 53) (v5.map (eO 3 eI))]), (49, .p (.bool w9))]) ?_ ?_
    · clear h
      rcases Bool.eq_false_or_eq_true (!v7) with ha1 | ha1
      · replace hw9 := ite_t ha1 hw9
        have hw9 := Option.some.inj hw9
        subst hw9
        exact (r_go [(0, .d false [.sl none (a0.map (eF eI))]), (9, .ov false [.sl (some 53) (v5.map (eO 3 eI))]), (49, .p (.bool true))] [(2, {call := some ([.v (.agg #[.int .i64 v6.1.1, .int .i64 v6.1.2]), .v (.agg #[.int .i64 v4.1.1, .int .i64 v4.1.2])], [.p (.bool v7)], true)}), (5, {g := some true}), (6, {g := some true}), (7, {g := some true}), (8, {g := some true}), (9, {b := some true}), (11, {g := some true}), (12, {g := some true}), (13, {g := some true}), (14, {b := some true})] [([.v (.agg #[.int .i64 v6.1.1, .int .i64 v6.1.2]), .v (.agg #[.int .i64 v4.1.1, .int .i64 v4.1.2])] : List Arg) = [.v (.agg #[.int .i64 v6.1.1, .int .i64 v6.1.2]), .v (.agg #[.int .i64 v4.1.1, .int .i64 v4.1.2])], Meets Try.prog 31 ([.v (.agg #[.int .i64 v6.1.1, .int .i64 v6.1.2]), .v (.agg #[.int .i64 v4.1.1, .int .i64 v4.1.2])] ++ []) { vals := [.p (.bool v7)] }, (!true || List.all [.p (.bool v7)] simpleR) = true, (!v7) = true, (!v7) = true, (!v7) = true, (!v7) = true, (!v7) = true, true = true, true = true, true = true, true = true] (by kernel_rfl) ⟨rfl, (wk_laws_eqRat hv7), (bt rfl), ha1, ha1, ha1, ha1, ha1, rfl, rfl, rfl, rfl, trivial⟩)
      · replace hw9 := ite_f ha1 hw9
        replace hw9 := bind_some' hw9
        obtain ⟨v8, hv8, hw9⟩ := hw9
        rcases Bool.eq_false_or_eq_true (!v8) with ha2 | ha2
        · replace hw9 := ite_t ha2 hw9
          have hw9 := Option.some.inj hw9
          subst hw9
          exact (r_go [(0, .d false [.sl none (a0.map (eF eI))]), (9, .ov false [.sl (some 53) (v5.map (eO 3 eI))]), (49, .p (.bool true))] [(2, {call := some ([.v (.agg #[.int .i64 v6.1.1, .int .i64 v6.1.2]), .v (.agg #[.int .i64 v4.1.1, .int .i64 v4.1.2])], [.p (.bool v7)], true)}), (5, {g := some false}), (6, {g := some false}), (7, {g := some false, call := some ([.v (.agg #[.int .i64 v6.2.1.1, .int .i64 v6.2.1.2]), .v (.agg #[.int .i64 v4.2.1.1, .int .i64 v4.2.1.2])], [.p (.bool v8)], true)}), (8, {g := some false}), (9, {b := some false}), (11, {g := some true}), (12, {g := some true}), (13, {g := some true}), (14, {b := some true})] [([.v (.agg #[.int .i64 v6.1.1, .int .i64 v6.1.2]), .v (.agg #[.int .i64 v4.1.1, .int .i64 v4.1.2])] : List Arg) = [.v (.agg #[.int .i64 v6.1.1, .int .i64 v6.1.2]), .v (.agg #[.int .i64 v4.1.1, .int .i64 v4.1.2])], Meets Try.prog 31 ([.v (.agg #[.int .i64 v6.1.1, .int .i64 v6.1.2]), .v (.agg #[.int .i64 v4.1.1, .int .i64 v4.1.2])] ++ []) { vals := [.p (.bool v7)] }, (!true || List.all [.p (.bool v7)] simpleR) = true, (!v7) = false, (!v7) = false, (!v7) = false, ([.v (.agg #[.int .i64 v6.2.1.1, .int .i64 v6.2.1.2]), .v (.agg #[.int .i64 v4.2.1.1, .int .i64 v4.2.1.2])] : List Arg) = [.v (.agg #[.int .i64 v6.2.1.1, .int .i64 v6.2.1.2]), .v (.agg #[.int .i64 v4.2.1.1, .int .i64 v4.2.1.2])], Meets Try.prog 31 ([.v (.agg #[.int .i64 v6.2.1.1, .int .i64 v6.2.1.2]), .v (.agg #[.int .i64 v4.2.1.1, .int .i64 v4.2.1.2])] ++ []) { vals := [.p (.bool v8)] }, (!true || List.all [.p (.bool v8)] simpleR) = true, (!v7) = false, (!v7) = false, (!v8) = true, (!v8) = true, (!v8) = true, (!v8) = true] (by kernel_rfl) ⟨rfl, (wk_laws_eqRat hv7), (bt rfl), ha1, ha1, ha1, rfl, (wk_laws_eqRat hv8), (bt rfl), ha1, ha1, ha2, ha2, ha2, ha2, trivial⟩)
        · replace hw9 := ite_f ha2 hw9
          have hw9 := Option.some.inj hw9
          subst hw9
          exact (r_go [(0, .d false [.sl none (a0.map (eF eI))]), (9, .ov false [.sl (some 53) (v5.map (eO 3 eI))]), (49, .p (.bool (!(v6.2.2 == v4.2.2))))] [(2, {call := some ([.v (.agg #[.int .i64 v6.1.1, .int .i64 v6.1.2]), .v (.agg #[.int .i64 v4.1.1, .int .i64 v4.1.2])], [.p (.bool v7)], true)}), (5, {g := some false}), (6, {g := some false}), (7, {g := some false, call := some ([.v (.agg #[.int .i64 v6.2.1.1, .int .i64 v6.2.1.2]), .v (.agg #[.int .i64 v4.2.1.1, .int .i64 v4.2.1.2])], [.p (.bool v8)], true)}), (8, {g := some false}), (9, {b := some false}), (11, {g := some false}), (12, {g := some false}), (13, {g := some false}), (14, {b := some false})] [([.v (.agg #[.int .i64 v6.1.1, .int .i64 v6.1.2]), .v (.agg #[.int .i64 v4.1.1, .int .i64 v4.1.2])] : List Arg) = [.v (.agg #[.int .i64 v6.1.1, .int .i64 v6.1.2]), .v (.agg #[.int .i64 v4.1.1, .int .i64 v4.1.2])], Meets Try.prog 31 ([.v (.agg #[.int .i64 v6.1.1, .int .i64 v6.1.2]), .v (.agg #[.int .i64 v4.1.1, .int .i64 v4.1.2])] ++ []) { vals := [.p (.bool v7)] }, (!true || List.all [.p (.bool v7)] simpleR) = true, (!v7) = false, (!v7) = false, (!v7) = false, ([.v (.agg #[.int .i64 v6.2.1.1, .int .i64 v6.2.1.2]), .v (.agg #[.int .i64 v4.2.1.1, .int .i64 v4.2.1.2])] : List Arg) = [.v (.agg #[.int .i64 v6.2.1.1, .int .i64 v6.2.1.2]), .v (.agg #[.int .i64 v4.2.1.1, .int .i64 v4.2.1.2])], Meets Try.prog 31 ([.v (.agg #[.int .i64 v6.2.1.1, .int .i64 v6.2.1.2]), .v (.agg #[.int .i64 v4.2.1.1, .int .i64 v4.2.1.2])] ++ []) { vals := [.p (.bool v8)] }, (!true || List.all [.p (.bool v8)] simpleR) = true, (!v7) = false, (!v7) = false, (!v8) = false, (!v8) = false, (!v8) = false, (!v8) = false] (by kernel_rfl) ⟨rfl, (wk_laws_eqRat hv7), (bt rfl), ha1, ha1, ha1, rfl, (wk_laws_eqRat hv8), (bt rfl), ha1, ha1, ha2, ha2, ha2, ha2, trivial⟩)
    · refine k_cond (b := w9) (by kernel_rfl) (fun hc2_9 => ?_) (fun hc2_9 => ?_)
      · replace h := ite_t hc2_9 h
        refine k_sreg (r_go [(4, .p (.bool false))] [] [] (by kernel_rfl) trivial) ?_
        refine k_ret ?_
        refine q_r ?_
        obtain rfl := Option.some.inj h
        exact e_ret (ls := [(.p (.bool false), 4)]) (by kernel_rfl) rfl (by kernel_rfl) rfl
      · replace h := ite_f hc2_9 h
        refine k_skip ?_
        refine q_n ?_
        refine k_seq ?_
        replace h := bind_some' h
        obtain ⟨v11, hv11, h⟩ := h
        replace h := bind_some' h
        obtain ⟨v12, hv12, h⟩ := h
        refine k_sreg (r_go [(54, .p (.bool (!v12)))] [(2, {call := some ([.d false [.sl none (a0.map (eF eI))]], [.ov false [.sl (some 53) (v11.map (eO 3 eI))]], true)}), (3, {call := some ([.d false [.sl none (v5.map (eF eI))], .d false [.sl none (v11.map (eF eI))]], [.p (.bool v12)], true)})] [([.d false [.sl none (a0.map (eF eI))]] : List Arg) = [.d false [.sl none (a0.map (eF eI))]], Meets Try.prog 37 ([.d false [.sl none (a0.map (eF eI))]] ++ []) { vals := [.ov false [.sl (some 53) (v11.map (eO 3 eI))]] }, (!true || List.all [.ov false [.sl (some 53) (v11.map (eO 3 eI))]] simpleR) = true, ([.d false [.sl none (eraL (v5.map (eO 3 eI)))], .d false [.sl none (eraL (v11.map (eO 3 eI)))]] : List Arg) = [.d false [.sl none (v5.map (eF eI))], .d false [.sl none (v11.map (eF eI))]], Meets Try.prog 40 ([.d false [.sl none (v5.map (eF eI))], .d false [.sl none (v11.map (eF eI))]] ++ []) { vals := [.p (.bool v12)] }, (!true || List.all [.p (.bool v12)] simpleR) = true] (by kernel_rfl) ⟨rfl, (wk_laws_toIntSS hv11), (bt (sa_o (wnR1 (wnL_enc (wn_O wn_I)) rfl) rfl)), (by simp only [eraL_enc (h := (eF eI)) (era_O er_I), eraL_enc (h := (eF eI)) (era_O er_I)]), (wk_laws_eqIntSS hv12), (bt rfl), trivial⟩) ?_
        refine k_cond (b := (!v12)) (by kernel_rfl) (fun hc2_12 => ?_) (fun hc2_12 => ?_)
        · replace h := ite_t hc2_12 h
          refine k_sreg (r_go [(4, .p (.bool false))] [] [] (by kernel_rfl) trivial) ?_
          refine k_ret ?_
          refine q_r ?_
          obtain rfl := Option.some.inj h
          exact e_ret (ls := [(.p (.bool false), 4)]) (by kernel_rfl) rfl (by kernel_rfl) rfl
        · replace h := ite_f hc2_12 h
          refine k_skip ?_
          refine q_n ?_
          refine k_sreg (r_go [(4, .p (.bool true))] [] [] (by kernel_rfl) trivial) ?_
          refine k_ret ?_
          obtain rfl := Option.some.inj h
          exact e_ret (ls := [(.p (.bool true), 4)]) (by kernel_rfl) rfl (by kernel_rfl) rfl
end Go.PV

/-
  Walks through the functions that the law reaches: each answers as its plain definition does.
  Conditions: none.
-/
import Derived.KernelRfl
import Derived.Test.YtlajjggemadajaaWExactPlateausOfPartA
import Derived.Test.YtlajjggemadajaaProg
open Go Go.PV Go.Proofs
set_option linter.all false
namespace Go.PV
attribute [local irreducible] pvC pvL pvD sOp seqQ blockQ Meets MeetsB Ok OkL RegOk agree endQ seqL blockL loopQ endL endLB
theorem wk_laws_FnExactPlateausOf {a0 : (List Qp)}  {r : Bool} (h : laws_FnExactPlateausOf a0 = some r) : Meets Try.prog 6 [.d true [.sl none (a0.map ePt)]] { vals := [.p (.bool r)] } := by
 refine Meets_ofL (by kernel_rfl) Try.func6 rfl (by kernel_rfl) (l0 := [(0, .d true [.sl none (a0.map ePt)])]) (by kernel_rfl) ?_
 unfold laws_FnExactPlateausOf at h
 refine k_sreg (r_go [(1, .box [.sl none (a0.map ePt)])] [] [] (by kernel_rfl) trivial) ?_
 refine k_sreg (r_go [(1, .box [.sl none (a0.map ePt)]), (3, .p (.int .i64 1048576))] [] [] (by kernel_rfl) trivial) ?_
 replace h := bind_some' h
 obtain ⟨v1, hv1, h⟩ := h
 refine k_sreg (r_go [(1, .box [.sl none (a0.map ePt)]), (3, .p (.int .i64 v1))] [(0, {b := some true}), (2, {call := some ([.d true [.sl none (a0.map ePt)], .v (.int .i64 1048576)], [.p (.int .i64 v1)], true)})] [frR [.sl none (a0.map ePt)] = true, ([.d true [.sl none (a0.map ePt)], .v (.int .i64 1048576)] : List Arg) = [.d true [.sl none (a0.map ePt)], .v (.int .i64 1048576)], Meets Try.prog 13 ([.d true [.sl none (a0.map ePt)], .v (.int .i64 1048576)] ++ []) { vals := [.p (.int .i64 v1)] }, (!true || List.all [.p (.int .i64 v1)] simpleR) = true] (by kernel_rfl) ⟨(frR1 (frL_enc (fr_P (fr_P fr_I fr_I) (fr_P fr_I fr_I))) rfl), rfl, (wk_laws_szLift hv1), (bt rfl), trivial⟩) ?_
 refine k_seq ?_
 refine k_sreg (r_go [(1, .box [.sl none (a0.map ePt)]), (18, .p (.bool (decide (v1 < 0))))] [] [] (by kernel_rfl) trivial) ?_
 refine k_cond (b := (decide (v1 < 0))) (by kernel_rfl) (fun hc2_1 => ?_) (fun hc2_1 => ?_)
 ·replace h := ite_t hc2_1 h
  refine k_sreg (r_go [(2, .p (.bool true))] [] [] (by kernel_rfl) trivial) ?_
  refine k_ret ?_
  refine q_r ?_
  obtain rfl := Option.some.inj h
  exact e_ret (ls := [(.p (.bool true), 2)]) (by kernel_rfl) rfl (by kernel_rfl) rfl
 ·replace h := ite_f hc2_1 h
  refine k_skip ?_
  refine q_n ?_
  replace h := bind_some' h
  obtain ⟨v3, hv3, h⟩ := h
  replace h := bind_some' h
  obtain ⟨v4, hv4, h⟩ := h
  refine k_sreg (r_go [(1, .box [.sl none (a0.map ePt)]), (4, .ov false [.sl (some 79) (v4.1.map ePt)]), (5, .p (.bool v4.2))] [(0, {b := some true}), (1, {call := some ([.d true [.sl none (a0.map ePt)]], [.ov true [.sl (some 71) (v3.map ePt)]], true)}), (2, {call := some ([.d true [.sl none (v3.map ePt)]], [.ov false [.sl (some 79) (v4.1.map ePt)], .p (.bool v4.2)], true)})] [frR [.sl none (a0.map ePt)] = true, ([.d true [.sl none (a0.map ePt)]] : List Arg) = [.d true [.sl none (a0.map ePt)]], Meets Try.prog 15 ([.d true [.sl none (a0.map ePt)]] ++ []) { vals := [.ov true [.sl (some 71) (v3.map ePt)]] }, (!true || List.all [.ov true [.sl (some 71) (v3.map ePt)]] simpleR) = true, ([.d true [.sl none (eraL (v3.map ePt))]] : List Arg) = [.d true [.sl none (v3.map ePt)]], Meets Try.prog 24 ([.d true [.sl none (v3.map ePt)]] ++ []) { vals := [.ov false [.sl (some 79) (v4.1.map ePt)], .p (.bool v4.2)] }, (!true || List.all [.ov false [.sl (some 79) (v4.1.map ePt)], .p (.bool v4.2)] simpleR) = true] (by kernel_rfl) ⟨(frR1 (frL_enc (fr_P (fr_P fr_I fr_I) (fr_P fr_I fr_I))) rfl), rfl, (wk_laws_toLift hv3), (bt (sa_o (wnR1 (wnL_enc (wn_P (wn_P wn_I wn_I) (wn_P wn_I wn_I))) rfl) rfl)), (by simp only [eraL_enc (h := ePt) (era_P (era_P er_I er_I) (era_P er_I er_I))]), (wk_spec_PlateausOf hv4), (bt (sa_o (wnR1 (wnL_enc (wn_P (wn_P wn_I wn_I) (wn_P wn_I wn_I))) rfl) (sa_p rfl))), trivial⟩) ?_
  replace h := bind_some' h
  obtain ⟨v5, hv5, h⟩ := h
  refine k_sreg (r_go [(1, .box [.sl none (a0.map ePt)]), (4, .ov false [.sl (some 79) (v4.1.map ePt)]), (5, .p (.bool v4.2)), (6, .box [.sl (some 71) (v5.map ePt)])] [(0, {b := some true}), (1, {call := some ([.d true [.sl none (a0.map ePt)]], [.ov true [.sl (some 71) (v5.map ePt)]], true)})] [frR [.sl none (a0.map ePt)] = true, ([.d true [.sl none (a0.map ePt)]] : List Arg) = [.d true [.sl none (a0.map ePt)]], Meets Try.prog 15 ([.d true [.sl none (a0.map ePt)]] ++ []) { vals := [.ov true [.sl (some 71) (v5.map ePt)]] }, (!true || List.all [.ov true [.sl (some 71) (v5.map ePt)]] simpleR) = true] (by kernel_rfl) ⟨(frR1 (frL_enc (fr_P (fr_P fr_I fr_I) (fr_P fr_I fr_I))) rfl), rfl, (wk_laws_toLift hv5), (bt (sa_o (wnR1 (wnL_enc (wn_P (wn_P wn_I wn_I) (wn_P wn_I wn_I))) rfl) rfl)), trivial⟩) ?_
  replace h := bind_some' h
  obtain ⟨v6, hv6, h⟩ := h
  refine k_sreg (r_go [(1, .box [.sl none (a0.map ePt)]), (4, .ov false [.sl (some 79) (v4.1.map ePt)]), (5, .p (.bool v4.2)), (6, .box [.sl (some 71) (v5.map ePt)]), (7, .ov false [.sl (some 79) (v6.1.map ePt)]), (8, .p (.bool v6.2))] [(1, {call := some ([.d true [.sl none (v5.map ePt)]], [.ov false [.sl (some 79) (v6.1.map ePt)], .p (.bool v6.2)], true)})] [frR [.sl (some 71) (v5.map ePt)] = false, ([.d true [.sl none (eraL (v5.map ePt))]] : List Arg) = [.d true [.sl none (v5.map ePt)]], Meets Try.prog 25 ([.d true [.sl none (v5.map ePt)]] ++ []) { vals := [.ov false [.sl (some 79) (v6.1.map ePt)], .p (.bool v6.2)] }, (!true || List.all [.ov false [.sl (some 79) (v6.1.map ePt)], .p (.bool v6.2)] simpleR) = true] (by kernel_rfl) ⟨rfl, (by simp only [eraL_enc (h := ePt) (era_P (era_P er_I er_I) (era_P er_I er_I))]), (wk_impl_PlateausOf hv6), (bt (sa_o (wnR1 (wnL_enc (wn_P (wn_P wn_I wn_I) (wn_P wn_I wn_I))) rfl) (sa_p rfl))), trivial⟩) ?_
  refine k_seq ?_
  replace h := bind_some' h
  obtain ⟨v7, hv7, h⟩ := h
  refine k_sreg (l1 := [(1, .box [.sl none (a0.map ePt)]), (4, .ov false [.sl (some 79) (v4.1.map ePt)]), (5, .p (.bool v4.2)), (6, .box [.sl (some 71) (v5.map ePt)]), (7, .ov false [.sl (some 79) (v6.1.map ePt)]), (8, .p (.bool v6.2)), (40, .p (.bool ((!v7) || (!(v6.2 == v4.2)))))]) ?_ ?_
  ·rcases Bool.eq_false_or_eq_true (!v7) with ha1 | ha1
   ·exact RegOk.of_eq (l2 := [(1, .box [.sl none (a0.map ePt)]), (4, .ov false [.sl (some 79) (v4.1.map ePt)]), (5, .p (.bool v4.2)), (6, .box [.sl (some 71) (v5.map ePt)]), (7, .ov false [.sl (some 79) (v6.1.map ePt)]), (8, .p (.bool v6.2)), (40, .p (.bool ((!v7) || (!(v6.2 == v4.2)))))]) (r_go [(1, .box [.sl none (a0.map ePt)]), (4, .ov false [.sl (some 79) (v4.1.map ePt)]), (5, .p (.bool v4.2)), (6, .box [.sl (some 71) (v5.map ePt)]), (7, .ov false [.sl (some 79) (v6.1.map ePt)]), (8, .p (.bool v6.2)), (40, .p (.bool true))] [(2, {call := some ([.d false [.sl none (v6.1.map ePt)], .d false [.sl none (v4.1.map ePt)]], [.p (.bool v7)], true)}), (5, {g := some true}), (6, {g := some true}), (7, {g := some true}), (8, {b := some true})] [([.d false [.sl none (eraL (v6.1.map ePt))], .d false [.sl none (eraL (v4.1.map ePt))]] : List Arg) = [.d false [.sl none (v6.1.map ePt)], .d false [.sl none (v4.1.map ePt)]], Meets Try.prog 26 ([.d false [.sl none (v6.1.map ePt)], .d false [.sl none (v4.1.map ePt)]] ++ []) { vals := [.p (.bool v7)] }, (!true || List.all [.p (.bool v7)] simpleR) = true, (!v7) = true, (!v7) = true, (!v7) = true, (!v7) = true] (by kernel_rfl) ⟨(by simp only [eraL_enc (h := ePt) (era_P (era_P er_I er_I) (era_P er_I er_I)), eraL_enc (h := ePt) (era_P (era_P er_I er_I) (era_P er_I er_I))]), (wk_laws_eqIntervalS hv7), (bt rfl), ha1, ha1, ha1, ha1, trivial⟩) (by simp [ha1])
   ·exact RegOk.of_eq (l2 := [(1, .box [.sl none (a0.map ePt)]), (4, .ov false [.sl (some 79) (v4.1.map ePt)]), (5, .p (.bool v4.2)), (6, .box [.sl (some 71) (v5.map ePt)]), (7, .ov false [.sl (some 79) (v6.1.map ePt)]), (8, .p (.bool v6.2)), (40, .p (.bool ((!v7) || (!(v6.2 == v4.2)))))]) (r_go [(1, .box [.sl none (a0.map ePt)]), (4, .ov false [.sl (some 79) (v4.1.map ePt)]), (5, .p (.bool v4.2)), (6, .box [.sl (some 71) (v5.map ePt)]), (7, .ov false [.sl (some 79) (v6.1.map ePt)]), (8, .p (.bool v6.2)), (40, .p (.bool (!(v6.2 == v4.2))))] [(2, {call := some ([.d false [.sl none (v6.1.map ePt)], .d false [.sl none (v4.1.map ePt)]], [.p (.bool v7)], true)}), (5, {g := some false}), (6, {g := some false}), (7, {g := some false}), (8, {b := some false})] [([.d false [.sl none (eraL (v6.1.map ePt))], .d false [.sl none (eraL (v4.1.map ePt))]] : List Arg) = [.d false [.sl none (v6.1.map ePt)], .d false [.sl none (v4.1.map ePt)]], Meets Try.prog 26 ([.d false [.sl none (v6.1.map ePt)], .d false [.sl none (v4.1.map ePt)]] ++ []) { vals := [.p (.bool v7)] }, (!true || List.all [.p (.bool v7)] simpleR) = true, (!v7) = false, (!v7) = false, (!v7) = false, (!v7) = false] (by kernel_rfl) ⟨(by simp only [eraL_enc (h := ePt) (era_P (era_P er_I er_I) (era_P er_I er_I)), eraL_enc (h := ePt) (era_P (era_P er_I er_I) (era_P er_I er_I))]), (wk_laws_eqIntervalS hv7), (bt rfl), ha1, ha1, ha1, ha1, trivial⟩) (by simp [ha1])
  ·refine k_cond (b := ((!v7) || (!(v6.2 == v4.2)))) (by kernel_rfl) (fun hc2_7 => ?_) (fun hc2_7 => ?_)
   ·replace h := ite_t hc2_7 h
    refine k_sreg (r_go [(2, .p (.bool false))] [] [] (by kernel_rfl) trivial) ?_
    refine k_ret ?_
    refine q_r ?_
    obtain rfl := Option.some.inj h
    exact e_ret (ls := [(.p (.bool false), 2)]) (by kernel_rfl) rfl (by kernel_rfl) rfl
   ·replace h := ite_f hc2_7 h
    refine k_skip ?_
    refine q_n ?_
    refine k_seq ?_
    replace h := bind_some' h
    obtain ⟨v9, hv9, h⟩ := h
    replace h := bind_some' h
    obtain ⟨v10, hv10, h⟩ := h
    refine k_sreg (r_draw Try_mixed 3 [] [(1, .box [.sl none (a0.map ePt)]), (4, .ov false [.sl (some 79) (v4.1.map ePt)]), (5, .p (.bool v4.2)), (6, .box [.sl (some 71) (v5.map ePt)]), (7, .ov false [.sl (some 79) (v6.1.map ePt)]), (8, .p (.bool v6.2)), (45, .p (.bool (!v10)))] [(1, {b := some true}), (2, {call := some ([.d true [.sl none (a0.map ePt)]], [.ov true [.sl (some 71) (v9.map ePt)]], true)}), (3, {call := some ([.d true [.sl none (v5.map ePt)], .d true [.sl none (v9.map ePt)]], [.p (.bool v10)], true)})] [frR [.sl (some 71) (v5.map ePt)] = false, frR [.sl none (a0.map ePt)] = true, ([.d true [.sl none (a0.map ePt)]] : List Arg) = [.d true [.sl none (a0.map ePt)]], Meets Try.prog 15 ([.d true [.sl none (a0.map ePt)]] ++ []) { vals := [.ov true [.sl (some 71) (v9.map ePt)]] }, (!true || List.all [.ov true [.sl (some 71) (v9.map ePt)]] simpleR) = true, ([.d true [.sl none (eraL (v5.map ePt))], .d true [.sl none (eraL (v9.map ePt))]] : List Arg) = [.d true [.sl none (v5.map ePt)], .d true [.sl none (v9.map ePt)]], Meets Try.prog 17 ([.d true [.sl none (v5.map ePt)], .d true [.sl none (v9.map ePt)]] ++ []) { vals := [.p (.bool v10)] }, (!true || List.all [.p (.bool v10)] simpleR) = true] (by kernel_rfl) ⟨rfl, (frR1 (frL_enc (fr_P (fr_P fr_I fr_I) (fr_P fr_I fr_I))) rfl), rfl, (wk_laws_toLift hv9), (bt (sa_o (wnR1 (wnL_enc (wn_P (wn_P wn_I wn_I) (wn_P wn_I wn_I))) rfl) rfl)), (by simp only [eraL_enc (h := ePt) (era_P (era_P er_I er_I) (era_P er_I er_I)), eraL_enc (h := ePt) (era_P (era_P er_I er_I) (era_P er_I er_I))]), (wk_laws_eqLift hv10), (bt rfl), trivial⟩) ?_
    refine k_cond (b := (!v10)) (by kernel_rfl) (fun hc2_10 => ?_) (fun hc2_10 => ?_)
    ·replace h := ite_t hc2_10 h
     refine k_sreg (r_go [(2, .p (.bool false))] [] [] (by kernel_rfl) trivial) ?_
     refine k_ret ?_
     refine q_r ?_
     obtain rfl := Option.some.inj h
     exact e_ret (ls := [(.p (.bool false), 2)]) (by kernel_rfl) rfl (by kernel_rfl) rfl
    ·replace h := ite_f hc2_10 h
     refine k_skip ?_
     refine q_n ?_
     refine k_sreg (r_go [(1, .box [.sl none (a0.map ePt)]), (4, .ov false [.sl (some 79) (v4.1.map ePt)]), (5, .p (.bool v4.2)), (6, .box [.sl (some 71) (v5.map ePt)]), (7, .ov false [.sl (some 79) (v6.1.map ePt)]), (8, .p (.bool v6.2)), (9, .p (.int .i64 1))] [] [] (by kernel_rfl) trivial) ?_
     replace h := bind_some' h
     obtain ⟨v12, hv12, h⟩ := h
     refine k_sreg (r_go [(1, .box [.sl none (a0.map ePt)]), (4, .ov false [.sl (some 79) (v4.1.map ePt)]), (5, .p (.bool v4.2)), (7, .ov false [.sl (some 79) (v6.1.map ePt)]), (8, .p (.bool v6.2)), (9, .p (.int .i64 v12.1))] [(2, {lend := some ([.v (.int .i64 1)], [.p (.int .i64 v12.1)], .ov true [.sl (some 71) (v12.2.map ePt)], true)})] [frR [.sl (some 71) (v5.map ePt)] = false, ([.v (.int .i64 1)] : List Arg) = [.v (.int .i64 1)], MeetsB Try.prog 22 (.ov true [.sl (some 71) (v5.map ePt)]) [.v (.int .i64 1)] [.p (.int .i64 v12.1)] (.ov true [.sl (some 71) (v12.2.map ePt)]), (!true || (List.all [.p (.int .i64 v12.1)] simpleR && wnS (.ov true [.sl (some 71) (v12.2.map ePt)]))) = true] (by kernel_rfl) ⟨rfl, rfl, (wk_laws_markLift hv12), (bt (ls_t rfl (wnR1 (wnL_enc (wn_P (wn_P wn_I wn_I) (wn_P wn_I wn_I))) rfl))), trivial⟩) ?_
     refine k_seq ?_
     replace h := bind_some' h
     obtain ⟨w14, hw14, h⟩ := h
     refine k_sreg (l1 := [(1, .box [.sl none (a0.map ePt)]), (4, .ov false [.sl (some 79) (v4.1.map ePt)]), (5, .p (.bool v4.2)), (7, .ov false [.sl (some 79) (v6.1.map ePt)]), (61, .p (.bool w14))]) ?_ ?_
     ·clear h
      rcases Bool.eq_false_or_eq_true (decide (v12.1 < 0)) with ha3 | ha3
      ·replace hw14 := ite_t ha3 hw14
       have hw14 := Option.some.inj hw14
       subst hw14
       exact (r_go [(1, .box [.sl none (a0.map ePt)]), (4, .ov false [.sl (some 79) (v4.1.map ePt)]), (5, .p (.bool v4.2)), (7, .ov false [.sl (some 79) (v6.1.map ePt)]), (61, .p (.bool true))] [(3, {g := some true}), (4, {g := some true}), (5, {g := some true}), (6, {g := some true}), (7, {b := some true}), (9, {g := some true}), (10, {g := some true}), (11, {g := some true}), (12, {b := some true})] [(decide (v12.1 < 0)) = true, (decide (v12.1 < 0)) = true, (decide (v12.1 < 0)) = true, (decide (v12.1 < 0)) = true, (decide (v12.1 < 0)) = true, true = true, true = true, true = true, true = true] (by kernel_rfl) ⟨ha3, ha3, ha3, ha3, ha3, rfl, rfl, rfl, rfl, trivial⟩)
      ·replace hw14 := ite_f ha3 hw14
       replace hw14 := bind_some' hw14
       obtain ⟨v13, hv13, hw14⟩ := hw14
       rcases Bool.eq_false_or_eq_true (!v13) with ha4 | ha4
       ·replace hw14 := ite_t ha4 hw14
        have hw14 := Option.some.inj hw14
        subst hw14
        exact (r_go [(1, .box [.sl none (a0.map ePt)]), (4, .ov false [.sl (some 79) (v4.1.map ePt)]), (5, .p (.bool v4.2)), (7, .ov false [.sl (some 79) (v6.1.map ePt)]), (61, .p (.bool true))] [(3, {g := some false}), (4, {g := some false}), (5, {g := some false, call := some ([.d false [.sl none (v6.1.map ePt)], .d false [.sl none (v4.1.map ePt)]], [.p (.bool v13)], true)}), (6, {g := some false}), (7, {b := some false}), (9, {g := some true}), (10, {g := some true}), (11, {g := some true}), (12, {b := some true})] [(decide (v12.1 < 0)) = false, (decide (v12.1 < 0)) = false, (decide (v12.1 < 0)) = false, ([.d false [.sl none (eraL (v6.1.map ePt))], .d false [.sl none (eraL (v4.1.map ePt))]] : List Arg) = [.d false [.sl none (v6.1.map ePt)], .d false [.sl none (v4.1.map ePt)]], Meets Try.prog 26 ([.d false [.sl none (v6.1.map ePt)], .d false [.sl none (v4.1.map ePt)]] ++ []) { vals := [.p (.bool v13)] }, (!true || List.all [.p (.bool v13)] simpleR) = true, (decide (v12.1 < 0)) = false, (decide (v12.1 < 0)) = false, (!v13) = true, (!v13) = true, (!v13) = true, (!v13) = true] (by kernel_rfl) ⟨ha3, ha3, ha3, (by simp only [eraL_enc (h := ePt) (era_P (era_P er_I er_I) (era_P er_I er_I)), eraL_enc (h := ePt) (era_P (era_P er_I er_I) (era_P er_I er_I))]), (wk_laws_eqIntervalS hv13), (bt rfl), ha3, ha3, ha4, ha4, ha4, ha4, trivial⟩)
       ·replace hw14 := ite_f ha4 hw14
        have hw14 := Option.some.inj hw14
        subst hw14
        exact (r_go [(1, .box [.sl none (a0.map ePt)]), (4, .ov false [.sl (some 79) (v4.1.map ePt)]), (5, .p (.bool v4.2)), (7, .ov false [.sl (some 79) (v6.1.map ePt)]), (61, .p (.bool (!(v6.2 == v4.2))))] [(3, {g := some false}), (4, {g := some false}), (5, {g := some false, call := some ([.d false [.sl none (v6.1.map ePt)], .d false [.sl none (v4.1.map ePt)]], [.p (.bool v13)], true)}), (6, {g := some false}), (7, {b := some false}), (9, {g := some false}), (10, {g := some false}), (11, {g := some false}), (12, {b := some false})] [(decide (v12.1 < 0)) = false, (decide (v12.1 < 0)) = false, (decide (v12.1 < 0)) = false, ([.d false [.sl none (eraL (v6.1.map ePt))], .d false [.sl none (eraL (v4.1.map ePt))]] : List Arg) = [.d false [.sl none (v6.1.map ePt)], .d false [.sl none (v4.1.map ePt)]], Meets Try.prog 26 ([.d false [.sl none (v6.1.map ePt)], .d false [.sl none (v4.1.map ePt)]] ++ []) { vals := [.p (.bool v13)] }, (!true || List.all [.p (.bool v13)] simpleR) = true, (decide (v12.1 < 0)) = false, (decide (v12.1 < 0)) = false, (!v13) = false, (!v13) = false, (!v13) = false, (!v13) = false] (by kernel_rfl) ⟨ha3, ha3, ha3, (by simp only [eraL_enc (h := ePt) (era_P (era_P er_I er_I) (era_P er_I er_I)), eraL_enc (h := ePt) (era_P (era_P er_I er_I) (era_P er_I er_I))]), (wk_laws_eqIntervalS hv13), (bt rfl), ha3, ha3, ha4, ha4, ha4, ha4, trivial⟩)
     ·refine k_cond (b := w14) (by kernel_rfl) (fun hc2_14 => ?_) (fun hc2_14 => ?_)
      ·replace h := ite_t hc2_14 h
       refine k_sreg (r_go [(2, .p (.bool false))] [] [] (by kernel_rfl) trivial) ?_
       refine k_ret ?_
       refine q_r ?_
       obtain rfl := Option.some.inj h
       exact e_ret (ls := [(.p (.bool false), 2)]) (by kernel_rfl) rfl (by kernel_rfl) rfl
      ·replace h := ite_f hc2_14 h
       refine k_skip ?_
       refine q_n ?_
       refine k_sreg (r_go [(1, .box [.sl none (a0.map ePt)]), (4, .ov false [.sl (some 79) (v4.1.map ePt)]), (5, .p (.bool v4.2)), (7, .ov false [.sl (some 79) (v6.1.map ePt)]), (10, .p (.int .i64 1))] [] [] (by kernel_rfl) trivial) ?_
       replace h := bind_some' h
       obtain ⟨v16, hv16, h⟩ := h
       refine k_sreg (r_go [(1, .box [.sl none (a0.map ePt)]), (4, .ov false [.sl (some 79) (v4.1.map ePt)]), (5, .p (.bool v4.2)), (7, .ov false [.sl (some 79) (v16.2.map ePt)]), (10, .p (.int .i64 v16.1))] [(2, {lend := some ([.v (.int .i64 1)], [.p (.int .i64 v16.1)], .ov false [.sl (some 79) (v16.2.map ePt)], true)})] [([.v (.int .i64 1)] : List Arg) = [.v (.int .i64 1)], MeetsB Try.prog 27 (.ov false [.sl (some 79) (v6.1.map ePt)]) [.v (.int .i64 1)] [.p (.int .i64 v16.1)] (.ov false [.sl (some 79) (v16.2.map ePt)]), (!true || (List.all [.p (.int .i64 v16.1)] simpleR && wnS (.ov false [.sl (some 79) (v16.2.map ePt)]))) = true] (by kernel_rfl) ⟨rfl, (wk_laws_markIntervalS hv16), (bt (ls_t rfl (wnR1 (wnL_enc (wn_P (wn_P wn_I wn_I) (wn_P wn_I wn_I))) rfl))), trivial⟩) ?_
       refine k_sreg (r_go [(1, .box [.sl none (a0.map ePt)]), (4, .ov false [.sl (some 79) (v4.1.map ePt)]), (5, .p (.bool v4.2)), (7, .ov false [.sl (some 79) (v16.2.map ePt)]), (10, .p (.int .i64 v16.1)), (11, .p (.int .i64 1))] [] [] (by kernel_rfl) trivial) ?_
       replace h := bind_some' h
       obtain ⟨v17, hv17, h⟩ := h
       refine k_sreg (r_go [(1, .box [.sl none (a0.map ePt)]), (4, .ov false [.sl (some 79) (v4.1.map ePt)]), (5, .p (.bool v4.2)), (7, .ov false [.sl (some 79) (v16.2.map ePt)]), (10, .p (.int .i64 v16.1)), (11, .p (.int .i64 v17))] [(2, {call := some ([.d false [.sl none (v16.2.map ePt)], .v (.int .i64 1)], [.p (.int .i64 v17)], true)})] [([.d false [.sl none (eraL (v16.2.map ePt))], .v (.int .i64 1)] : List Arg) = [.d false [.sl none (v16.2.map ePt)], .v (.int .i64 1)], Meets Try.prog 28 ([.d false [.sl none (v16.2.map ePt)], .v (.int .i64 1)] ++ []) { vals := [.p (.int .i64 v17)] }, (!true || List.all [.p (.int .i64 v17)] simpleR) = true] (by kernel_rfl) ⟨(by simp only [eraL_enc (h := ePt) (era_P (era_P er_I er_I) (era_P er_I er_I))]), (wk_laws_heldIntervalS hv17), (bt rfl), trivial⟩) ?_
       refine k_seq ?_
       refine k_sreg (r_go [(1, .box [.sl none (a0.map ePt)]), (4, .ov false [.sl (some 79) (v4.1.map ePt)]), (5, .p (.bool v4.2)), (7, .ov false [.sl (some 79) (v16.2.map ePt)]), (10, .p (.int .i64 v16.1)), (11, .p (.int .i64 v17)), (69, .p (.bool (decide (v17 < 0))))] [] [] (by kernel_rfl) trivial) ?_
       refine k_cond (b := (decide (v17 < 0))) (by kernel_rfl) (fun hc2_17 => ?_) (fun hc2_17 => ?_)
       ·replace h := ite_t hc2_17 h
        refine k_sreg (r_go [(2, .p (.bool false))] [] [] (by kernel_rfl) trivial) ?_
        refine k_ret ?_
        refine q_r ?_
        obtain rfl := Option.some.inj h
        exact e_ret (ls := [(.p (.bool false), 2)]) (by kernel_rfl) rfl (by kernel_rfl) rfl
       ·replace h := ite_f hc2_17 h
        refine k_skip ?_
        refine q_n ?_
        refine k_seq ?_
        refine k_sreg (r_go [(1, .box [.sl none (a0.map ePt)]), (4, .ov false [.sl (some 79) (v4.1.map ePt)]), (5, .p (.bool v4.2)), (7, .ov false [.sl (some 79) (v16.2.map ePt)]), (10, .p (.int .i64 v16.1)), (72, .p (.bool (v17 != v16.1)))] [] [] (by kernel_rfl) trivial) ?_
        refine k_cond (b := (v17 != v16.1)) (by kernel_rfl) (fun hc2_18 => ?_) (fun hc2_18 => ?_)
        ·replace h := ite_t hc2_18 h
         refine k_sreg (r_go [(2, .p (.bool false))] [] [] (by kernel_rfl) trivial) ?_
         refine k_ret ?_
         refine q_r ?_
         obtain rfl := Option.some.inj h
         exact e_ret (ls := [(.p (.bool false), 2)]) (by kernel_rfl) rfl (by kernel_rfl) rfl
        ·replace h := ite_f hc2_18 h
         refine k_skip ?_
         refine q_n ?_
         replace h := bind_some' h
         obtain ⟨v20, hv20, h⟩ := h
         replace h := bind_some' h
         obtain ⟨v21, hv21, h⟩ := h
         refine k_sreg (r_go [(4, .ov false [.sl (some 79) (v4.1.map ePt)]), (5, .p (.bool v4.2)), (7, .ov false [.sl (some 79) (v16.2.map ePt)]), (10, .p (.int .i64 v16.1)), (12, .ov false [.sl (some 79) (v21.1.map ePt)]), (13, .p (.bool v21.2))] [(0, {b := some true}), (1, {call := some ([.d true [.sl none (a0.map ePt)]], [.ov true [.sl (some 71) (v20.map ePt)]], true)}), (2, {call := some ([.d true [.sl none (v20.map ePt)]], [.ov false [.sl (some 79) (v21.1.map ePt)], .p (.bool v21.2)], true)})] [frR [.sl none (a0.map ePt)] = true, ([.d true [.sl none (a0.map ePt)]] : List Arg) = [.d true [.sl none (a0.map ePt)]], Meets Try.prog 15 ([.d true [.sl none (a0.map ePt)]] ++ []) { vals := [.ov true [.sl (some 71) (v20.map ePt)]] }, (!true || List.all [.ov true [.sl (some 71) (v20.map ePt)]] simpleR) = true, ([.d true [.sl none (eraL (v20.map ePt))]] : List Arg) = [.d true [.sl none (v20.map ePt)]], Meets Try.prog 25 ([.d true [.sl none (v20.map ePt)]] ++ []) { vals := [.ov false [.sl (some 79) (v21.1.map ePt)], .p (.bool v21.2)] }, (!true || List.all [.ov false [.sl (some 79) (v21.1.map ePt)], .p (.bool v21.2)] simpleR) = true] (by kernel_rfl) ⟨(frR1 (frL_enc (fr_P (fr_P fr_I fr_I) (fr_P fr_I fr_I))) rfl), rfl, (wk_laws_toLift hv20), (bt (sa_o (wnR1 (wnL_enc (wn_P (wn_P wn_I wn_I) (wn_P wn_I wn_I))) rfl) rfl)), (by simp only [eraL_enc (h := ePt) (era_P (era_P er_I er_I) (era_P er_I er_I))]), (wk_impl_PlateausOf hv21), (bt (sa_o (wnR1 (wnL_enc (wn_P (wn_P wn_I wn_I) (wn_P wn_I wn_I))) rfl) (sa_p rfl))), trivial⟩) ?_
         refine k_seq ?_
         replace h := bind_some' h
         obtain ⟨v22, hv22, h⟩ := h
         refine k_sreg (l1 := [(7, .ov false [.sl (some 79) (v16.2.map ePt)]), (10, .p (.int .i64 v16.1)), (87, .p (.bool ((!v22) || (!(v21.2 == v4.2)))))]) ?_ ?_
         ·rcases Bool.eq_false_or_eq_true (!v22) with ha6 | ha6
          ·exact RegOk.of_eq (l2 := [(7, .ov false [.sl (some 79) (v16.2.map ePt)]), (10, .p (.int .i64 v16.1)), (87, .p (.bool ((!v22) || (!(v21.2 == v4.2)))))]) (r_go [(7, .ov false [.sl (some 79) (v16.2.map ePt)]), (10, .p (.int .i64 v16.1)), (87, .p (.bool true))] [(2, {call := some ([.d false [.sl none (v21.1.map ePt)], .d false [.sl none (v4.1.map ePt)]], [.p (.bool v22)], true)}), (5, {g := some true}), (6, {g := some true}), (7, {g := some true}), (8, {b := some true})] [([.d false [.sl none (eraL (v21.1.map ePt))], .d false [.sl none (eraL (v4.1.map ePt))]] : List Arg) = [.d false [.sl none (v21.1.map ePt)], .d false [.sl none (v4.1.map ePt)]], Meets Try.prog 26 ([.d false [.sl none (v21.1.map ePt)], .d false [.sl none (v4.1.map ePt)]] ++ []) { vals := [.p (.bool v22)] }, (!true || List.all [.p (.bool v22)] simpleR) = true, (!v22) = true, (!v22) = true, (!v22) = true, (!v22) = true] (by kernel_rfl) ⟨(by simp only [eraL_enc (h := ePt) (era_P (era_P er_I er_I) (era_P er_I er_I)), eraL_enc (h := ePt) (era_P (era_P er_I er_I) (era_P er_I er_I))]), (wk_laws_eqIntervalS hv22), (bt rfl), ha6, ha6, ha6, ha6, trivial⟩) (by simp [ha6])
          ·exact RegOk.of_eq (l2 := [(7, .ov false [.sl (some 79) (v16.2.map ePt)]), (10, .p (.int .i64 v16.1)), (87, .p (.bool ((!v22) || (!(v21.2 == v4.2)))))]) (r_go [(7, .ov false [.sl (some 79) (v16.2.map ePt)]), (10, .p (.int .i64 v16.1)), (87, .p (.bool (!(v21.2 == v4.2))))] [(2, {call := some ([.d false [.sl none (v21.1.map ePt)], .d false [.sl none (v4.1.map ePt)]], [.p (.bool v22)], true)}), (5, {g := some false}), (6, {g := some false}), (7, {g := some false}), (8, {b := some false})] [([.d false [.sl none (eraL (v21.1.map ePt))], .d false [.sl none (eraL (v4.1.map ePt))]] : List Arg) = [.d false [.sl none (v21.1.map ePt)], .d false [.sl none (v4.1.map ePt)]], Meets Try.prog 26 ([.d false [.sl none (v21.1.map ePt)], .d false [.sl none (v4.1.map ePt)]] ++ []) { vals := [.p (.bool v22)] }, (!true || List.all [.p (.bool v22)] simpleR) = true, (!v22) = false, (!v22) = false, (!v22) = false, (!v22) = false] (by kernel_rfl) ⟨(by simp only [eraL_enc (h := ePt) (era_P (era_P er_I er_I) (era_P er_I er_I)), eraL_enc (h := ePt) (era_P (era_P er_I er_I) (era_P er_I er_I))]), (wk_laws_eqIntervalS hv22), (bt rfl), ha6, ha6, ha6, ha6, trivial⟩) (by simp [ha6])
         ·refine k_cond (b := ((!v22) || (!(v21.2 == v4.2)))) (by kernel_rfl) (fun hc2_22 => ?_) (fun hc2_22 => ?_)
          ·replace h := ite_t hc2_22 h
           refine k_sreg (r_go [(2, .p (.bool false))] [] [] (by kernel_rfl) trivial) ?_
           refine k_ret ?_
           refine q_r ?_
           obtain rfl := Option.some.inj h
           exact e_ret (ls := [(.p (.bool false), 2)]) (by kernel_rfl) rfl (by kernel_rfl) rfl
          ·replace h := ite_f hc2_22 h
           refine k_skip ?_
           refine q_n ?_
           refine k_sreg (r_go [(7, .ov false [.sl (some 79) (v16.2.map ePt)]), (10, .p (.int .i64 v16.1)), (11, .p (.int .i64 1))] [] [] (by kernel_rfl) trivial) ?_
           replace h := bind_some' h
           obtain ⟨v24, hv24, h⟩ := h
           refine k_sreg (r_go [(10, .p (.int .i64 v16.1)), (11, .p (.int .i64 v24))] [(2, {call := some ([.d false [.sl none (v16.2.map ePt)], .v (.int .i64 1)], [.p (.int .i64 v24)], true)})] [([.d false [.sl none (eraL (v16.2.map ePt))], .v (.int .i64 1)] : List Arg) = [.d false [.sl none (v16.2.map ePt)], .v (.int .i64 1)], Meets Try.prog 28 ([.d false [.sl none (v16.2.map ePt)], .v (.int .i64 1)] ++ []) { vals := [.p (.int .i64 v24)] }, (!true || List.all [.p (.int .i64 v24)] simpleR) = true] (by kernel_rfl) ⟨(by simp only [eraL_enc (h := ePt) (era_P (era_P er_I er_I) (era_P er_I er_I))]), (wk_laws_heldIntervalS hv24), (bt rfl), trivial⟩) ?_
           refine k_seq ?_
           refine k_sreg (r_go [(10, .p (.int .i64 v16.1)), (11, .p (.int .i64 v24)), (92, .p (.bool (decide (v24 < 0))))] [] [] (by kernel_rfl) trivial) ?_
           refine k_cond (b := (decide (v24 < 0))) (by kernel_rfl) (fun hc2_24 => ?_) (fun hc2_24 => ?_)
           ·replace h := ite_t hc2_24 h
            refine k_sreg (r_go [(2, .p (.bool false))] [] [] (by kernel_rfl) trivial) ?_
            refine k_ret ?_
            refine q_r ?_
            obtain rfl := Option.some.inj h
            exact e_ret (ls := [(.p (.bool false), 2)]) (by kernel_rfl) rfl (by kernel_rfl) rfl
           ·replace h := ite_f hc2_24 h
            refine k_skip ?_
            refine q_n ?_
            refine k_seq ?_
            refine k_sreg (r_go [(95, .p (.bool (v24 != v16.1)))] [] [] (by kernel_rfl) trivial) ?_
            refine k_cond (b := (v24 != v16.1)) (by kernel_rfl) (fun hc2_25 => ?_) (fun hc2_25 => ?_)
            ·replace h := ite_t hc2_25 h
             refine k_sreg (r_go [(2, .p (.bool false))] [] [] (by kernel_rfl) trivial) ?_
             refine k_ret ?_
             refine q_r ?_
             obtain rfl := Option.some.inj h
             exact e_ret (ls := [(.p (.bool false), 2)]) (by kernel_rfl) rfl (by kernel_rfl) rfl
            ·replace h := ite_f hc2_25 h
             refine k_skip ?_
             refine q_n ?_
             refine k_sreg (r_go [(2, .p (.bool true))] [] [] (by kernel_rfl) trivial) ?_
             refine k_ret ?_
             obtain rfl := Option.some.inj h
             exact e_ret (ls := [(.p (.bool true), 2)]) (by kernel_rfl) rfl (by kernel_rfl) rfl
end Go.PV

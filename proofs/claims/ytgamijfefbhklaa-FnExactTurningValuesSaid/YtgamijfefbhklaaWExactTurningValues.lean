/-
  Walks through the functions that the law reaches: each answers as its plain definition does.
  Conditions: none.
-/
import Derived.KernelRfl
import Derived.Test.YtgamijfefbhklaaWExactTurningValuesPartA
import Derived.Test.YtgamijfefbhklaaProg
open Go Go.PV Go.Proofs
set_option linter.all false
namespace Go.PV
attribute [local irreducible] pvC pvL pvD sOp seqQ blockQ Meets MeetsB Ok OkL RegOk agree endQ seqL blockL loopQ endL endLB
theorem wk_impl_laps {a0 : (List ((Int × Int) × (Int × Int)))}  {r : (List (List Int))} (h : impl_laps a0 = some r) : Meets Try.prog 47 [.d false [.sl none (a0.map (eP (eP eI eI) (eP eI eI)))]] { vals := [.ov false [.sl (some 62) (r.map (eO 3 eI))]] } := by
  refine Meets_ofL (by kernel_rfl) Try.func47 rfl (by kernel_rfl) (l0 := [(0, .d false [.sl none (a0.map (eP (eP eI eI) (eP eI eI)))])]) (by kernel_rfl) ?_
  unfold impl_laps at h
  refine k_sreg (r_go [(0, .d false [.sl none (a0.map (eP (eP eI eI) (eP eI eI)))])] [] [] (by kernel_rfl) trivial) ?_
  refine k_sreg (r_go [(0, .d false [.sl none (a0.map (eP (eP eI eI) (eP eI eI)))]), (3, .ov false [.sl (some 62) []])] [] [] (by kernel_rfl) trivial) ?_
  refine k_join (J := fun (x : (List (List Int))) => [(3, .ov false [.sl (some 62) (x.map (eO 3 eI))])]) (K := fun x => impl_laps_k1 x = some r) (fun x1 h => ?_) ?_
  · unfold impl_laps_k1 at h
    refine k_sreg (r_go [(2, .ov false [.sl (some 62) (x1.map (eO 3 eI))])] [] [] (by kernel_rfl) trivial) ?_
    refine k_ret ?_
    obtain rfl := Option.some.inj h
    exact e_ret (ls := [(.ov false [.sl (some 62) (x1.map (eO 3 eI))], 2)]) (by kernel_rfl) rfl (by kernel_rfl) rfl
  · replace h := bind_some' h
    obtain ⟨v2, hv2, h⟩ := h
    refine k_sreg (r_go [(3, .ov false [.sl (some 62) []]), (8, .ov false [.sl (some 39) (v2.map (eP eI eI))]), (9, .p (.int .i64 (v2.length : Int))), (10, .p (.int .i64 0))] [(1, {call := some ([.d false [.sl none (a0.map (eP (eP eI eI) (eP eI eI)))]], [.ov false [.sl (some 39) (v2.map (eP eI eI))]], true)}), (2, {n := some v2.length})] [([.d false [.sl none (a0.map (eP (eP eI eI) (eP eI eI)))]] : List Arg) = [.d false [.sl none (a0.map (eP (eP eI eI) (eP eI eI)))]], Meets Try.prog 54 ([.d false [.sl none (a0.map (eP (eP eI eI) (eP eI eI)))]] ++ []) { vals := [.ov false [.sl (some 39) (v2.map (eP eI eI))]] }, List.all [.ov false [.sl (some 39) (v2.map (eP eI eI))]] simpleR = true, (v2.map (eP eI eI)).length = v2.length] (by kernel_rfl) ⟨rfl, (wk_impl_slopes hv2), (sa_o (wnR1 (wnL_enc (wn_P wn_I wn_I)) rfl) rfl), (List.length_map ..), trivial⟩) ?_
    refine k_block ?_
    obtain ⟨y4, hl_x3, hk_x3⟩ := bind_some' h
    clear h
    refine k_loop (J := fun (x : ((List (List Int)) × Int)) => [(3, .ov false [.sl (some 62) (x.1.map (eO 3 eI))]), (8, .ov false [.sl (some 39) (v2.map (eP eI eI))]), (9, .p (.int .i64 (v2.length : Int))), (10, .p (.int .i64 x.2))]) hl_x3 (wk_of (by kernel_rfl) (by kernel_rfl)) (fun x3 o_x3 h hy_x3 => ?_)
    unfold impl_laps_b1 at h
    refine k_sreg (r_go [(3, .ov false [.sl (some 62) (x3.1.map (eO 3 eI))]), (8, .ov false [.sl (some 39) (v2.map (eP eI eI))]), (9, .p (.int .i64 (v2.length : Int))), (10, .p (.int .i64 x3.2)), (11, .p (.bool (decide (x3.2 < (v2.length : Int)))))] [] [] (by kernel_rfl) trivial) ?_
    refine k_seq ?_
    refine k_cond (b := (decide (x3.2 < (v2.length : Int)))) (by kernel_rfl) (fun hc5_4 => ?_) (fun hc5_4 => ?_)
    · replace h := ite_t hc5_4 h
      refine k_skip ?_
      refine q_n ?_
      refine k_seq ?_
      refine k_block ?_
      replace h := bind_some' h
      obtain ⟨v6, hv6, h⟩ := h
      refine k_sreg (r_go [(3, .ov false [.sl (some 62) (x3.1.map (eO 3 eI))]), (4, .p (.int .i64 x3.2)), (5, .box [.raw (.int .i64 v6.1), .raw (.int .i64 v6.2)]), (8, .ov false [.sl (some 39) (v2.map (eP eI eI))]), (9, .p (.int .i64 (v2.length : Int))), (10, .p (.int .i64 x3.2))] [(1, {row := some [.raw (.int .i64 v6.1), .raw (.int .i64 v6.2)]}), (2, {row := some [.raw (.int .i64 v6.1), .raw (.int .i64 v6.2)]})] [0 ≤ x3.2, (v2.map (eP eI eI))[(Int.toNat x3.2)]? = some [.raw (.int .i64 v6.1), .raw (.int .i64 v6.2)], getRow [[.sl (some 39) (v2.map (eP eI eI))]] [(0, 0), ((Int.toNat x3.2), 0)] = some [.raw (.int .i64 v6.1), .raw (.int .i64 v6.2)]] (by kernel_rfl) ⟨(idxO_some hv6).1, (map_get (eP eI eI) (idxO_some hv6).2), ((gr0 rfl).trans (gre (map_get (eP eI eI) (idxO_some hv6).2))), trivial⟩) ?_
      refine k_sreg (r_go [(3, .ov false [.sl (some 62) (x3.1.map (eO 3 eI))]), (4, .p (.int .i64 x3.2)), (5, .box [.raw (.int .i64 v6.1), .raw (.int .i64 v6.2)]), (6, .p (.int .i64 (w64 ((x3.1.length : Int) - 1)))), (8, .ov false [.sl (some 39) (v2.map (eP eI eI))]), (9, .p (.int .i64 (v2.length : Int))), (10, .p (.int .i64 x3.2))] [(1, {n := some x3.1.length})] [(x3.1.map (eO 3 eI)).length = x3.1.length] (by kernel_rfl) ⟨(List.length_map ..), trivial⟩) ?_
      replace h := bind_some' h
      obtain ⟨w10, hw10, h⟩ := h
      refine k_sreg (l1 := [(3, .ov false [.sl (some 62) (x3.1.map (eO 3 eI))]), (4, .p (.int .i64 x3.2)), (5, .box [.raw (.int .i64 v6.1), .raw (.int .i64 v6.2)]), (6, .p (.int .i64 (w64 ((x3.1.length : Int) - 1)))), (8, .ov false [.sl (some 39) (v2.map (eP eI eI))]), (9, .p (.int .i64 (v2.length : Int))), (10, .p (.int .i64 x3.2)), (30, .p (.bool w10))]) ?_ ?_
      · clear h
        rcases Bool.eq_false_or_eq_true (decide ((w64 ((x3.1.length : Int) - 1)) ≥ 0)) with ha1 | ha1
        · replace hw10 := ite_t ha1 hw10
          replace hw10 := bind_some' hw10
          obtain ⟨v7, hv7, hw10⟩ := hw10
          replace hw10 := bind_some' hw10
          obtain ⟨v8, hv8, hw10⟩ := hw10
          replace hw10 := bind_some' hw10
          obtain ⟨v9, hv9, hw10⟩ := hw10
          have hw10 := Option.some.inj hw10
          subst hw10
          exact (r_draw Try_mixed 11 [] [(3, .ov false [.sl (some 62) (x3.1.map (eO 3 eI))]), (4, .p (.int .i64 x3.2)), (5, .box [.raw (.int .i64 v6.1), .raw (.int .i64 v6.2)]), (6, .p (.int .i64 (w64 ((x3.1.length : Int) - 1)))), (8, .ov false [.sl (some 39) (v2.map (eP eI eI))]), (9, .p (.int .i64 (v2.length : Int))), (10, .p (.int .i64 x3.2)), (30, .p (.bool (v8 == v9)))] [(3, {g := some true}), (4, {g := some true}), (5, {g := some true, row := some [.sl (some 3) (v7.map eI)]}), (6, {g := some true, row := some [.sl (some 3) (v7.map eI)]}), (7, {g := some true, deep := some [.sl (some 3) (v7.map eI)], row := some [.raw (.int .i64 v8)]}), (8, {g := some true, row := some [.raw (.int .i64 v8)]}), (9, {g := some true}), (10, {g := some true, call := some ([.v (.agg #[.int .i64 v6.1, .int .i64 v6.2])], [.p (.int .i64 v9)], true)}), (11, {g := some true}), (12, {b := some true})] [(decide ((w64 ((x3.1.length : Int) - 1)) ≥ 0)) = true, (decide ((w64 ((x3.1.length : Int) - 1)) ≥ 0)) = true, (decide ((w64 ((x3.1.length : Int) - 1)) ≥ 0)) = true, 0 ≤ (w64 ((x3.1.length : Int) - 1)), (x3.1.map (eO 3 eI))[(Int.toNat (w64 ((x3.1.length : Int) - 1)))]? = some [.sl (some 3) (v7.map eI)], (decide ((w64 ((x3.1.length : Int) - 1)) ≥ 0)) = true, frR [.sl (some 3) (v7.map eI)] = false, getRow [[.sl (some 62) (x3.1.map (eO 3 eI))]] [(0, 0), ((Int.toNat (w64 ((x3.1.length : Int) - 1))), 0)] = some [.sl (some 3) (v7.map eI)], (decide ((w64 ((x3.1.length : Int) - 1)) ≥ 0)) = true, 0 ≤ 2, (v7.map eI)[(Int.toNat 2)]? = some [.raw (.int .i64 v8)], getRow [[.sl (some 62) (x3.1.map (eO 3 eI))]] [(0, 0), ((Int.toNat (w64 ((x3.1.length : Int) - 1))), 0)] = some [.sl (some 3) (v7.map eI)], (decide ((w64 ((x3.1.length : Int) - 1)) ≥ 0)) = true, getRow [[.sl (some 62) (x3.1.map (eO 3 eI))]] [(0, 0), ((Int.toNat (w64 ((x3.1.length : Int) - 1))), 0), ((Int.toNat 2), 0)] = some [.raw (.int .i64 v8)], (decide ((w64 ((x3.1.length : Int) - 1)) ≥ 0)) = true, (decide ((w64 ((x3.1.length : Int) - 1)) ≥ 0)) = true, ([.v (.agg #[.int .i64 v6.1, .int .i64 v6.2])] : List Arg) = [.v (.agg #[.int .i64 v6.1, .int .i64 v6.2])], Meets Try.prog 55 ([.v (.agg #[.int .i64 v6.1, .int .i64 v6.2])] ++ []) { vals := [.p (.int .i64 v9)] }, List.all [.p (.int .i64 v9)] simpleR = true, (decide ((w64 ((x3.1.length : Int) - 1)) ≥ 0)) = true, (decide ((w64 ((x3.1.length : Int) - 1)) ≥ 0)) = true] (by kernel_rfl) ⟨ha1, ha1, ha1, (idxO_some hv7).1, (map_get (eO 3 eI) (idxO_some hv7).2), ha1, rfl, ((gr0 rfl).trans (gre (map_get (eO 3 eI) (idxO_some hv7).2))), ha1, (idxO_some hv8).1, (map_get eI (idxO_some hv8).2), ((gr0 rfl).trans (gre (map_get (eO 3 eI) (idxO_some hv7).2))), ha1, ((gr0 rfl).trans ((grs (map_get (eO 3 eI) (idxO_some hv7).2) rfl).trans (gre (map_get eI (idxO_some hv8).2)))), ha1, ha1, rfl, (wk_impl_sign hv9), rfl, ha1, ha1, trivial⟩)
        · replace hw10 := ite_f ha1 hw10
          have hw10 := Option.some.inj hw10
          subst hw10
          exact (r_draw Try_mixed 11 [] [(3, .ov false [.sl (some 62) (x3.1.map (eO 3 eI))]), (4, .p (.int .i64 x3.2)), (5, .box [.raw (.int .i64 v6.1), .raw (.int .i64 v6.2)]), (6, .p (.int .i64 (w64 ((x3.1.length : Int) - 1)))), (8, .ov false [.sl (some 39) (v2.map (eP eI eI))]), (9, .p (.int .i64 (v2.length : Int))), (10, .p (.int .i64 x3.2)), (30, .p (.bool false))] [(3, {g := some false}), (4, {g := some false}), (5, {g := some false}), (6, {g := some false}), (7, {g := some false}), (8, {g := some false}), (9, {g := some false}), (10, {g := some false}), (11, {g := some false}), (12, {b := some false})] [(decide ((w64 ((x3.1.length : Int) - 1)) ≥ 0)) = false, (decide ((w64 ((x3.1.length : Int) - 1)) ≥ 0)) = false, (decide ((w64 ((x3.1.length : Int) - 1)) ≥ 0)) = false, (decide ((w64 ((x3.1.length : Int) - 1)) ≥ 0)) = false, (decide ((w64 ((x3.1.length : Int) - 1)) ≥ 0)) = false, (decide ((w64 ((x3.1.length : Int) - 1)) ≥ 0)) = false, (decide ((w64 ((x3.1.length : Int) - 1)) ≥ 0)) = false, (decide ((w64 ((x3.1.length : Int) - 1)) ≥ 0)) = false, (decide ((w64 ((x3.1.length : Int) - 1)) ≥ 0)) = false, (decide ((w64 ((x3.1.length : Int) - 1)) ≥ 0)) = false] (by kernel_rfl) ⟨ha1, ha1, ha1, ha1, ha1, ha1, ha1, ha1, ha1, ha1, trivial⟩)
      · refine k_cond (b := w10) (by kernel_rfl) (fun hc6_10 => ?_) (fun hc6_10 => ?_)
        · replace h := ite_t hc6_10 h
          replace h := bind_some' h
          obtain ⟨v12, hv12, h⟩ := h
          replace h := bind_some' h
          obtain ⟨v13, hv13, h⟩ := h
          refine k_reg (r_go [(3, .ov false [.sl (some 62) ((x3.1.set (Int.toNat (w64 ((x3.1.length : Int) - 1))) (v12.set (Int.toNat 1) (w64 (x3.2 + 1)))).map (eO 3 eI))]), (8, .ov false [.sl (some 39) (v2.map (eP eI eI))]), (9, .p (.int .i64 (v2.length : Int))), (10, .p (.int .i64 x3.2))] [(2, {row := some [.sl (some 3) (v12.map eI)]}), (3, {row := some [.sl (some 3) (v12.map eI)]}), (6, {deep := some [.sl (some 3) (v12.map eI)], row := some [.raw (.int .i64 v13)]}), (7, {row := some [.raw (.int .i64 v13)], fix := some (3, .ov false [.sl (some 62) ((x3.1.set (Int.toNat (w64 ((x3.1.length : Int) - 1))) (v12.set (Int.toNat 1) (w64 (x3.2 + 1)))).map (eO 3 eI))])})] [0 ≤ (w64 ((x3.1.length : Int) - 1)), (x3.1.map (eO 3 eI))[(Int.toNat (w64 ((x3.1.length : Int) - 1)))]? = some [.sl (some 3) (v12.map eI)], frR [.sl (some 3) (v12.map eI)] = false, getRow [[.sl (some 62) (x3.1.map (eO 3 eI))]] [(0, 0), ((Int.toNat (w64 ((x3.1.length : Int) - 1))), 0)] = some [.sl (some 3) (v12.map eI)], 0 ≤ 1, (v12.map eI)[(Int.toNat 1)]? = some [.raw (.int .i64 v13)], getRow [[.sl (some 62) (x3.1.map (eO 3 eI))]] [(0, 0), ((Int.toNat (w64 ((x3.1.length : Int) - 1))), 0)] = some [.sl (some 3) (v12.map eI)], getRow [[.sl (some 62) (x3.1.map (eO 3 eI))]] [(0, 0), ((Int.toNat (w64 ((x3.1.length : Int) - 1))), 0), ((Int.toNat 1), 0)] = some [.raw (.int .i64 v13)], (SV.ov false [.sl (some 62) (setL (x3.1.map (eO 3 eI)) [((Int.toNat (w64 ((x3.1.length : Int) - 1))), 0), ((Int.toNat 1), 0)] [.raw (.int .i64 (w64 (x3.2 + 1)))])] : SV) = .ov false [.sl (some 62) ((x3.1.set (Int.toNat (w64 ((x3.1.length : Int) - 1))) (v12.set (Int.toNat 1) (w64 (x3.2 + 1)))).map (eO 3 eI))]] (by kernel_rfl) ⟨(idxO_some hv12).1, (map_get (eO 3 eI) (idxO_some hv12).2), rfl, ((gr0 rfl).trans (gre (map_get (eO 3 eI) (idxO_some hv12).2))), (idxO_some hv13).1, (map_get eI (idxO_some hv13).2), ((gr0 rfl).trans (gre (map_get (eO 3 eI) (idxO_some hv12).2))), ((gr0 rfl).trans ((grs (map_get (eO 3 eI) (idxO_some hv12).2) rfl).trans (gre (map_get eI (idxO_some hv13).2)))), (congrArg (fun z => SV.ov false [.sl (some 62) z]) (set2 (f := (eO 3 eI)) (y := (v12.set (Int.toNat 1) (w64 (x3.2 + 1)))) (idxO_some hv12).2 rfl (set1 (f := eI) (y := (w64 (x3.2 + 1))) (idxO_some hv13).2 rfl) rfl)), trivial⟩) ?_
          refine b_n ?_
          refine q_n ?_
          refine k_reg (r_go [(3, .ov false [.sl (some 62) ((x3.1.set (Int.toNat (w64 ((x3.1.length : Int) - 1))) (v12.set (Int.toNat 1) (w64 (x3.2 + 1)))).map (eO 3 eI))]), (8, .ov false [.sl (some 39) (v2.map (eP eI eI))]), (9, .p (.int .i64 (v2.length : Int))), (10, .p (.int .i64 (w64 (x3.2 + 1))))] [] [] (by kernel_rfl) trivial) ?_
          exact lq_n ((x3.1.set (Int.toNat (w64 ((x3.1.length : Int) - 1))) (v12.set (Int.toNat 1) (w64 (x3.2 + 1)))), (w64 (x3.2 + 1))) (Option.some.inj h).symm (wk_of (by kernel_rfl) (by kernel_rfl))
        · replace h := ite_f hc6_10 h
          replace h := bind_some' h
          obtain ⟨v14, hv14, h⟩ := h
          replace h := bind_some' h
          obtain ⟨u15, hu15, h⟩ := h
          refine k_reg (r_go [(3, .ov false [.sl (some 62) ((x3.1 ++ [[x3.2, (w64 (x3.2 + 1)), v14]]).map (eO 3 eI))]), (8, .ov false [.sl (some 39) (v2.map (eP eI eI))]), (9, .p (.int .i64 (v2.length : Int))), (10, .p (.int .i64 x3.2))] [(5, {call := some ([.v (.agg #[.int .i64 v6.1, .int .i64 v6.2])], [.p (.int .i64 v14)], true)}), (8, {fix := some (46, .ov false [.sl (some 62) ((x3.1 ++ [[x3.2, (w64 (x3.2 + 1)), v14]]).map (eO 3 eI))])})] [([.v (.agg #[.int .i64 v6.1, .int .i64 v6.2])] : List Arg) = [.v (.agg #[.int .i64 v6.1, .int .i64 v6.2])], Meets Try.prog 55 ([.v (.agg #[.int .i64 v6.1, .int .i64 v6.2])] ++ []) { vals := [.p (.int .i64 v14)] }, List.all [.p (.int .i64 v14)] simpleR = true, List.length ((x3.1.map (eO 3 eI)) : List (List C)) + List.length ((([[x3.2, (w64 (x3.2 + 1)), v14]]).map (eO 3 eI)) : List (List C)) ≤ 1099511627776, ∀ row ∈ ((([[x3.2, (w64 (x3.2 + 1)), v14]]).map (eO 3 eI)) : List (List C)), row.length = 1, (SV.ov false [.sl (some 62) ((x3.1.map (eO 3 eI)) ++ (([[x3.2, (w64 (x3.2 + 1)), v14]]).map (eO 3 eI)))] : SV) = .ov false [.sl (some 62) ((x3.1 ++ [[x3.2, (w64 (x3.2 + 1)), v14]]).map (eO 3 eI))]] (by kernel_rfl) ⟨rfl, (wk_impl_sign hv14), rfl, (by have hg := (guardO_some hu15); simpa using hg), (rows_len fun _ => rfl), (congrArg (fun z => SV.ov false [.sl (some 62) z]) (List.map_append ..).symm), trivial⟩) ?_
          refine b_n ?_
          refine q_n ?_
          refine k_reg (r_go [(3, .ov false [.sl (some 62) ((x3.1 ++ [[x3.2, (w64 (x3.2 + 1)), v14]]).map (eO 3 eI))]), (8, .ov false [.sl (some 39) (v2.map (eP eI eI))]), (9, .p (.int .i64 (v2.length : Int))), (10, .p (.int .i64 (w64 (x3.2 + 1))))] [] [] (by kernel_rfl) trivial) ?_
          exact lq_n ((x3.1 ++ [[x3.2, (w64 (x3.2 + 1)), v14]]), (w64 (x3.2 + 1))) (Option.some.inj h).symm (wk_of (by kernel_rfl) (by kernel_rfl))
    · replace h := ite_f hc5_4 h
      refine k_exit ?_
      refine q_x ?_
      refine lq_x ?_
      refine b_x ?_
      have hyy := hy_x3 _ (Option.some.inj h).symm
      subst hyy
      have h := hk_x3
      refine q_n ?_
      exact ⟨x3.1, h, (wk_of (by kernel_rfl) (by kernel_rfl))⟩
theorem wk_impl_isUnimodal {a0 : (List ((Int × Int) × (Int × Int)))}  {r : Bool} (h : impl_isUnimodal a0 = some r) : Meets Try.prog 35 [.d false [.sl none (a0.map (eP (eP eI eI) (eP eI eI)))]] { vals := [.p (.bool r)] } := by
  refine Meets_ofL (by kernel_rfl) Try.func35 rfl (by kernel_rfl) (l0 := [(0, .d false [.sl none (a0.map (eP (eP eI eI) (eP eI eI)))])]) (by kernel_rfl) ?_
  unfold impl_isUnimodal at h
  refine k_sreg (r_go [(0, .d false [.sl none (a0.map (eP (eP eI eI) (eP eI eI)))])] [] [] (by kernel_rfl) trivial) ?_
  refine k_seq ?_
  replace h := bind_some' h
  obtain ⟨v1, hv1, h⟩ := h
  refine k_sreg (r_go [(0, .d false [.sl none (a0.map (eP (eP eI eI) (eP eI eI)))]), (6, .p (.bool (!v1)))] [(1, {call := some ([.d false [.sl none (a0.map (eP (eP eI eI) (eP eI eI)))]], [.p (.bool v1)], true)})] [([.d false [.sl none (a0.map (eP (eP eI eI) (eP eI eI)))]] : List Arg) = [.d false [.sl none (a0.map (eP (eP eI eI) (eP eI eI)))]], Meets Try.prog 46 ([.d false [.sl none (a0.map (eP (eP eI eI) (eP eI eI)))]] ++ []) { vals := [.p (.bool v1)] }, List.all [.p (.bool v1)] simpleR = true] (by kernel_rfl) ⟨rfl, (wk_impl_isStrict hv1), rfl, trivial⟩) ?_
  refine k_cond (b := (!v1)) (by kernel_rfl) (fun hc2_1 => ?_) (fun hc2_1 => ?_)
  · replace h := ite_t hc2_1 h
    refine k_sreg (r_go [(2, .p (.bool false))] [] [] (by kernel_rfl) trivial) ?_
    refine k_ret ?_
    refine q_r ?_
    obtain rfl := Option.some.inj h
    exact e_ret (ls := [(.p (.bool false), 2)]) (by kernel_rfl) rfl (by kernel_rfl) rfl
  · replace h := ite_f hc2_1 h
    refine k_skip ?_
    refine q_n ?_
    replace h := bind_some' h
    obtain ⟨v3, hv3, h⟩ := h
    refine k_sreg (r_go [(3, .ov false [.sl (some 62) (v3.map (eO 3 eI))])] [(1, {call := some ([.d false [.sl none (a0.map (eP (eP eI eI) (eP eI eI)))]], [.ov false [.sl (some 62) (v3.map (eO 3 eI))]], true)})] [([.d false [.sl none (a0.map (eP (eP eI eI) (eP eI eI)))]] : List Arg) = [.d false [.sl none (a0.map (eP (eP eI eI) (eP eI eI)))]], Meets Try.prog 47 ([.d false [.sl none (a0.map (eP (eP eI eI) (eP eI eI)))]] ++ []) { vals := [.ov false [.sl (some 62) (v3.map (eO 3 eI))]] }, List.all [.ov false [.sl (some 62) (v3.map (eO 3 eI))]] simpleR = true] (by kernel_rfl) ⟨rfl, (wk_impl_laps hv3), (sa_o (wnR1 (wnL_enc (wn_O wn_I)) rfl) rfl), trivial⟩) ?_
    replace h := bind_some' h
    obtain ⟨w6, hw6, h⟩ := h
    refine k_sreg (l1 := [(2, .p (.bool w6))]) ?_ ?_
    · clear h
      rcases Bool.eq_false_or_eq_true ((v3.length : Int) == 2) with ha1 | ha1
      · replace hw6 := ite_t ha1 hw6
        replace hw6 := bind_some' hw6
        obtain ⟨v4, hv4, hw6⟩ := hw6
        replace hw6 := bind_some' hw6
        obtain ⟨v5, hv5, hw6⟩ := hw6
        have hw6 := Option.some.inj hw6
        subst hw6
        exact (r_go [(2, .p (.bool (v5 == 1)))] [(1, {n := some v3.length}), (4, {g := some true}), (5, {g := some true, row := some [.sl (some 3) (v4.map eI)]}), (6, {g := some true, row := some [.sl (some 3) (v4.map eI)]}), (7, {g := some true, deep := some [.sl (some 3) (v4.map eI)], row := some [.raw (.int .i64 v5)]}), (8, {g := some true, row := some [.raw (.int .i64 v5)]}), (9, {g := some true}), (10, {b := some true})] [(v3.map (eO 3 eI)).length = v3.length, ((v3.length : Int) == 2) = true, ((v3.length : Int) == 2) = true, 0 ≤ 0, (v3.map (eO 3 eI))[(Int.toNat 0)]? = some [.sl (some 3) (v4.map eI)], ((v3.length : Int) == 2) = true, frR [.sl (some 3) (v4.map eI)] = false, getRow [[.sl (some 62) (v3.map (eO 3 eI))]] [(0, 0), ((Int.toNat 0), 0)] = some [.sl (some 3) (v4.map eI)], ((v3.length : Int) == 2) = true, 0 ≤ 2, (v4.map eI)[(Int.toNat 2)]? = some [.raw (.int .i64 v5)], getRow [[.sl (some 62) (v3.map (eO 3 eI))]] [(0, 0), ((Int.toNat 0), 0)] = some [.sl (some 3) (v4.map eI)], ((v3.length : Int) == 2) = true, getRow [[.sl (some 62) (v3.map (eO 3 eI))]] [(0, 0), ((Int.toNat 0), 0), ((Int.toNat 2), 0)] = some [.raw (.int .i64 v5)], ((v3.length : Int) == 2) = true, ((v3.length : Int) == 2) = true] (by kernel_rfl) ⟨(List.length_map ..), ha1, ha1, (idxO_some hv4).1, (map_get (eO 3 eI) (idxO_some hv4).2), ha1, rfl, ((gr0 rfl).trans (gre (map_get (eO 3 eI) (idxO_some hv4).2))), ha1, (idxO_some hv5).1, (map_get eI (idxO_some hv5).2), ((gr0 rfl).trans (gre (map_get (eO 3 eI) (idxO_some hv4).2))), ha1, ((gr0 rfl).trans ((grs (map_get (eO 3 eI) (idxO_some hv4).2) rfl).trans (gre (map_get eI (idxO_some hv5).2)))), ha1, ha1, trivial⟩)
      · replace hw6 := ite_f ha1 hw6
        have hw6 := Option.some.inj hw6
        subst hw6
        exact (r_go [(2, .p (.bool false))] [(1, {n := some v3.length}), (4, {g := some false}), (5, {g := some false}), (6, {g := some false}), (7, {g := some false}), (8, {g := some false}), (9, {g := some false}), (10, {b := some false})] [(v3.map (eO 3 eI)).length = v3.length, ((v3.length : Int) == 2) = false, ((v3.length : Int) == 2) = false, ((v3.length : Int) == 2) = false, ((v3.length : Int) == 2) = false, ((v3.length : Int) == 2) = false, ((v3.length : Int) == 2) = false, ((v3.length : Int) == 2) = false] (by kernel_rfl) ⟨(List.length_map ..), ha1, ha1, ha1, ha1, ha1, ha1, ha1, trivial⟩)
    · refine k_ret ?_
      obtain rfl := Option.some.inj h
      exact e_ret (ls := [(.p (.bool w6), 2)]) (by kernel_rfl) rfl (by kernel_rfl) rfl
theorem wk_impl_turns {a0 : (List ((Int × Int) × (Int × Int)))}  {r : (List (Int × Int))} (h : impl_turns a0 = some r) : Meets Try.prog 37 [.d false [.sl none (a0.map (eP (eP eI eI) (eP eI eI)))]] { vals := [.ov false [.sl (some 39) (r.map (eP eI eI))]] } := by
  refine Meets_ofL (by kernel_rfl) Try.func37 rfl (by kernel_rfl) (l0 := [(0, .d false [.sl none (a0.map (eP (eP eI eI) (eP eI eI)))])]) (by kernel_rfl) ?_
  unfold impl_turns at h
  refine k_sreg (r_go [(0, .d false [.sl none (a0.map (eP (eP eI eI) (eP eI eI)))])] [] [] (by kernel_rfl) trivial) ?_
  refine k_sreg (r_go [(0, .d false [.sl none (a0.map (eP (eP eI eI) (eP eI eI)))]), (3, .ov false [.sl (some 39) []])] [] [] (by kernel_rfl) trivial) ?_
  refine k_join (J := fun (x : (List (Int × Int))) => [(3, .ov false [.sl (some 39) (x.map (eP eI eI))])]) (K := fun x => impl_turns_k1 x = some r) (fun x1 h => ?_) ?_
  · unfold impl_turns_k1 at h
    refine k_sreg (r_go [(2, .ov false [.sl (some 39) (x1.map (eP eI eI))])] [] [] (by kernel_rfl) trivial) ?_
    refine k_ret ?_
    obtain rfl := Option.some.inj h
    exact e_ret (ls := [(.ov false [.sl (some 39) (x1.map (eP eI eI))], 2)]) (by kernel_rfl) rfl (by kernel_rfl) rfl
  · replace h := bind_some' h
    obtain ⟨v2, hv2, h⟩ := h
    replace h := bind_some' h
    obtain ⟨u3, hu3, h⟩ := h
    refine k_sreg (r_go [(0, .d false [.sl none (a0.map (eP (eP eI eI) (eP eI eI)))]), (3, .ov false [.sl (some 39) []]), (8, .d false [.sl none ((v2.drop (Int.toNat 1)).map (eF eI))]), (9, .p (.int .i64 ((v2.drop (Int.toNat 1)).length : Int))), (10, .p (.int .i64 0))] [(1, {call := some ([.d false [.sl none (a0.map (eP (eP eI eI) (eP eI eI)))]], [.ov false [.sl (some 62) (v2.map (eO 3 eI))]], true)}), (2, {pre := some (7, .d false [.sl none (v2.map (eF eI))]), fix := some (8, .d false [.sl none ((v2.drop (Int.toNat 1)).map (eF eI))])}), (3, {n := some (v2.drop (Int.toNat 1)).length})] [([.d false [.sl none (a0.map (eP (eP eI eI) (eP eI eI)))]] : List Arg) = [.d false [.sl none (a0.map (eP (eP eI eI) (eP eI eI)))]], Meets Try.prog 47 ([.d false [.sl none (a0.map (eP (eP eI eI) (eP eI eI)))]] ++ []) { vals := [.ov false [.sl (some 62) (v2.map (eO 3 eI))]] }, List.all [.ov false [.sl (some 62) (v2.map (eO 3 eI))]] simpleR = true, (SV.d false (eraR [.sl (some 62) (v2.map (eO 3 eI))]) : SV) = .d false [.sl none (v2.map (eF eI))], (Int.toNat 1) ≤ (v2.map (eF eI)).length, (v2.map (eF eI)).length ≤ (v2.map (eF eI)).length, ∀ row ∈ (v2.map (eF eI)), row.length = 1, (0 : Int) ≤ 1, (SV.d false [.sl none (((v2.map (eF eI)).take (v2.map (eF eI)).length).drop (Int.toNat 1))] : SV) = .d false [.sl none ((v2.drop (Int.toNat 1)).map (eF eI))], ((v2.drop (Int.toNat 1)).map (eF eI)).length = (v2.drop (Int.toNat 1)).length] (by kernel_rfl) ⟨rfl, (wk_impl_laps hv2), (sa_o (wnR1 (wnL_enc (wn_O wn_I)) rfl) rfl), (congrArg (fun z => SV.d false z) (erc_sl (eraL_enc (era_O er_I)) rfl)), (by have hg := (guardO_some hu3); first | (simp only [List.length_map]; omega) | omega), (Nat.le_refl _), (rows_len fun _ => rfl), (by have hg := (guardO_some hu3); omega), (congrArg (fun z => SV.d false [.sl none z]) sl_lo), (List.length_map ..), trivial⟩) ?_
    refine k_block ?_
    obtain ⟨y5, hl_x4, hk_x4⟩ := bind_some' h
    clear h
    refine k_loop (J := fun (x : ((List (Int × Int)) × Int)) => [(0, .d false [.sl none (a0.map (eP (eP eI eI) (eP eI eI)))]), (3, .ov false [.sl (some 39) (x.1.map (eP eI eI))]), (8, .d false [.sl none ((v2.drop (Int.toNat 1)).map (eF eI))]), (9, .p (.int .i64 ((v2.drop (Int.toNat 1)).length : Int))), (10, .p (.int .i64 x.2))]) hl_x4 (wk_of (by kernel_rfl) (by kernel_rfl)) (fun x4 o_x4 h hy_x4 => ?_)
    unfold impl_turns_b1 at h
    refine k_sreg (r_go [(0, .d false [.sl none (a0.map (eP (eP eI eI) (eP eI eI)))]), (3, .ov false [.sl (some 39) (x4.1.map (eP eI eI))]), (8, .d false [.sl none ((v2.drop (Int.toNat 1)).map (eF eI))]), (9, .p (.int .i64 ((v2.drop (Int.toNat 1)).length : Int))), (10, .p (.int .i64 x4.2)), (11, .p (.bool (decide (x4.2 < ((v2.drop (Int.toNat 1)).length : Int)))))] [] [] (by kernel_rfl) trivial) ?_
    refine k_seq ?_
    refine k_cond (b := (decide (x4.2 < ((v2.drop (Int.toNat 1)).length : Int)))) (by kernel_rfl) (fun hc5_5 => ?_) (fun hc5_5 => ?_)
    · replace h := ite_t hc5_5 h
      refine k_skip ?_
      refine q_n ?_
      refine k_seq ?_
      refine k_block ?_
      replace h := bind_some' h
      obtain ⟨v7, hv7, h⟩ := h
      refine k_sreg (r_go [(0, .d false [.sl none (a0.map (eP (eP eI eI) (eP eI eI)))]), (3, .ov false [.sl (some 39) (x4.1.map (eP eI eI))]), (5, .d false [.sl none (v7.map eI)]), (8, .d false [.sl none ((v2.drop (Int.toNat 1)).map (eF eI))]), (9, .p (.int .i64 ((v2.drop (Int.toNat 1)).length : Int))), (10, .p (.int .i64 x4.2))] [(0, {row := some [.sl none (v7.map eI)]})] [0 ≤ x4.2, ((v2.drop (Int.toNat 1)).map (eF eI))[(Int.toNat x4.2)]? = some [.sl none (v7.map eI)]] (by kernel_rfl) ⟨(idxO_some hv7).1, (map_get (eF eI) (idxO_some hv7).2), trivial⟩) ?_
      replace h := bind_some' h
      obtain ⟨v8, hv8, h⟩ := h
      replace h := bind_some' h
      obtain ⟨v9, hv9, h⟩ := h
      replace h := bind_some' h
      obtain ⟨u10, hu10, h⟩ := h
      refine k_reg (r_go [(0, .d false [.sl none (a0.map (eP (eP eI eI) (eP eI eI)))]), (3, .ov false [.sl (some 39) ((x4.1 ++ [v9.1]).map (eP eI eI))]), (8, .d false [.sl none ((v2.drop (Int.toNat 1)).map (eF eI))]), (9, .p (.int .i64 ((v2.drop (Int.toNat 1)).length : Int))), (10, .p (.int .i64 x4.2))] [(3, {row := some [.raw (.int .i64 v8)]}), (5, {row := some [.raw (.int .i64 v9.1.1), .raw (.int .i64 v9.1.2), .raw (.int .i64 v9.2.1), .raw (.int .i64 v9.2.2)]}), (9, {fix := some (23, .ov false [.sl (some 39) ((x4.1 ++ [v9.1]).map (eP eI eI))])})] [0 ≤ 0, (v7.map eI)[(Int.toNat 0)]? = some [.raw (.int .i64 v8)], 0 ≤ v8, (a0.map (eP (eP eI eI) (eP eI eI)))[(Int.toNat v8)]? = some [.raw (.int .i64 v9.1.1), .raw (.int .i64 v9.1.2), .raw (.int .i64 v9.2.1), .raw (.int .i64 v9.2.2)], List.length ((x4.1.map (eP eI eI)) : List (List C)) + List.length ((([v9.1]).map (eP eI eI)) : List (List C)) ≤ 1099511627776, ∀ row ∈ ((([v9.1]).map (eP eI eI)) : List (List C)), row.length = 2, (SV.ov false [.sl (some 39) ((x4.1.map (eP eI eI)) ++ (([v9.1]).map (eP eI eI)))] : SV) = .ov false [.sl (some 39) ((x4.1 ++ [v9.1]).map (eP eI eI))]] (by kernel_rfl) ⟨(idxO_some hv8).1, (map_get eI (idxO_some hv8).2), (idxO_some hv9).1, (map_get (eP (eP eI eI) (eP eI eI)) (idxO_some hv9).2), (by have hg := (guardO_some hu10); simpa using hg), (rows_len fun _ => rfl), (congrArg (fun z => SV.ov false [.sl (some 39) z]) (List.map_append ..).symm), trivial⟩) ?_
      refine b_n ?_
      refine q_n ?_
      refine k_reg (r_go [(0, .d false [.sl none (a0.map (eP (eP eI eI) (eP eI eI)))]), (3, .ov false [.sl (some 39) ((x4.1 ++ [v9.1]).map (eP eI eI))]), (8, .d false [.sl none ((v2.drop (Int.toNat 1)).map (eF eI))]), (9, .p (.int .i64 ((v2.drop (Int.toNat 1)).length : Int))), (10, .p (.int .i64 (w64 (x4.2 + 1))))] [] [] (by kernel_rfl) trivial) ?_
      exact lq_n ((x4.1 ++ [v9.1]), (w64 (x4.2 + 1))) (Option.some.inj h).symm (wk_of (by kernel_rfl) (by kernel_rfl))
    · replace h := ite_f hc5_5 h
      refine k_exit ?_
      refine q_x ?_
      refine lq_x ?_
      refine b_x ?_
      have hyy := hy_x4 _ (Option.some.inj h).symm
      subst hyy
      have h := hk_x4
      refine q_n ?_
      exact ⟨x4.1, h, (wk_of (by kernel_rfl) (by kernel_rfl))⟩
theorem wk_slices_IndexFunc_Limpl_Point_impl_Point_d {a0 : (List ((Int × Int) × (Int × Int)))} {a1 : (((Int × Int) × (Int × Int)) → Option Bool)} {F1 : FuncId} {K1 : List (Bool × List C)} (hp1 : ∀ x0 y, a1 x0 = some y → Meets Try.prog F1 ([.v (.agg #[.int .i64 x0.1.1, .int .i64 x0.1.2, .int .i64 x0.2.1, .int .i64 x0.2.2])] ++ (K1.map fun (g, cs) => mkA g cs)) { vals := [.p (.bool y)] }) {r : Int} (h : slices_IndexFunc_Limpl_Point_impl_Point a0 a1 = some r) : Meets Try.prog 68 [.d false [.sl none (a0.map (eP (eP eI eI) (eP eI eI)))], .d false [.fn F1 K1]] { vals := [.p (.int .i64 r)] } := by
  refine Meets_ofL (by kernel_rfl) Try.func68 rfl (by kernel_rfl) (l0 := [(0, .d false [.sl none (a0.map (eP (eP eI eI) (eP eI eI)))]), (1, .d false [.fn F1 K1])]) (by kernel_rfl) ?_
  unfold slices_IndexFunc_Limpl_Point_impl_Point at h
  refine k_sreg (r_go [(0, .d false [.sl none (a0.map (eP (eP eI eI) (eP eI eI)))]), (1, .d false [.fn F1 K1])] [] [] (by kernel_rfl) trivial) ?_
  refine k_join (J := fun (x : Unit) => []) (K := fun x => slices_IndexFunc_Limpl_Point_impl_Point_k1 x = some r) (fun x1 h => ?_) ?_
  · unfold slices_IndexFunc_Limpl_Point_impl_Point_k1 at h
    refine k_sreg (r_go [(4, .p (.int .i64 (-1)))] [] [] (by kernel_rfl) trivial) ?_
    refine k_ret ?_
    obtain rfl := Option.some.inj h
    exact e_ret (ls := [(.p (.int .i64 (-1)), 4)]) (by kernel_rfl) rfl (by kernel_rfl) rfl
  · refine k_sreg (r_go [(0, .d false [.sl none (a0.map (eP (eP eI eI) (eP eI eI)))]), (1, .d false [.fn F1 K1]), (7, .p (.int .i64 (a0.length : Int))), (8, .p (.int .i64 0))] [(1, {n := some a0.length})] [(a0.map (eP (eP eI eI) (eP eI eI))).length = a0.length] (by kernel_rfl) ⟨(List.length_map ..), trivial⟩) ?_
    refine k_block ?_
    obtain ⟨y3, hl_x2, hk_x2⟩ := bind_some' h
    clear h
    refine k_loop (J := fun (x : Int) => [(0, .d false [.sl none (a0.map (eP (eP eI eI) (eP eI eI)))]), (1, .d false [.fn F1 K1]), (7, .p (.int .i64 (a0.length : Int))), (8, .p (.int .i64 x))]) hl_x2 (wk_of (by kernel_rfl) (by kernel_rfl)) (fun x2 o_x2 h hy_x2 => ?_)
    unfold slices_IndexFunc_Limpl_Point_impl_Point_b1 at h
    refine k_sreg (r_go [(0, .d false [.sl none (a0.map (eP (eP eI eI) (eP eI eI)))]), (1, .d false [.fn F1 K1]), (7, .p (.int .i64 (a0.length : Int))), (8, .p (.int .i64 x2)), (9, .p (.bool (decide (x2 < (a0.length : Int)))))] [] [] (by kernel_rfl) trivial) ?_
    refine k_seq ?_
    refine k_cond (b := (decide (x2 < (a0.length : Int)))) (by kernel_rfl) (fun hc5_3 => ?_) (fun hc5_3 => ?_)
    · replace h := ite_t hc5_3 h
      refine k_skip ?_
      refine q_n ?_
      refine k_seq ?_
      refine k_block ?_
      refine k_sreg (r_go [(0, .d false [.sl none (a0.map (eP (eP eI eI) (eP eI eI)))]), (1, .d false [.fn F1 K1]), (5, .p (.int .i64 x2)), (7, .p (.int .i64 (a0.length : Int))), (8, .p (.int .i64 x2))] [] [] (by kernel_rfl) trivial) ?_
      replace h := bind_some' h
      obtain ⟨v5, hv5, h⟩ := h
      replace h := bind_some' h
      obtain ⟨v6, hv6, h⟩ := h
      refine k_sreg (r_go [(0, .d false [.sl none (a0.map (eP (eP eI eI) (eP eI eI)))]), (1, .d false [.fn F1 K1]), (5, .p (.int .i64 x2)), (7, .p (.int .i64 (a0.length : Int))), (8, .p (.int .i64 x2)), (16, .p (.bool v6))] [(3, {row := some [.raw (.int .i64 v5.1.1), .raw (.int .i64 v5.1.2), .raw (.int .i64 v5.2.1), .raw (.int .i64 v5.2.2)]}), (5, {call := some ([.v (.agg #[.int .i64 v5.1.1, .int .i64 v5.1.2, .int .i64 v5.2.1, .int .i64 v5.2.2])], [.p (.bool v6)], true)})] [0 ≤ x2, (a0.map (eP (eP eI eI) (eP eI eI)))[(Int.toNat x2)]? = some [.raw (.int .i64 v5.1.1), .raw (.int .i64 v5.1.2), .raw (.int .i64 v5.2.1), .raw (.int .i64 v5.2.2)], ([.v (.agg #[.int .i64 v5.1.1, .int .i64 v5.1.2, .int .i64 v5.2.1, .int .i64 v5.2.2])] : List Arg) = [.v (.agg #[.int .i64 v5.1.1, .int .i64 v5.1.2, .int .i64 v5.2.1, .int .i64 v5.2.2])], Meets Try.prog F1 ([.v (.agg #[.int .i64 v5.1.1, .int .i64 v5.1.2, .int .i64 v5.2.1, .int .i64 v5.2.2])] ++ (K1.map fun (g, cs) => mkA g cs)) { vals := [.p (.bool v6)] }, List.all [.p (.bool v6)] simpleR = true] (by kernel_rfl) ⟨(idxO_some hv5).1, (map_get (eP (eP eI eI) (eP eI eI)) (idxO_some hv5).2), rfl, (hp1 _ _ hv6), rfl, trivial⟩) ?_
      refine k_cond (b := v6) (by kernel_rfl) (fun hc6_6 => ?_) (fun hc6_6 => ?_)
      · replace h := ite_t hc6_6 h
        refine k_sreg (r_go [(4, .p (.int .i64 x2))] [] [] (by kernel_rfl) trivial) ?_
        refine k_ret ?_
        refine b_r ?_
        refine q_r ?_
        refine lq_r ?_
        refine b_r ?_
        refine q_r ?_
        have hyy := hy_x2 _ (Option.some.inj h).symm
        subst hyy
        have h := hk_x2
        dsimp only [Sum.elim] at h
        obtain rfl := Option.some.inj h
        exact e_ret (ls := [(.p (.int .i64 x2), 4)]) (by kernel_rfl) rfl (by kernel_rfl) rfl
      · replace h := ite_f hc6_6 h
        refine k_skip ?_
        refine b_n ?_
        refine q_n ?_
        refine k_reg (r_go [(0, .d false [.sl none (a0.map (eP (eP eI eI) (eP eI eI)))]), (1, .d false [.fn F1 K1]), (7, .p (.int .i64 (a0.length : Int))), (8, .p (.int .i64 (w64 (x2 + 1))))] [] [] (by kernel_rfl) trivial) ?_
        exact lq_n (w64 (x2 + 1)) (Option.some.inj h).symm (wk_of (by kernel_rfl) (by kernel_rfl))
    · replace h := ite_f hc5_3 h
      refine k_exit ?_
      refine q_x ?_
      refine lq_x ?_
      refine b_x ?_
      have hyy := hy_x2 _ (Option.some.inj h).symm
      subst hyy
      have h := hk_x2
      dsimp only [Sum.elim] at h
      refine q_n ?_
      exact ⟨(), h, (wk_of (by kernel_rfl) (by kernel_rfl))⟩
theorem wk_impl_pieceAt_1 {a0 : ((Int × Int) × (Int × Int))} {c0 : (Int × Int)}  {r : Bool} (h : impl_pieceAt_1 a0 c0 = some r) : Meets Try.prog 69 [.v (.agg #[.int .i64 a0.1.1, .int .i64 a0.1.2, .int .i64 a0.2.1, .int .i64 a0.2.2]), .d false [.pt [.raw (.int .i64 c0.1), .raw (.int .i64 c0.2)]]] { vals := [.p (.bool r)] } := by
  refine Meets_ofL (by kernel_rfl) Try.func69 rfl (by kernel_rfl) (l0 := [(0, .p (.agg #[.int .i64 a0.1.1, .int .i64 a0.1.2, .int .i64 a0.2.1, .int .i64 a0.2.2])), (1, .d false [.pt [.raw (.int .i64 c0.1), .raw (.int .i64 c0.2)]])]) (by kernel_rfl) ?_
  unfold impl_pieceAt_1 at h
  refine k_sreg (r_go [(1, .d false [.pt [.raw (.int .i64 c0.1), .raw (.int .i64 c0.2)]]), (2, .box [.raw (.int .i64 a0.1.1), .raw (.int .i64 a0.1.2), .raw (.int .i64 a0.2.1), .raw (.int .i64 a0.2.2)])] [] [] (by kernel_rfl) trivial) ?_
  replace h := bind_some' h
  obtain ⟨v1, hv1, h⟩ := h
  refine k_sreg (r_go [(3, .p (.bool (!v1)))] [(3, {call := some ([.v (.agg #[.int .i64 a0.1.1, .int .i64 a0.1.2]), .v (.agg #[.int .i64 c0.1, .int .i64 c0.2])], [.p (.bool v1)], true)})] [([.v (.agg #[.int .i64 a0.1.1, .int .i64 a0.1.2]), .v (.agg #[.int .i64 c0.1, .int .i64 c0.2])] : List Arg) = [.v (.agg #[.int .i64 a0.1.1, .int .i64 a0.1.2]), .v (.agg #[.int .i64 c0.1, .int .i64 c0.2])], Meets Try.prog 70 ([.v (.agg #[.int .i64 a0.1.1, .int .i64 a0.1.2]), .v (.agg #[.int .i64 c0.1, .int .i64 c0.2])] ++ []) { vals := [.p (.bool v1)] }, List.all [.p (.bool v1)] simpleR = true] (by kernel_rfl) ⟨rfl, (wk_impl_less hv1), rfl, trivial⟩) ?_
  refine k_ret ?_
  obtain rfl := Option.some.inj h
  exact e_ret (ls := [(.p (.bool (!v1)), 3)]) (by kernel_rfl) rfl (by kernel_rfl) rfl
theorem wk_impl_pieceAt {a0 : (List ((Int × Int) × (Int × Int)))} {a1 : (Int × Int)}  {r : Int} (h : impl_pieceAt a0 a1 = some r) : Meets Try.prog 56 [.d false [.sl none (a0.map (eP (eP eI eI) (eP eI eI)))], .v (.agg #[.int .i64 a1.1, .int .i64 a1.2])] { vals := [.p (.int .i64 r)] } := by
  refine Meets_ofL (by kernel_rfl) Try.func56 rfl (by kernel_rfl) (l0 := [(0, .d false [.sl none (a0.map (eP (eP eI eI) (eP eI eI)))]), (1, .p (.agg #[.int .i64 a1.1, .int .i64 a1.2]))]) (by kernel_rfl) ?_
  unfold impl_pieceAt at h
  refine k_sreg (r_go [(0, .d false [.sl none (a0.map (eP (eP eI eI) (eP eI eI)))]), (3, .box [.raw (.int .i64 a1.1), .raw (.int .i64 a1.2)])] [] [] (by kernel_rfl) trivial) ?_
  refine k_frz 3 [.raw (.int .i64 a1.1), .raw (.int .i64 a1.2)] [.raw (.int .i64 a1.1), .raw (.int .i64 a1.2)] [(0, .d false [.sl none (a0.map (eP (eP eI eI) (eP eI eI)))]), (3, .d false [.pt [.raw (.int .i64 a1.1), .raw (.int .i64 a1.2)]])] (by kernel_rfl) (erc_raw (erc_raw rfl)) (by kernel_rfl) (by kernel_rfl) ?_
  replace h := bind_some' h
  obtain ⟨v1, hv1, h⟩ := h
  refine k_sreg (r_go [(5, .p (.int .i64 v1))] [(2, {call := some ([.d false [.sl none (a0.map (eP (eP eI eI) (eP eI eI)))], .d false [.fn 69 [(false, [.pt [.raw (.int .i64 a1.1), .raw (.int .i64 a1.2)]])]]], [.p (.int .i64 v1)], true)})] [([.d false [.sl none (a0.map (eP (eP eI eI) (eP eI eI)))], .d false [.fn 69 [(false, [.pt [.raw (.int .i64 a1.1), .raw (.int .i64 a1.2)]])]]] : List Arg) = [.d false [.sl none (a0.map (eP (eP eI eI) (eP eI eI)))], .d false [.fn 69 [(false, [.pt [.raw (.int .i64 a1.1), .raw (.int .i64 a1.2)]])]]], Meets Try.prog 68 ([.d false [.sl none (a0.map (eP (eP eI eI) (eP eI eI)))], .d false [.fn 69 [(false, [.pt [.raw (.int .i64 a1.1), .raw (.int .i64 a1.2)]])]]] ++ []) { vals := [.p (.int .i64 v1)] }, List.all [.p (.int .i64 v1)] simpleR = true] (by kernel_rfl) ⟨rfl, (wk_slices_IndexFunc_Limpl_Point_impl_Point_d (fun x0 y hy => wk_impl_pieceAt_1 hy) hv1), rfl, trivial⟩) ?_
  refine k_sreg (r_go [(4, .p (.int .i64 (if (w64 (v1 - 1)) < 0 then 0 else (w64 (v1 - 1)))))] [] [] (by kernel_rfl) trivial) ?_
  refine k_ret ?_
  obtain rfl := Option.some.inj h
  exact e_ret (ls := [(.p (.int .i64 (if (w64 (v1 - 1)) < 0 then 0 else (w64 (v1 - 1)))), 4)]) (by kernel_rfl) rfl (by kernel_rfl) rfl
theorem wk_impl_MultiplyRats {a0 : (Int × Int)} {a1 : (Int × Int)}  {r : ((Int × Int) × Bool)} (h : impl_MultiplyRats a0 a1 = some r) : Meets Try.prog 89 [.v (.agg #[.int .i64 a0.1, .int .i64 a0.2]), .v (.agg #[.int .i64 a1.1, .int .i64 a1.2])] { vals := [.p (.agg #[.int .i64 r.1.1, .int .i64 r.1.2]), .p (.bool r.2)] } := by
  refine Meets_ofL (by kernel_rfl) Try.func89 rfl (by kernel_rfl) (l0 := [(0, .p (.agg #[.int .i64 a0.1, .int .i64 a0.2])), (1, .p (.agg #[.int .i64 a1.1, .int .i64 a1.2]))]) (by kernel_rfl) ?_
  unfold impl_MultiplyRats at h
  refine k_sreg (r_go [(2, .box [.raw (.int .i64 a0.1), .raw (.int .i64 a0.2)]), (3, .box [.raw (.int .i64 a1.1), .raw (.int .i64 a1.2)]), (4, .box [.raw (.int .i64 0), .raw (.int .i64 0)])] [] [] (by kernel_rfl) trivial) ?_
  refine k_seq ?_
  replace h := bind_some' h
  obtain ⟨v1, hv1, h⟩ := h
  refine k_sreg (r_go [(2, .box [.raw (.int .i64 a0.1), .raw (.int .i64 a0.2)]), (3, .box [.raw (.int .i64 a1.1), .raw (.int .i64 a1.2)]), (4, .box [.raw (.int .i64 0), .raw (.int .i64 0)]), (10, .p (.bool (!v1)))] [(3, {call := some ([.d false [.sl none (([a0, a1]).map (eP eI eI))]], [.p (.bool v1)], true)})] [([.d false [.sl none (eraL (([a0, a1]).map (eP eI eI)))]] : List Arg) = [.d false [.sl none (([a0, a1]).map (eP eI eI))]], Meets Try.prog 94 ([.d false [.sl none (([a0, a1]).map (eP eI eI))]] ++ []) { vals := [.p (.bool v1)] }, List.all [.p (.bool v1)] simpleR = true] (by kernel_rfl) ⟨(by simp only [eraL_enc (h := (eP eI eI)) (era_P er_I er_I)]), (wk_impl_areRats hv1), rfl, trivial⟩) ?_
  refine k_cond (b := (!v1)) (by kernel_rfl) (fun hc2_1 => ?_) (fun hc2_1 => ?_)
  · replace h := ite_t hc2_1 h
    refine k_sreg (r_go [(4, .box [.raw (.int .i64 0), .raw (.int .i64 0)]), (5, .p (.bool false))] [] [] (by kernel_rfl) trivial) ?_
    refine k_ret ?_
    refine q_r ?_
    obtain rfl := Option.some.inj h
    exact e_ret (ls := [(.p (.agg #[.int .i64 0, .int .i64 0]), 4), (.p (.bool false), 5)]) (by kernel_rfl) rfl (by kernel_rfl) rfl
  · replace h := ite_f hc2_1 h
    refine k_skip ?_
    refine q_n ?_
    replace h := bind_some' h
    obtain ⟨v3, hv3, h⟩ := h
    refine k_sreg (r_go [(4, .box [.raw (.int .i64 v3.1.1), .raw (.int .i64 v3.1.2)]), (5, .p (.bool v3.2))] [(10, {call := some ([.v (.int .i64 (w64 (a0.1 * a1.1))), .v (.int .i64 (w64 (a0.2 * a1.2)))], [.p (.agg #[.int .i64 v3.1.1, .int .i64 v3.1.2]), .p (.bool v3.2)], true)})] [([.v (.int .i64 (w64 (a0.1 * a1.1))), .v (.int .i64 (w64 (a0.2 * a1.2)))] : List Arg) = [.v (.int .i64 (w64 (a0.1 * a1.1))), .v (.int .i64 (w64 (a0.2 * a1.2)))], Meets Try.prog 95 ([.v (.int .i64 (w64 (a0.1 * a1.1))), .v (.int .i64 (w64 (a0.2 * a1.2)))] ++ []) { vals := [.p (.agg #[.int .i64 v3.1.1, .int .i64 v3.1.2]), .p (.bool v3.2)] }, List.all [.p (.agg #[.int .i64 v3.1.1, .int .i64 v3.1.2]), .p (.bool v3.2)] simpleR = true] (by kernel_rfl) ⟨rfl, (wk_impl_lowest hv3), rfl, trivial⟩) ?_
    refine k_ret ?_
    obtain rfl := Option.some.inj h
    exact e_ret (ls := [(.p (.agg #[.int .i64 v3.1.1, .int .i64 v3.1.2]), 4), (.p (.bool v3.2), 5)]) (by kernel_rfl) rfl (by kernel_rfl) rfl
theorem wk_impl_calc_mul {a0 : Bool} {a1 : (Int × Int)} {a2 : (Int × Int)}  {r : ((Int × Int) × Bool)} (h : impl_calc_mul a0 a1 a2 = some r) : MeetsB Try.prog 72 (.box [.raw (.bool a0)]) [.v (.agg #[.int .i64 a1.1, .int .i64 a1.2]), .v (.agg #[.int .i64 a2.1, .int .i64 a2.2])] [.p (.agg #[.int .i64 r.1.1, .int .i64 r.1.2])] (.box [.raw (.bool r.2)]) := by
  refine MeetsB_ofL (by kernel_rfl) Try.func72 rfl (by kernel_rfl) rfl (l0 := [(0, .box [.raw (.bool a0)]), (1, .p (.agg #[.int .i64 a1.1, .int .i64 a1.2])), (2, .p (.agg #[.int .i64 a2.1, .int .i64 a2.2]))]) (by kernel_rfl) ?_
  unfold impl_calc_mul at h
  refine k_sreg (r_go [(0, .box [.raw (.bool a0)]), (4, .box [.raw (.int .i64 a1.1), .raw (.int .i64 a1.2)]), (5, .box [.raw (.int .i64 a2.1), .raw (.int .i64 a2.2)]), (6, .box [.raw (.int .i64 0), .raw (.int .i64 0)])] [] [] (by kernel_rfl) trivial) ?_
  replace h := bind_some' h
  obtain ⟨v1, hv1, h⟩ := h
  replace h := bind_some' h
  obtain ⟨v2, hv2, h⟩ := h
  refine k_sreg (r_go [(0, .box [.raw (.bool v2.2)]), (6, .box [.raw (.int .i64 v2.1.1), .raw (.int .i64 v2.1.2)])] [(3, {call := some ([.v (.agg #[.int .i64 a1.1, .int .i64 a1.2]), .v (.agg #[.int .i64 a2.1, .int .i64 a2.2])], [.p (.agg #[.int .i64 v1.1.1, .int .i64 v1.1.2]), .p (.bool v1.2)], true)}), (6, {lend := some ([.v (.agg #[.int .i64 v1.1.1, .int .i64 v1.1.2]), .v (.bool v1.2)], [.p (.agg #[.int .i64 v2.1.1, .int .i64 v2.1.2])], .box [.raw (.bool v2.2)], true)})] [([.v (.agg #[.int .i64 a1.1, .int .i64 a1.2]), .v (.agg #[.int .i64 a2.1, .int .i64 a2.2])] : List Arg) = [.v (.agg #[.int .i64 a1.1, .int .i64 a1.2]), .v (.agg #[.int .i64 a2.1, .int .i64 a2.2])], Meets Try.prog 89 ([.v (.agg #[.int .i64 a1.1, .int .i64 a1.2]), .v (.agg #[.int .i64 a2.1, .int .i64 a2.2])] ++ []) { vals := [.p (.agg #[.int .i64 v1.1.1, .int .i64 v1.1.2]), .p (.bool v1.2)] }, List.all [.p (.agg #[.int .i64 v1.1.1, .int .i64 v1.1.2]), .p (.bool v1.2)] simpleR = true, ([.v (.agg #[.int .i64 v1.1.1, .int .i64 v1.1.2]), .v (.bool v1.2)] : List Arg) = [.v (.agg #[.int .i64 v1.1.1, .int .i64 v1.1.2]), .v (.bool v1.2)], MeetsB Try.prog 87 (.box [.raw (.bool a0)]) [.v (.agg #[.int .i64 v1.1.1, .int .i64 v1.1.2]), .v (.bool v1.2)] [.p (.agg #[.int .i64 v2.1.1, .int .i64 v2.1.2])] (.box [.raw (.bool v2.2)]), (List.all [.p (.agg #[.int .i64 v2.1.1, .int .i64 v2.1.2])] simpleR && wnS (.box [.raw (.bool v2.2)])) = true] (by kernel_rfl) ⟨rfl, (wk_impl_MultiplyRats hv1), rfl, rfl, (wk_impl_calc_keep hv2), (ls_t rfl (wnc rfl)), trivial⟩) ?_
  refine k_ret ?_
  obtain rfl := Option.some.inj h
  exact eb_ret (ls := [(.p (.agg #[.int .i64 v2.1.1, .int .i64 v2.1.2]), 6)]) (by kernel_rfl) rfl rfl (by kernel_rfl) (by kernel_rfl)
theorem wk_impl_calc_add {a0 : Bool} {a1 : (Int × Int)} {a2 : (Int × Int)}  {r : ((Int × Int) × Bool)} (h : impl_calc_add a0 a1 a2 = some r) : MeetsB Try.prog 71 (.box [.raw (.bool a0)]) [.v (.agg #[.int .i64 a1.1, .int .i64 a1.2]), .v (.agg #[.int .i64 a2.1, .int .i64 a2.2])] [.p (.agg #[.int .i64 r.1.1, .int .i64 r.1.2])] (.box [.raw (.bool r.2)]) := by
  refine MeetsB_ofL (by kernel_rfl) Try.func71 rfl (by kernel_rfl) rfl (l0 := [(0, .box [.raw (.bool a0)]), (1, .p (.agg #[.int .i64 a1.1, .int .i64 a1.2])), (2, .p (.agg #[.int .i64 a2.1, .int .i64 a2.2]))]) (by kernel_rfl) ?_
  unfold impl_calc_add at h
  refine k_sreg (r_go [(0, .box [.raw (.bool a0)]), (4, .box [.raw (.int .i64 a1.1), .raw (.int .i64 a1.2)]), (5, .box [.raw (.int .i64 a2.1), .raw (.int .i64 a2.2)]), (6, .box [.raw (.int .i64 0), .raw (.int .i64 0)])] [] [] (by kernel_rfl) trivial) ?_
  replace h := bind_some' h
  obtain ⟨v1, hv1, h⟩ := h
  replace h := bind_some' h
  obtain ⟨v2, hv2, h⟩ := h
  refine k_sreg (r_go [(0, .box [.raw (.bool v2.2)]), (6, .box [.raw (.int .i64 v2.1.1), .raw (.int .i64 v2.1.2)])] [(3, {call := some ([.v (.agg #[.int .i64 a1.1, .int .i64 a1.2]), .v (.agg #[.int .i64 a2.1, .int .i64 a2.2])], [.p (.agg #[.int .i64 v1.1.1, .int .i64 v1.1.2]), .p (.bool v1.2)], true)}), (6, {lend := some ([.v (.agg #[.int .i64 v1.1.1, .int .i64 v1.1.2]), .v (.bool v1.2)], [.p (.agg #[.int .i64 v2.1.1, .int .i64 v2.1.2])], .box [.raw (.bool v2.2)], true)})] [([.v (.agg #[.int .i64 a1.1, .int .i64 a1.2]), .v (.agg #[.int .i64 a2.1, .int .i64 a2.2])] : List Arg) = [.v (.agg #[.int .i64 a1.1, .int .i64 a1.2]), .v (.agg #[.int .i64 a2.1, .int .i64 a2.2])], Meets Try.prog 88 ([.v (.agg #[.int .i64 a1.1, .int .i64 a1.2]), .v (.agg #[.int .i64 a2.1, .int .i64 a2.2])] ++ []) { vals := [.p (.agg #[.int .i64 v1.1.1, .int .i64 v1.1.2]), .p (.bool v1.2)] }, List.all [.p (.agg #[.int .i64 v1.1.1, .int .i64 v1.1.2]), .p (.bool v1.2)] simpleR = true, ([.v (.agg #[.int .i64 v1.1.1, .int .i64 v1.1.2]), .v (.bool v1.2)] : List Arg) = [.v (.agg #[.int .i64 v1.1.1, .int .i64 v1.1.2]), .v (.bool v1.2)], MeetsB Try.prog 87 (.box [.raw (.bool a0)]) [.v (.agg #[.int .i64 v1.1.1, .int .i64 v1.1.2]), .v (.bool v1.2)] [.p (.agg #[.int .i64 v2.1.1, .int .i64 v2.1.2])] (.box [.raw (.bool v2.2)]), (List.all [.p (.agg #[.int .i64 v2.1.1, .int .i64 v2.1.2])] simpleR && wnS (.box [.raw (.bool v2.2)])) = true] (by kernel_rfl) ⟨rfl, (wk_impl_AddRats hv1), rfl, rfl, (wk_impl_calc_keep hv2), (ls_t rfl (wnc rfl)), trivial⟩) ?_
  refine k_ret ?_
  obtain rfl := Option.some.inj h
  exact eb_ret (ls := [(.p (.agg #[.int .i64 v2.1.1, .int .i64 v2.1.2]), 6)]) (by kernel_rfl) rfl rfl (by kernel_rfl) (by kernel_rfl)
theorem wk_impl_calc_line {a0 : Bool} {a1 : ((Int × Int) × (Int × Int))} {a2 : (Int × Int)} {a3 : (Int × Int)}  {r : ((Int × Int) × Bool)} (h : impl_calc_line a0 a1 a2 a3 = some r) : MeetsB Try.prog 57 (.box [.raw (.bool a0)]) [.v (.agg #[.int .i64 a1.1.1, .int .i64 a1.1.2, .int .i64 a1.2.1, .int .i64 a1.2.2]), .v (.agg #[.int .i64 a2.1, .int .i64 a2.2]), .v (.agg #[.int .i64 a3.1, .int .i64 a3.2])] [.p (.agg #[.int .i64 r.1.1, .int .i64 r.1.2])] (.box [.raw (.bool r.2)]) := by
  refine MeetsB_ofL (by kernel_rfl) Try.func57 rfl (by kernel_rfl) rfl (l0 := [(0, .box [.raw (.bool a0)]), (1, .p (.agg #[.int .i64 a1.1.1, .int .i64 a1.1.2, .int .i64 a1.2.1, .int .i64 a1.2.2])), (2, .p (.agg #[.int .i64 a2.1, .int .i64 a2.2])), (3, .p (.agg #[.int .i64 a3.1, .int .i64 a3.2]))]) (by kernel_rfl) ?_
  unfold impl_calc_line at h
  refine k_sreg (r_go [(0, .box [.raw (.bool a0)]), (5, .box [.raw (.int .i64 a1.1.1), .raw (.int .i64 a1.1.2), .raw (.int .i64 a1.2.1), .raw (.int .i64 a1.2.2)]), (6, .box [.raw (.int .i64 a2.1), .raw (.int .i64 a2.2)]), (7, .box [.raw (.int .i64 a3.1), .raw (.int .i64 a3.2)]), (8, .box [.raw (.int .i64 0), .raw (.int .i64 0)])] [] [] (by kernel_rfl) trivial) ?_
  replace h := bind_some' h
  obtain ⟨v1, hv1, h⟩ := h
  replace h := bind_some' h
  obtain ⟨v2, hv2, h⟩ := h
  replace h := bind_some' h
  obtain ⟨v3, hv3, h⟩ := h
  refine k_sreg (r_draw Try_mixed 11 [(9, 0), (10, 0)] [(0, .box [.raw (.bool v3.2)]), (8, .box [.raw (.int .i64 v3.1.1), .raw (.int .i64 v3.1.2)])] [(9, {lend := some ([.v (.agg #[.int .i64 a3.1, .int .i64 a3.2]), .v (.agg #[.int .i64 a1.1.1, .int .i64 a1.1.2])], [.p (.agg #[.int .i64 v1.1.1, .int .i64 v1.1.2])], .box [.raw (.bool v1.2)], true)}), (10, {lend := some ([.v (.agg #[.int .i64 a2.1, .int .i64 a2.2]), .v (.agg #[.int .i64 v1.1.1, .int .i64 v1.1.2])], [.p (.agg #[.int .i64 v2.1.1, .int .i64 v2.1.2])], .box [.raw (.bool v2.2)], true)}), (11, {lend := some ([.v (.agg #[.int .i64 a1.2.1, .int .i64 a1.2.2]), .v (.agg #[.int .i64 v2.1.1, .int .i64 v2.1.2])], [.p (.agg #[.int .i64 v3.1.1, .int .i64 v3.1.2])], .box [.raw (.bool v3.2)], true)})] [([.v (.agg #[.int .i64 a3.1, .int .i64 a3.2]), .v (.agg #[.int .i64 a1.1.1, .int .i64 a1.1.2])] : List Arg) = [.v (.agg #[.int .i64 a3.1, .int .i64 a3.2]), .v (.agg #[.int .i64 a1.1.1, .int .i64 a1.1.2])], MeetsB Try.prog 73 (.box [.raw (.bool a0)]) [.v (.agg #[.int .i64 a3.1, .int .i64 a3.2]), .v (.agg #[.int .i64 a1.1.1, .int .i64 a1.1.2])] [.p (.agg #[.int .i64 v1.1.1, .int .i64 v1.1.2])] (.box [.raw (.bool v1.2)]), List.all [.p (.agg #[.int .i64 v1.1.1, .int .i64 v1.1.2])] simpleR = true, ([.v (.agg #[.int .i64 a2.1, .int .i64 a2.2]), .v (.agg #[.int .i64 v1.1.1, .int .i64 v1.1.2])] : List Arg) = [.v (.agg #[.int .i64 a2.1, .int .i64 a2.2]), .v (.agg #[.int .i64 v1.1.1, .int .i64 v1.1.2])], MeetsB Try.prog 72 (.box [.raw (.bool v1.2)]) [.v (.agg #[.int .i64 a2.1, .int .i64 a2.2]), .v (.agg #[.int .i64 v1.1.1, .int .i64 v1.1.2])] [.p (.agg #[.int .i64 v2.1.1, .int .i64 v2.1.2])] (.box [.raw (.bool v2.2)]), List.all [.p (.agg #[.int .i64 v2.1.1, .int .i64 v2.1.2])] simpleR = true, ([.v (.agg #[.int .i64 a1.2.1, .int .i64 a1.2.2]), .v (.agg #[.int .i64 v2.1.1, .int .i64 v2.1.2])] : List Arg) = [.v (.agg #[.int .i64 a1.2.1, .int .i64 a1.2.2]), .v (.agg #[.int .i64 v2.1.1, .int .i64 v2.1.2])], MeetsB Try.prog 71 (.box [.raw (.bool v2.2)]) [.v (.agg #[.int .i64 a1.2.1, .int .i64 a1.2.2]), .v (.agg #[.int .i64 v2.1.1, .int .i64 v2.1.2])] [.p (.agg #[.int .i64 v3.1.1, .int .i64 v3.1.2])] (.box [.raw (.bool v3.2)]), (List.all [.p (.agg #[.int .i64 v3.1.1, .int .i64 v3.1.2])] simpleR && wnS (.box [.raw (.bool v3.2)])) = true] (by kernel_rfl) ⟨rfl, (wk_impl_calc_sub hv1), rfl, rfl, (wk_impl_calc_mul hv2), rfl, rfl, (wk_impl_calc_add hv3), (ls_t rfl (wnc rfl)), trivial⟩) ?_
  refine k_ret ?_
  obtain rfl := Option.some.inj h
  exact eb_ret (ls := [(.p (.agg #[.int .i64 v3.1.1, .int .i64 v3.1.2]), 8)]) (by kernel_rfl) rfl rfl (by kernel_rfl) (by kernel_rfl)
theorem wk_impl_calc_value {a0 : Bool} {a1 : (List ((Int × Int) × (Int × Int)))} {a2 : (Int × Int)}  {r : ((Int × Int) × Bool)} (h : impl_calc_value a0 a1 a2 = some r) : MeetsB Try.prog 48 (.box [.raw (.bool a0)]) [.d false [.sl none (a1.map (eP (eP eI eI) (eP eI eI)))], .v (.agg #[.int .i64 a2.1, .int .i64 a2.2])] [.p (.agg #[.int .i64 r.1.1, .int .i64 r.1.2])] (.box [.raw (.bool r.2)]) := by
  refine MeetsB_ofL (by kernel_rfl) Try.func48 rfl (by kernel_rfl) rfl (l0 := [(0, .box [.raw (.bool a0)]), (1, .d false [.sl none (a1.map (eP (eP eI eI) (eP eI eI)))]), (2, .p (.agg #[.int .i64 a2.1, .int .i64 a2.2]))]) (by kernel_rfl) ?_
  unfold impl_calc_value at h
  refine k_sreg (r_go [(0, .box [.raw (.bool a0)]), (1, .d false [.sl none (a1.map (eP (eP eI eI) (eP eI eI)))]), (5, .box [.raw (.int .i64 a2.1), .raw (.int .i64 a2.2)]), (6, .box [.raw (.int .i64 0), .raw (.int .i64 0)])] [] [] (by kernel_rfl) trivial) ?_
  replace h := bind_some' h
  obtain ⟨v1, hv1, h⟩ := h
  refine k_sreg (r_go [(0, .box [.raw (.bool a0)]), (1, .d false [.sl none (a1.map (eP (eP eI eI) (eP eI eI)))]), (5, .box [.raw (.int .i64 a2.1), .raw (.int .i64 a2.2)]), (6, .box [.raw (.int .i64 0), .raw (.int .i64 0)]), (7, .p (.int .i64 v1))] [(2, {call := some ([.d false [.sl none (a1.map (eP (eP eI eI) (eP eI eI)))], .v (.agg #[.int .i64 a2.1, .int .i64 a2.2])], [.p (.int .i64 v1)], true)})] [([.d false [.sl none (a1.map (eP (eP eI eI) (eP eI eI)))], .v (.agg #[.int .i64 a2.1, .int .i64 a2.2])] : List Arg) = [.d false [.sl none (a1.map (eP (eP eI eI) (eP eI eI)))], .v (.agg #[.int .i64 a2.1, .int .i64 a2.2])], Meets Try.prog 56 ([.d false [.sl none (a1.map (eP (eP eI eI) (eP eI eI)))], .v (.agg #[.int .i64 a2.1, .int .i64 a2.2])] ++ []) { vals := [.p (.int .i64 v1)] }, List.all [.p (.int .i64 v1)] simpleR = true] (by kernel_rfl) ⟨rfl, (wk_impl_pieceAt hv1), rfl, trivial⟩) ?_
  replace h := bind_some' h
  obtain ⟨v2, hv2, h⟩ := h
  replace h := bind_some' h
  obtain ⟨v3, hv3, h⟩ := h
  replace h := bind_some' h
  obtain ⟨v4, hv4, h⟩ := h
  replace h := bind_some' h
  obtain ⟨v5, hv5, h⟩ := h
  refine k_sreg (r_draw Try_mixed 17 [(15, 0)] [(0, .box [.raw (.bool v5.2)]), (6, .box [.raw (.int .i64 v5.1.1), .raw (.int .i64 v5.1.2)])] [(3, {row := some [.raw (.int .i64 v2.1.1), .raw (.int .i64 v2.1.2), .raw (.int .i64 v2.2.1), .raw (.int .i64 v2.2.2)]}), (8, {row := some [.raw (.int .i64 v2.1.1), .raw (.int .i64 v2.1.2), .raw (.int .i64 v2.2.1), .raw (.int .i64 v2.2.2)]}), (13, {row := some [.raw (.int .i64 v3.1.1), .raw (.int .i64 v3.1.2), .raw (.int .i64 v3.2.1), .raw (.int .i64 v3.2.2)]}), (15, {lend := some ([.v (.agg #[.int .i64 v2.1.1, .int .i64 v2.1.2, .int .i64 v2.2.1, .int .i64 v2.2.2]), .v (.agg #[.int .i64 v3.1.1, .int .i64 v3.1.2, .int .i64 v3.2.1, .int .i64 v3.2.2])], [.p (.agg #[.int .i64 v4.1.1, .int .i64 v4.1.2])], .box [.raw (.bool v4.2)], true)}), (17, {lend := some ([.v (.agg #[.int .i64 v2.1.1, .int .i64 v2.1.2, .int .i64 v2.2.1, .int .i64 v2.2.2]), .v (.agg #[.int .i64 v4.1.1, .int .i64 v4.1.2]), .v (.agg #[.int .i64 a2.1, .int .i64 a2.2])], [.p (.agg #[.int .i64 v5.1.1, .int .i64 v5.1.2])], .box [.raw (.bool v5.2)], true)})] [0 ≤ v1, (a1.map (eP (eP eI eI) (eP eI eI)))[(Int.toNat v1)]? = some [.raw (.int .i64 v2.1.1), .raw (.int .i64 v2.1.2), .raw (.int .i64 v2.2.1), .raw (.int .i64 v2.2.2)], 0 ≤ v1, (a1.map (eP (eP eI eI) (eP eI eI)))[(Int.toNat v1)]? = some [.raw (.int .i64 v2.1.1), .raw (.int .i64 v2.1.2), .raw (.int .i64 v2.2.1), .raw (.int .i64 v2.2.2)], 0 ≤ (w64 (v1 + 1)), (a1.map (eP (eP eI eI) (eP eI eI)))[(Int.toNat (w64 (v1 + 1)))]? = some [.raw (.int .i64 v3.1.1), .raw (.int .i64 v3.1.2), .raw (.int .i64 v3.2.1), .raw (.int .i64 v3.2.2)], ([.v (.agg #[.int .i64 v2.1.1, .int .i64 v2.1.2, .int .i64 v2.2.1, .int .i64 v2.2.2]), .v (.agg #[.int .i64 v3.1.1, .int .i64 v3.1.2, .int .i64 v3.2.1, .int .i64 v3.2.2])] : List Arg) = [.v (.agg #[.int .i64 v2.1.1, .int .i64 v2.1.2, .int .i64 v2.2.1, .int .i64 v2.2.2]), .v (.agg #[.int .i64 v3.1.1, .int .i64 v3.1.2, .int .i64 v3.2.1, .int .i64 v3.2.2])], MeetsB Try.prog 58 (.box [.raw (.bool a0)]) [.v (.agg #[.int .i64 v2.1.1, .int .i64 v2.1.2, .int .i64 v2.2.1, .int .i64 v2.2.2]), .v (.agg #[.int .i64 v3.1.1, .int .i64 v3.1.2, .int .i64 v3.2.1, .int .i64 v3.2.2])] [.p (.agg #[.int .i64 v4.1.1, .int .i64 v4.1.2])] (.box [.raw (.bool v4.2)]), List.all [.p (.agg #[.int .i64 v4.1.1, .int .i64 v4.1.2])] simpleR = true, ([.v (.agg #[.int .i64 v2.1.1, .int .i64 v2.1.2, .int .i64 v2.2.1, .int .i64 v2.2.2]), .v (.agg #[.int .i64 v4.1.1, .int .i64 v4.1.2]), .v (.agg #[.int .i64 a2.1, .int .i64 a2.2])] : List Arg) = [.v (.agg #[.int .i64 v2.1.1, .int .i64 v2.1.2, .int .i64 v2.2.1, .int .i64 v2.2.2]), .v (.agg #[.int .i64 v4.1.1, .int .i64 v4.1.2]), .v (.agg #[.int .i64 a2.1, .int .i64 a2.2])], MeetsB Try.prog 57 (.box [.raw (.bool v4.2)]) [.v (.agg #[.int .i64 v2.1.1, .int .i64 v2.1.2, .int .i64 v2.2.1, .int .i64 v2.2.2]), .v (.agg #[.int .i64 v4.1.1, .int .i64 v4.1.2]), .v (.agg #[.int .i64 a2.1, .int .i64 a2.2])] [.p (.agg #[.int .i64 v5.1.1, .int .i64 v5.1.2])] (.box [.raw (.bool v5.2)]), (List.all [.p (.agg #[.int .i64 v5.1.1, .int .i64 v5.1.2])] simpleR && wnS (.box [.raw (.bool v5.2)])) = true] (by kernel_rfl) ⟨(idxO_some hv2).1, (map_get (eP (eP eI eI) (eP eI eI)) (idxO_some hv2).2), (idxO_some hv2).1, (map_get (eP (eP eI eI) (eP eI eI)) (idxO_some hv2).2), (idxO_some hv3).1, (map_get (eP (eP eI eI) (eP eI eI)) (idxO_some hv3).2), rfl, (wk_impl_calc_slope hv4), rfl, rfl, (wk_impl_calc_line hv5), (ls_t rfl (wnc rfl)), trivial⟩) ?_
  refine k_ret ?_
  obtain rfl := Option.some.inj h
  exact eb_ret (ls := [(.p (.agg #[.int .i64 v5.1.1, .int .i64 v5.1.2]), 6)]) (by kernel_rfl) rfl rfl (by kernel_rfl) (by kernel_rfl)
theorem wk_impl_orbit {a0 : (List ((Int × Int) × (Int × Int)))} {a1 : (Int × Int)} {a2 : Int}  {r : (List (Int × Int))} (h : impl_orbit a0 a1 a2 = some r) : Meets Try.prog 38 [.d false [.sl none (a0.map (eP (eP eI eI) (eP eI eI)))], .v (.agg #[.int .i64 a1.1, .int .i64 a1.2]), .v (.int .i64 a2)] { vals := [.ov false [.sl (some 39) (r.map (eP eI eI))]] } := by
  refine Meets_ofL (by kernel_rfl) Try.func38 rfl (by kernel_rfl) (l0 := [(0, .d false [.sl none (a0.map (eP (eP eI eI) (eP eI eI)))]), (1, .p (.agg #[.int .i64 a1.1, .int .i64 a1.2])), (2, .p (.int .i64 a2))]) (by kernel_rfl) ?_
  unfold impl_orbit at h
  refine k_sreg (r_go [(0, .d false [.sl none (a0.map (eP (eP eI eI) (eP eI eI)))]), (2, .p (.int .i64 a2)), (4, .box [.raw (.int .i64 a1.1), .raw (.int .i64 a1.2)])] [] [] (by kernel_rfl) trivial) ?_
  refine k_sreg (r_go [(0, .d false [.sl none (a0.map (eP (eP eI eI) (eP eI eI)))]), (2, .p (.int .i64 a2)), (4, .box [.raw (.int .i64 a1.1), .raw (.int .i64 a1.2)]), (7, .ov false [.sl (some 39) (([a1]).map (eP eI eI))])] [] [] (by kernel_rfl) trivial) ?_
  refine k_sreg (r_go [(0, .d false [.sl none (a0.map (eP (eP eI eI) (eP eI eI)))]), (2, .p (.int .i64 a2)), (4, .box [.raw (.int .i64 a1.1), .raw (.int .i64 a1.2)]), (7, .ov false [.sl (some 39) (([a1]).map (eP eI eI))]), (8, .box [.raw (.bool false)])] [] [] (by kernel_rfl) trivial) ?_
  refine k_join (J := fun (x : (List (Int × Int))) => [(7, .ov false [.sl (some 39) (x.map (eP eI eI))])]) (K := fun x => impl_orbit_k1 x = some r) (fun x1 h => ?_) ?_
  · unfold impl_orbit_k1 at h
    refine k_sreg (r_go [(6, .ov false [.sl (some 39) (x1.map (eP eI eI))])] [] [] (by kernel_rfl) trivial) ?_
    refine k_ret ?_
    obtain rfl := Option.some.inj h
    exact e_ret (ls := [(.ov false [.sl (some 39) (x1.map (eP eI eI))], 6)]) (by kernel_rfl) rfl (by kernel_rfl) rfl
  · refine k_sreg (r_go [(0, .d false [.sl none (a0.map (eP (eP eI eI) (eP eI eI)))]), (4, .box [.raw (.int .i64 a1.1), .raw (.int .i64 a1.2)]), (7, .ov false [.sl (some 39) (([a1]).map (eP eI eI))]), (8, .box [.raw (.bool false)]), (11, .p (.int .i64 a2)), (12, .p (.int .i64 0))] [] [] (by kernel_rfl) trivial) ?_
    refine k_block ?_
    obtain ⟨y3, hl_x2, hk_x2⟩ := bind_some' h
    clear h
    refine k_loop (J := fun (x : (Int × Int × (List (Int × Int)) × Bool × Int)) => [(0, .d false [.sl none (a0.map (eP (eP eI eI) (eP eI eI)))]), (4, .box [.raw (.int .i64 x.1), .raw (.int .i64 x.2.1)]), (7, .ov false [.sl (some 39) (x.2.2.1.map (eP eI eI))]), (8, .box [.raw (.bool x.2.2.2.1)]), (11, .p (.int .i64 a2)), (12, .p (.int .i64 x.2.2.2.2))]) hl_x2 (wk_of (by kernel_rfl) (by kernel_rfl)) (fun x2 o_x2 h hy_x2 => ?_)
    unfold impl_orbit_b1 at h
    refine k_sreg (r_go [(0, .d false [.sl none (a0.map (eP (eP eI eI) (eP eI eI)))]), (4, .box [.raw (.int .i64 x2.1), .raw (.int .i64 x2.2.1)]), (7, .ov false [.sl (some 39) (x2.2.2.1.map (eP eI eI))]), (8, .box [.raw (.bool x2.2.2.2.1)]), (11, .p (.int .i64 a2)), (12, .p (.int .i64 x2.2.2.2.2)), (13, .p (.bool (decide (x2.2.2.2.2 < a2))))] [] [] (by kernel_rfl) trivial) ?_
    refine k_seq ?_
    refine k_cond (b := (decide (x2.2.2.2.2 < a2))) (by kernel_rfl) (fun hc5_3 => ?_) (fun hc5_3 => ?_)
    · replace h := ite_t hc5_3 h
      refine k_skip ?_
      refine q_n ?_
      refine k_seq ?_
      refine k_block ?_
      refine k_seq ?_
      replace h := bind_some' h
      obtain ⟨v5, hv5, h⟩ := h
      refine k_sreg (r_go [(0, .d false [.sl none (a0.map (eP (eP eI eI) (eP eI eI)))]), (4, .box [.raw (.int .i64 v5.1.1), .raw (.int .i64 v5.1.2)]), (7, .ov false [.sl (some 39) (x2.2.2.1.map (eP eI eI))]), (8, .box [.raw (.bool v5.2)]), (11, .p (.int .i64 a2)), (12, .p (.int .i64 x2.2.2.2.2))] [(2, {lend := some ([.d false [.sl none (a0.map (eP (eP eI eI) (eP eI eI)))], .v (.agg #[.int .i64 x2.1, .int .i64 x2.2.1])], [.p (.agg #[.int .i64 v5.1.1, .int .i64 v5.1.2])], .box [.raw (.bool v5.2)], true)})] [([.d false [.sl none (a0.map (eP (eP eI eI) (eP eI eI)))], .v (.agg #[.int .i64 x2.1, .int .i64 x2.2.1])] : List Arg) = [.d false [.sl none (a0.map (eP (eP eI eI) (eP eI eI)))], .v (.agg #[.int .i64 x2.1, .int .i64 x2.2.1])], MeetsB Try.prog 48 (.box [.raw (.bool x2.2.2.2.1)]) [.d false [.sl none (a0.map (eP (eP eI eI) (eP eI eI)))], .v (.agg #[.int .i64 x2.1, .int .i64 x2.2.1])] [.p (.agg #[.int .i64 v5.1.1, .int .i64 v5.1.2])] (.box [.raw (.bool v5.2)]), (List.all [.p (.agg #[.int .i64 v5.1.1, .int .i64 v5.1.2])] simpleR && wnS (.box [.raw (.bool v5.2)])) = true] (by kernel_rfl) ⟨rfl, (wk_impl_calc_value hv5), (ls_t rfl (wnc rfl)), trivial⟩) ?_
      refine k_sreg (r_go [(0, .d false [.sl none (a0.map (eP (eP eI eI) (eP eI eI)))]), (4, .box [.raw (.int .i64 v5.1.1), .raw (.int .i64 v5.1.2)]), (7, .ov false [.sl (some 39) (x2.2.2.1.map (eP eI eI))]), (8, .box [.raw (.bool v5.2)]), (11, .p (.int .i64 a2)), (12, .p (.int .i64 x2.2.2.2.2)), (18, .p (.bool v5.2))] [] [] (by kernel_rfl) trivial) ?_
      refine k_cond (b := v5.2) (by kernel_rfl) (fun hc7_5 => ?_) (fun hc7_5 => ?_)
      · replace h := ite_t hc7_5 h
        refine k_exit ?_
        refine q_x ?_
        refine b_y rfl ?_
        refine q_x ?_
        refine lq_x ?_
        refine b_x ?_
        have hyy := hy_x2 _ (Option.some.inj h).symm
        subst hyy
        have h := hk_x2
        refine q_n ?_
        exact ⟨x2.2.2.1, h, (wk_of (by kernel_rfl) (by kernel_rfl))⟩
      · replace h := ite_f hc7_5 h
        refine k_skip ?_
        refine q_n ?_
        replace h := bind_some' h
        obtain ⟨u7, hu7, h⟩ := h
        refine k_reg (r_go [(0, .d false [.sl none (a0.map (eP (eP eI eI) (eP eI eI)))]), (4, .box [.raw (.int .i64 v5.1.1), .raw (.int .i64 v5.1.2)]), (7, .ov false [.sl (some 39) ((x2.2.2.1 ++ [v5.1]).map (eP eI eI))]), (8, .box [.raw (.bool v5.2)]), (11, .p (.int .i64 a2)), (12, .p (.int .i64 x2.2.2.2.2))] [(3, {fix := some (22, .ov false [.sl (some 39) ((x2.2.2.1 ++ [v5.1]).map (eP eI eI))])})] [List.length ((x2.2.2.1.map (eP eI eI)) : List (List C)) + List.length ((([v5.1]).map (eP eI eI)) : List (List C)) ≤ 1099511627776, ∀ row ∈ ((([v5.1]).map (eP eI eI)) : List (List C)), row.length = 2, (SV.ov false [.sl (some 39) ((x2.2.2.1.map (eP eI eI)) ++ (([v5.1]).map (eP eI eI)))] : SV) = .ov false [.sl (some 39) ((x2.2.2.1 ++ [v5.1]).map (eP eI eI))]] (by kernel_rfl) ⟨(by have hg := (guardO_some hu7); simpa using hg), (rows_len fun _ => rfl), (congrArg (fun z => SV.ov false [.sl (some 39) z]) (List.map_append ..).symm), trivial⟩) ?_
        refine b_n ?_
        refine q_n ?_
        refine k_reg (r_go [(0, .d false [.sl none (a0.map (eP (eP eI eI) (eP eI eI)))]), (4, .box [.raw (.int .i64 v5.1.1), .raw (.int .i64 v5.1.2)]), (7, .ov false [.sl (some 39) ((x2.2.2.1 ++ [v5.1]).map (eP eI eI))]), (8, .box [.raw (.bool v5.2)]), (11, .p (.int .i64 a2)), (12, .p (.int .i64 (w64 (x2.2.2.2.2 + 1))))] [] [] (by kernel_rfl) trivial) ?_
        exact lq_n (v5.1.1, v5.1.2, (x2.2.2.1 ++ [v5.1]), v5.2, (w64 (x2.2.2.2.2 + 1))) (Option.some.inj h).symm (wk_of (by kernel_rfl) (by kernel_rfl))
    · replace h := ite_f hc5_3 h
      refine k_exit ?_
      refine q_x ?_
      refine lq_x ?_
      refine b_x ?_
      have hyy := hy_x2 _ (Option.some.inj h).symm
      subst hyy
      have h := hk_x2
      refine q_n ?_
      exact ⟨x2.2.2.1, h, (wk_of (by kernel_rfl) (by kernel_rfl))⟩
theorem wk_impl_kneading {a0 : (List ((Int × Int) × (Int × Int)))} {a1 : Int}  {r : ((List (Int × Int)) × (Int × Int) × Bool)} (h : impl_kneading a0 a1 = some r) : Meets Try.prog 20 [.d false [.sl none (a0.map (eP (eP eI eI) (eP eI eI)))], .v (.int .i64 a1)] { vals := [.d false [.sl none (r.1.map (eP eI eI))], .p (.agg #[.int .i64 r.2.1.1, .int .i64 r.2.1.2]), .p (.bool r.2.2)] } := by
  refine Meets_ofL (by kernel_rfl) Try.func20 rfl (by kernel_rfl) (l0 := [(0, .d false [.sl none (a0.map (eP (eP eI eI) (eP eI eI)))]), (1, .p (.int .i64 a1))]) (by kernel_rfl) ?_
  unfold impl_kneading at h
  refine k_sreg (r_go [(0, .d false [.sl none (a0.map (eP (eP eI eI) (eP eI eI)))]), (1, .p (.int .i64 a1)), (5, .box [.raw (.int .i64 0), .raw (.int .i64 0)])] [(1, {pre := some (4, .d false [.sl none []])})] [(SV.d false (eraR [.sl (some 39) []]) : SV) = .d false [.sl none []]] (by kernel_rfl) ⟨(congrArg (fun z => SV.d false z) (erc_sl rfl rfl)), trivial⟩) ?_
  refine k_seq ?_
  replace h := bind_some' h
  obtain ⟨v1, hv1, h⟩ := h
  replace h := bind_some' h
  obtain ⟨w3, hw3, h⟩ := h
  refine k_sreg (l1 := [(0, .d false [.sl none (a0.map (eP (eP eI eI) (eP eI eI)))]), (1, .p (.int .i64 a1)), (5, .box [.raw (.int .i64 0), .raw (.int .i64 0)]), (16, .p (.bool w3))]) ?_ ?_
  · clear h
    rcases Bool.eq_false_or_eq_true (!v1) with ha0 | ha0
    · replace hw3 := ite_t ha0 hw3
      have hw3 := Option.some.inj hw3
      subst hw3
      exact (r_go [(0, .d false [.sl none (a0.map (eP (eP eI eI) (eP eI eI)))]), (1, .p (.int .i64 a1)), (5, .box [.raw (.int .i64 0), .raw (.int .i64 0)]), (16, .p (.bool true))] [(1, {call := some ([.d false [.sl none (a0.map (eP (eP eI eI) (eP eI eI)))]], [.p (.bool v1)], true)}), (4, {g := some true}), (5, {g := some true}), (6, {g := some true}), (7, {b := some true})] [([.d false [.sl none (a0.map (eP (eP eI eI) (eP eI eI)))]] : List Arg) = [.d false [.sl none (a0.map (eP (eP eI eI) (eP eI eI)))]], Meets Try.prog 35 ([.d false [.sl none (a0.map (eP (eP eI eI) (eP eI eI)))]] ++ []) { vals := [.p (.bool v1)] }, List.all [.p (.bool v1)] simpleR = true, (!v1) = true, (!v1) = true, (!v1) = true, (!v1) = true] (by kernel_rfl) ⟨rfl, (wk_impl_isUnimodal hv1), rfl, ha0, ha0, ha0, ha0, trivial⟩)
    · replace hw3 := ite_f ha0 hw3
      replace hw3 := bind_some' hw3
      obtain ⟨v2, hv2, hw3⟩ := hw3
      have hw3 := Option.some.inj hw3
      subst hw3
      exact (r_go [(0, .d false [.sl none (a0.map (eP (eP eI eI) (eP eI eI)))]), (1, .p (.int .i64 a1)), (5, .box [.raw (.int .i64 0), .raw (.int .i64 0)]), (16, .p (.bool (!v2)))] [(1, {call := some ([.d false [.sl none (a0.map (eP (eP eI eI) (eP eI eI)))]], [.p (.bool v1)], true)}), (4, {g := some false}), (5, {g := some false, call := some ([.v (.int .i64 a1), .v (.int .i64 1), .v (.int .i64 30)], [.p (.bool v2)], true)}), (6, {g := some false}), (7, {b := some false})] [([.d false [.sl none (a0.map (eP (eP eI eI) (eP eI eI)))]] : List Arg) = [.d false [.sl none (a0.map (eP (eP eI eI) (eP eI eI)))]], Meets Try.prog 35 ([.d false [.sl none (a0.map (eP (eP eI eI) (eP eI eI)))]] ++ []) { vals := [.p (.bool v1)] }, List.all [.p (.bool v1)] simpleR = true, (!v1) = false, (!v1) = false, ([.v (.int .i64 a1), .v (.int .i64 1), .v (.int .i64 30)] : List Arg) = [.v (.int .i64 a1), .v (.int .i64 1), .v (.int .i64 30)], Meets Try.prog 36 ([.v (.int .i64 a1), .v (.int .i64 1), .v (.int .i64 30)] ++ []) { vals := [.p (.bool v2)] }, List.all [.p (.bool v2)] simpleR = true, (!v1) = false, (!v1) = false] (by kernel_rfl) ⟨rfl, (wk_impl_isUnimodal hv1), rfl, ha0, ha0, rfl, (wk_impl_within hv2), rfl, ha0, ha0, trivial⟩)
  · refine k_cond (b := w3) (by kernel_rfl) (fun hc2_3 => ?_) (fun hc2_3 => ?_)
    · replace h := ite_t hc2_3 h
      refine k_sreg (r_go [(4, .d false [.sl none []]), (5, .box [.raw (.int .i64 0), .raw (.int .i64 0)]), (6, .p (.bool false))] [(2, {pre := some (4, .d false [.sl none []])})] [(SV.d false (eraR [.sl (some 39) []]) : SV) = .d false [.sl none []]] (by kernel_rfl) ⟨(congrArg (fun z => SV.d false z) (erc_sl rfl rfl)), trivial⟩) ?_
      refine k_ret ?_
      refine q_r ?_
      obtain rfl := Option.some.inj h
      exact e_ret (ls := [(.d false [.sl none []], 4), (.p (.agg #[.int .i64 0, .int .i64 0]), 5), (.p (.bool false), 6)]) (by kernel_rfl) rfl (by kernel_rfl) rfl
    · replace h := ite_f hc2_3 h
      refine k_skip ?_
      refine q_n ?_
      replace h := bind_some' h
      obtain ⟨v5, hv5, h⟩ := h
      replace h := bind_some' h
      obtain ⟨v6, hv6, h⟩ := h
      refine k_sreg (r_go [(0, .d false [.sl none (a0.map (eP (eP eI eI) (eP eI eI)))]), (1, .p (.int .i64 a1)), (5, .box [.raw (.int .i64 0), .raw (.int .i64 0)]), (7, .box [.raw (.int .i64 v6.1), .raw (.int .i64 v6.2)])] [(1, {call := some ([.d false [.sl none (a0.map (eP (eP eI eI) (eP eI eI)))]], [.ov false [.sl (some 39) (v5.map (eP eI eI))]], true)}), (2, {row := some [.raw (.int .i64 v6.1), .raw (.int .i64 v6.2)]}), (3, {row := some [.raw (.int .i64 v6.1), .raw (.int .i64 v6.2)]})] [([.d false [.sl none (a0.map (eP (eP eI eI) (eP eI eI)))]] : List Arg) = [.d false [.sl none (a0.map (eP (eP eI eI) (eP eI eI)))]], Meets Try.prog 37 ([.d false [.sl none (a0.map (eP (eP eI eI) (eP eI eI)))]] ++ []) { vals := [.ov false [.sl (some 39) (v5.map (eP eI eI))]] }, List.all [.ov false [.sl (some 39) (v5.map (eP eI eI))]] simpleR = true, 0 ≤ 0, (v5.map (eP eI eI))[(Int.toNat 0)]? = some [.raw (.int .i64 v6.1), .raw (.int .i64 v6.2)], getRow [[.sl (some 39) (v5.map (eP eI eI))]] [(0, 0), ((Int.toNat 0), 0)] = some [.raw (.int .i64 v6.1), .raw (.int .i64 v6.2)]] (by kernel_rfl) ⟨rfl, (wk_impl_turns hv5), (sa_o (wnR1 (wnL_enc (wn_P wn_I wn_I)) rfl) rfl), (idxO_some hv6).1, (map_get (eP eI eI) (idxO_some hv6).2), ((gr0 rfl).trans (gre (map_get (eP eI eI) (idxO_some hv6).2))), trivial⟩) ?_
      replace h := bind_some' h
      obtain ⟨v7, hv7, h⟩ := h
      refine k_sreg (r_go [(1, .p (.int .i64 a1)), (5, .box [.raw (.int .i64 0), .raw (.int .i64 0)]), (7, .box [.raw (.int .i64 v6.1), .raw (.int .i64 v6.2)]), (8, .d false [.sl none (v7.map (eP eI eI))])] [(3, {call := some ([.d false [.sl none (a0.map (eP (eP eI eI) (eP eI eI)))], .v (.agg #[.int .i64 v6.1, .int .i64 v6.2]), .v (.int .i64 a1)], [.ov false [.sl (some 39) (v7.map (eP eI eI))]], true)}), (4, {pre := some (25, .d false [.sl none (v7.map (eP eI eI))])})] [([.d false [.sl none (a0.map (eP (eP eI eI) (eP eI eI)))], .v (.agg #[.int .i64 v6.1, .int .i64 v6.2]), .v (.int .i64 a1)] : List Arg) = [.d false [.sl none (a0.map (eP (eP eI eI) (eP eI eI)))], .v (.agg #[.int .i64 v6.1, .int .i64 v6.2]), .v (.int .i64 a1)], Meets Try.prog 38 ([.d false [.sl none (a0.map (eP (eP eI eI) (eP eI eI)))], .v (.agg #[.int .i64 v6.1, .int .i64 v6.2]), .v (.int .i64 a1)] ++ []) { vals := [.ov false [.sl (some 39) (v7.map (eP eI eI))]] }, List.all [.ov false [.sl (some 39) (v7.map (eP eI eI))]] simpleR = true, (SV.d false (eraR [.sl (some 39) (v7.map (eP eI eI))]) : SV) = .d false [.sl none (v7.map (eP eI eI))]] (by kernel_rfl) ⟨rfl, (wk_impl_orbit hv7), (sa_o (wnR1 (wnL_enc (wn_P wn_I wn_I)) rfl) rfl), (congrArg (fun z => SV.d false z) (erc_sl (eraL_enc (era_P er_I er_I)) rfl)), trivial⟩) ?_
      refine k_seq ?_
      refine k_sreg (r_go [(5, .box [.raw (.int .i64 0), .raw (.int .i64 0)]), (7, .box [.raw (.int .i64 v6.1), .raw (.int .i64 v6.2)]), (8, .d false [.sl none (v7.map (eP eI eI))]), (29, .p (.bool (decide ((v7.length : Int) ≤ a1))))] [(1, {n := some v7.length})] [(v7.map (eP eI eI)).length = v7.length] (by kernel_rfl) ⟨(List.length_map ..), trivial⟩) ?_
      refine k_cond (b := (decide ((v7.length : Int) ≤ a1))) (by kernel_rfl) (fun hc2_7 => ?_) (fun hc2_7 => ?_)
      · replace h := ite_t hc2_7 h
        refine k_sreg (r_go [(4, .d false [.sl none []]), (5, .box [.raw (.int .i64 0), .raw (.int .i64 0)]), (6, .p (.bool false))] [(2, {pre := some (4, .d false [.sl none []])})] [(SV.d false (eraR [.sl (some 39) []]) : SV) = .d false [.sl none []]] (by kernel_rfl) ⟨(congrArg (fun z => SV.d false z) (erc_sl rfl rfl)), trivial⟩) ?_
        refine k_ret ?_
        refine q_r ?_
        obtain rfl := Option.some.inj h
        exact e_ret (ls := [(.d false [.sl none []], 4), (.p (.agg #[.int .i64 0, .int .i64 0]), 5), (.p (.bool false), 6)]) (by kernel_rfl) rfl (by kernel_rfl) rfl
      · replace h := ite_f hc2_7 h
        refine k_skip ?_
        refine q_n ?_
        replace h := bind_some' h
        obtain ⟨u9, hu9, h⟩ := h
        refine k_sreg (r_draw Try_mixed 4 [] [(4, .d false [.sl none ((v7.drop (Int.toNat 1)).map (eP eI eI))]), (5, .box [.raw (.int .i64 v6.1), .raw (.int .i64 v6.2)]), (6, .p (.bool true))] [(1, {fix := some (32, .d false [.sl none ((v7.drop (Int.toNat 1)).map (eP eI eI))])})] [(Int.toNat 1) ≤ (v7.map (eP eI eI)).length, (v7.map (eP eI eI)).length ≤ (v7.map (eP eI eI)).length, ∀ row ∈ (v7.map (eP eI eI)), row.length = 2, (0 : Int) ≤ 1, (SV.d false [.sl none (((v7.map (eP eI eI)).take (v7.map (eP eI eI)).length).drop (Int.toNat 1))] : SV) = .d false [.sl none ((v7.drop (Int.toNat 1)).map (eP eI eI))]] (by kernel_rfl) ⟨(by have hg := (guardO_some hu9); first | (simp only [List.length_map]; omega) | omega), (Nat.le_refl _), (rows_len fun _ => rfl), (by have hg := (guardO_some hu9); omega), (congrArg (fun z => SV.d false [.sl none z]) sl_lo), trivial⟩) ?_
        refine k_ret ?_
        obtain rfl := Option.some.inj h
        exact e_ret (ls := [(.d false [.sl none ((v7.drop (Int.toNat 1)).map (eP eI eI))], 4), (.p (.agg #[.int .i64 v6.1, .int .i64 v6.2]), 5), (.p (.bool true), 6)]) (by kernel_rfl) rfl (by kernel_rfl) rfl
theorem wk_slices_Clone_Limpl_Rat_impl_Rat {a0 : (List (Int × Int))} {r : (List (Int × Int))} (h : slices_Clone_Limpl_Rat_impl_Rat a0 = some r) : Meets Try.prog 26 [.d false [.sl none (a0.map (eP eI eI))]] { vals := [.ov false [.sl (some 39) (r.map (eP eI eI))]] } := by
  refine Meets_ofL (by kernel_rfl) Try.func26 rfl (by kernel_rfl) (l0 := [(0, .d false [.sl none (a0.map (eP eI eI))])]) (by kernel_rfl) ?_
  unfold slices_Clone_Limpl_Rat_impl_Rat at h
  refine k_sreg (r_go [(0, .d false [.sl none (a0.map (eP eI eI))])] [] [] (by kernel_rfl) trivial) ?_
  refine k_seq ?_
  refine k_nil (e := 39) (z := 0) (d := 4) (rows := (a0.map (eP eI eI))) (fun b => [(0, .d false [.sl none (a0.map (eP eI eI))]), (4, .p (.bool b))]) rfl rfl rfl rfl rfl rfl (by kernel_rfl) rfl (fun v => by cases v <;> kernel_rfl) (fun v => by cases v <;> kernel_rfl) ?_ (fun hnil => ?_)
  · refine k_cond (b := false) (by kernel_rfl) (fun hno => by cases hno) (fun _ => ?_)
    refine k_skip ?_
    refine q_n ?_
    replace h := bind_some' h
    obtain ⟨u2, hu2, h⟩ := h
    refine k_sreg (r_go [(2, .ov false [.sl (some 39) (a0.map (eP eI eI))])] [] [List.length ([] : List (List C)) + List.length ((a0.map (eP eI eI)) : List (List C)) ≤ 1099511627776, ∀ row ∈ ((a0.map (eP eI eI)) : List (List C)), row.length = 2] (by kernel_rfl) ⟨(by have hg := (guardO_some hu2); simpa using hg), (rows_len fun _ => rfl), trivial⟩) ?_
    refine k_ret ?_
    obtain rfl := Option.some.inj h
    exact e_ret (ls := [(.ov false [.sl (some 39) (a0.map (eP eI eI))], 2)]) (by kernel_rfl) rfl (by kernel_rfl) rfl
  · obtain rfl := List.map_eq_nil_iff.1 hnil
    refine k_cond (b := true) (by kernel_rfl) (fun _ => ?_) (fun hno => by cases hno)
    refine k_sreg (r_go [(2, .ov false [.sl (some 39) []])] [] [] (by kernel_rfl) trivial) ?_
    refine k_ret ?_
    refine q_r ?_
    obtain rfl : r = [] := by simp [guardO] at h; first | exact h | exact h.symm
    exact e_ret (ls := [(.ov false [.sl (some 39) []], 2)]) (by kernel_rfl) rfl (by kernel_rfl) rfl
theorem wk_impl_TurningValues {a0 : (List ((Int × Int) × (Int × Int)))} {a1 : Int}  {r : ((List (Int × Int)) × Bool)} (h : impl_TurningValues a0 a1 = some r) : Meets Try.prog 11 [.d false [.sl none (a0.map (eP (eP eI eI) (eP eI eI)))], .v (.int .i64 a1)] { vals := [.ov false [.sl (some 39) (r.1.map (eP eI eI))], .p (.bool r.2)] } := by
  refine Meets_ofL (by kernel_rfl) Try.func11 rfl (by kernel_rfl) (l0 := [(0, .d false [.sl none (a0.map (eP (eP eI eI) (eP eI eI)))]), (1, .p (.int .i64 a1))]) (by kernel_rfl) ?_
  unfold impl_TurningValues at h
  refine k_sreg (r_go [(0, .d false [.sl none (a0.map (eP (eP eI eI) (eP eI eI)))]), (1, .p (.int .i64 a1))] [] [] (by kernel_rfl) trivial) ?_
  replace h := bind_some' h
  obtain ⟨v1, hv1, h⟩ := h
  refine k_sreg (r_go [(6, .d false [.sl none (v1.1.map (eP eI eI))]), (8, .p (.bool v1.2.2))] [(2, {call := some ([.d false [.sl none (a0.map (eP (eP eI eI) (eP eI eI)))], .v (.int .i64 a1)], [.d false [.sl none (v1.1.map (eP eI eI))], .p (.agg #[.int .i64 v1.2.1.1, .int .i64 v1.2.1.2]), .p (.bool v1.2.2)], false)})] [([.d false [.sl none (a0.map (eP (eP eI eI) (eP eI eI)))], .v (.int .i64 a1)] : List Arg) = [.d false [.sl none (a0.map (eP (eP eI eI) (eP eI eI)))], .v (.int .i64 a1)], Meets Try.prog 20 ([.d false [.sl none (a0.map (eP (eP eI eI) (eP eI eI)))], .v (.int .i64 a1)] ++ []) { vals := [.d false [.sl none (v1.1.map (eP eI eI))], .p (.agg #[.int .i64 v1.2.1.1, .int .i64 v1.2.1.2]), .p (.bool v1.2.2)] }, List.all [.d false [.sl none (v1.1.map (eP eI eI))], .p (.agg #[.int .i64 v1.2.1.1, .int .i64 v1.2.1.2]), .p (.bool v1.2.2)] simpleR = false] (by kernel_rfl) ⟨rfl, (wk_impl_kneading hv1), rfl, trivial⟩) ?_
  replace h := bind_some' h
  obtain ⟨v2, hv2, h⟩ := h
  refine k_sreg (r_go [(4, .ov false [.sl (some 39) (v2.map (eP eI eI))]), (5, .p (.bool v1.2.2))] [(1, {call := some ([.d false [.sl none (v1.1.map (eP eI eI))]], [.ov false [.sl (some 39) (v2.map (eP eI eI))]], true)})] [([.d false [.sl none (v1.1.map (eP eI eI))]] : List Arg) = [.d false [.sl none (v1.1.map (eP eI eI))]], Meets Try.prog 26 ([.d false [.sl none (v1.1.map (eP eI eI))]] ++ []) { vals := [.ov false [.sl (some 39) (v2.map (eP eI eI))]] }, List.all [.ov false [.sl (some 39) (v2.map (eP eI eI))]] simpleR = true] (by kernel_rfl) ⟨rfl, (wk_slices_Clone_Limpl_Rat_impl_Rat hv2), (sa_o (wnR1 (wnL_enc (wn_P wn_I wn_I)) rfl) rfl), trivial⟩) ?_
  refine k_ret ?_
  obtain rfl := Option.some.inj h
  exact e_ret (ls := [(.ov false [.sl (some 39) (v2.map (eP eI eI))], 4), (.p (.bool v1.2.2), 5)]) (by kernel_rfl) rfl (by kernel_rfl) rfl
theorem wk_laws_eqRat {a0 : (Int × Int)} {a1 : (Int × Int)}  {r : Bool} (h : laws_eqRat a0 a1 = some r) : Meets Try.prog 27 [.v (.agg #[.int .i64 a0.1, .int .i64 a0.2]), .v (.agg #[.int .i64 a1.1, .int .i64 a1.2])] { vals := [.p (.bool r)] } := by
  refine Meets_ofL (by kernel_rfl) Try.func27 rfl (by kernel_rfl) (l0 := [(0, .p (.agg #[.int .i64 a0.1, .int .i64 a0.2])), (1, .p (.agg #[.int .i64 a1.1, .int .i64 a1.2]))]) (by kernel_rfl) ?_
  unfold laws_eqRat at h
  refine k_sreg (r_go [(2, .box [.raw (.int .i64 a0.1), .raw (.int .i64 a0.2)]), (3, .box [.raw (.int .i64 a1.1), .raw (.int .i64 a1.2)])] [] [] (by kernel_rfl) trivial) ?_
  refine k_seq ?_
  refine k_sreg (r_go [(2, .box [.raw (.int .i64 a0.1), .raw (.int .i64 a0.2)]), (3, .box [.raw (.int .i64 a1.1), .raw (.int .i64 a1.2)]), (9, .p (.bool (a0.1 != a1.1)))] [] [] (by kernel_rfl) trivial) ?_
  refine k_cond (b := (a0.1 != a1.1)) (by kernel_rfl) (fun hc2_0 => ?_) (fun hc2_0 => ?_)
  · replace h := ite_t hc2_0 h
    refine k_sreg (r_go [(4, .p (.bool false))] [] [] (by kernel_rfl) trivial) ?_
    refine k_ret ?_
    refine q_r ?_
    obtain rfl := Option.some.inj h
    exact e_ret (ls := [(.p (.bool false), 4)]) (by kernel_rfl) rfl (by kernel_rfl) rfl
  · replace h := ite_f hc2_0 h
    refine k_skip ?_
    refine q_n ?_
    refine k_seq ?_
    refine k_sreg (r_go [(14, .p (.bool (a0.2 != a1.2)))] [] [] (by kernel_rfl) trivial) ?_
    refine k_cond (b := (a0.2 != a1.2)) (by kernel_rfl) (fun hc2_1 => ?_) (fun hc2_1 => ?_)
    · replace h := ite_t hc2_1 h
      refine k_sreg (r_go [(4, .p (.bool false))] [] [] (by kernel_rfl) trivial) ?_
      refine k_ret ?_
      refine q_r ?_
      obtain rfl := Option.some.inj h
      exact e_ret (ls := [(.p (.bool false), 4)]) (by kernel_rfl) rfl (by kernel_rfl) rfl
    · replace h := ite_f hc2_1 h
      refine k_skip ?_
      refine q_n ?_
      refine k_sreg (r_go [(4, .p (.bool true))] [] [] (by kernel_rfl) trivial) ?_
      refine k_ret ?_
      obtain rfl := Option.some.inj h
      exact e_ret (ls := [(.p (.bool true), 4)]) (by kernel_rfl) rfl (by kernel_rfl) rfl
theorem wk_laws_eqRatS {a0 : (List (Int × Int))} {a1 : (List (Int × Int))}  {r : Bool} (h : laws_eqRatS a0 a1 = some r) : Meets Try.prog 12 [.d false [.sl none (a0.map (eP eI eI))], .d false [.sl none (a1.map (eP eI eI))]] { vals := [.p (.bool r)] } := by
  refine Meets_ofL (by kernel_rfl) Try.func12 rfl (by kernel_rfl) (l0 := [(0, .d false [.sl none (a0.map (eP eI eI))]), (1, .d false [.sl none (a1.map (eP eI eI))])]) (by kernel_rfl) ?_
  unfold laws_eqRatS at h
  refine k_sreg (r_go [(0, .d false [.sl none (a0.map (eP eI eI))]), (1, .d false [.sl none (a1.map (eP eI eI))])] [] [] (by kernel_rfl) trivial) ?_
  refine k_seq ?_
  refine k_sreg (r_go [(0, .d false [.sl none (a0.map (eP eI eI))]), (1, .d false [.sl none (a1.map (eP eI eI))]), (10, .p (.bool ((a0.length : Int) != (a1.length : Int))))] [(1, {n := some a0.length}), (3, {n := some a1.length})] [(a0.map (eP eI eI)).length = a0.length, (a1.map (eP eI eI)).length = a1.length] (by kernel_rfl) ⟨(List.length_map ..), (List.length_map ..), trivial⟩) ?_
  refine k_cond (b := ((a0.length : Int) != (a1.length : Int))) (by kernel_rfl) (fun hc2_0 => ?_) (fun hc2_0 => ?_)
  · replace h := ite_t hc2_0 h
    refine k_sreg (r_go [(4, .p (.bool false))] [] [] (by kernel_rfl) trivial) ?_
    refine k_ret ?_
    refine q_r ?_
    obtain rfl := Option.some.inj h
    exact e_ret (ls := [(.p (.bool false), 4)]) (by kernel_rfl) rfl (by kernel_rfl) rfl
  · replace h := ite_f hc2_0 h
    refine k_skip ?_
    refine q_n ?_
    refine k_join (J := fun (x : Unit) => []) (K := fun x => laws_eqRatS_k1 x = some r) (fun x2 h => ?_) ?_
    · unfold laws_eqRatS_k1 at h
      refine k_sreg (r_go [(4, .p (.bool true))] [] [] (by kernel_rfl) trivial) ?_
      refine k_ret ?_
      obtain rfl := Option.some.inj h
      exact e_ret (ls := [(.p (.bool true), 4)]) (by kernel_rfl) rfl (by kernel_rfl) rfl
    · refine k_sreg (r_go [(0, .d false [.sl none (a0.map (eP eI eI))]), (1, .d false [.sl none (a1.map (eP eI eI))]), (5, .p (.int .i64 0))] [] [] (by kernel_rfl) trivial) ?_
      refine k_block ?_
      obtain ⟨y4, hl_x3, hk_x3⟩ := bind_some' h
      clear h
      refine k_loop (J := fun (x : Int) => [(0, .d false [.sl none (a0.map (eP eI eI))]), (1, .d false [.sl none (a1.map (eP eI eI))]), (5, .p (.int .i64 x))]) hl_x3 (wk_of (by kernel_rfl) (by kernel_rfl)) (fun x3 o_x3 h hy_x3 => ?_)
      unfold laws_eqRatS_b1 at h
      refine k_seq ?_
      refine k_sreg (r_go [(0, .d false [.sl none (a0.map (eP eI eI))]), (1, .d false [.sl none (a1.map (eP eI eI))]), (5, .p (.int .i64 x3)), (14, .p (.bool (decide (x3 < (a0.length : Int)))))] [(2, {n := some a0.length})] [(a0.map (eP eI eI)).length = a0.length] (by kernel_rfl) ⟨(List.length_map ..), trivial⟩) ?_
      refine k_cond (b := (decide (x3 < (a0.length : Int)))) (by kernel_rfl) (fun hc5_4 => ?_) (fun hc5_4 => ?_)
      · replace h := ite_t hc5_4 h
        refine k_skip ?_
        refine q_n ?_
        refine k_seq ?_
        refine k_block ?_
        replace h := bind_some' h
        obtain ⟨v6, hv6, h⟩ := h
        replace h := bind_some' h
        obtain ⟨v7, hv7, h⟩ := h
        replace h := bind_some' h
        obtain ⟨v8, hv8, h⟩ := h
        refine k_sreg (r_draw Try_mixed 8 [] [(0, .d false [.sl none (a0.map (eP eI eI))]), (1, .d false [.sl none (a1.map (eP eI eI))]), (5, .p (.int .i64 x3)), (26, .p (.bool (!v8)))] [(2, {row := some [.raw (.int .i64 v6.1), .raw (.int .i64 v6.2)]}), (6, {row := some [.raw (.int .i64 v7.1), .raw (.int .i64 v7.2)]}), (8, {call := some ([.v (.agg #[.int .i64 v6.1, .int .i64 v6.2]), .v (.agg #[.int .i64 v7.1, .int .i64 v7.2])], [.p (.bool v8)], true)})] [0 ≤ x3, (a0.map (eP eI eI))[(Int.toNat x3)]? = some [.raw (.int .i64 v6.1), .raw (.int .i64 v6.2)], 0 ≤ x3, (a1.map (eP eI eI))[(Int.toNat x3)]? = some [.raw (.int .i64 v7.1), .raw (.int .i64 v7.2)], ([.v (.agg #[.int .i64 v6.1, .int .i64 v6.2]), .v (.agg #[.int .i64 v7.1, .int .i64 v7.2])] : List Arg) = [.v (.agg #[.int .i64 v6.1, .int .i64 v6.2]), .v (.agg #[.int .i64 v7.1, .int .i64 v7.2])], Meets Try.prog 27 ([.v (.agg #[.int .i64 v6.1, .int .i64 v6.2]), .v (.agg #[.int .i64 v7.1, .int .i64 v7.2])] ++ []) { vals := [.p (.bool v8)] }, List.all [.p (.bool v8)] simpleR = true] (by kernel_rfl) ⟨(idxO_some hv6).1, (map_get (eP eI eI) (idxO_some hv6).2), (idxO_some hv7).1, (map_get (eP eI eI) (idxO_some hv7).2), rfl, (wk_laws_eqRat hv8), rfl, trivial⟩) ?_
        refine k_cond (b := (!v8)) (by kernel_rfl) (fun hc6_8 => ?_) (fun hc6_8 => ?_)
        · replace h := ite_t hc6_8 h
          refine k_sreg (r_go [(4, .p (.bool false))] [] [] (by kernel_rfl) trivial) ?_
          refine k_ret ?_
          refine b_r ?_
          refine q_r ?_
          refine lq_r ?_
          refine b_r ?_
          refine q_r ?_
          have hyy := hy_x3 _ (Option.some.inj h).symm
          subst hyy
          have h := hk_x3
          dsimp only [Sum.elim] at h
          obtain rfl := Option.some.inj h
          exact e_ret (ls := [(.p (.bool false), 4)]) (by kernel_rfl) rfl (by kernel_rfl) rfl
        · replace h := ite_f hc6_8 h
          refine k_skip ?_
          refine b_n ?_
          refine q_n ?_
          refine k_reg (r_go [(0, .d false [.sl none (a0.map (eP eI eI))]), (1, .d false [.sl none (a1.map (eP eI eI))]), (5, .p (.int .i64 (w64 (x3 + 1))))] [] [] (by kernel_rfl) trivial) ?_
          exact lq_n (w64 (x3 + 1)) (Option.some.inj h).symm (wk_of (by kernel_rfl) (by kernel_rfl))
      · replace h := ite_f hc5_4 h
        refine k_exit ?_
        refine q_x ?_
        refine lq_x ?_
        refine b_x ?_
        have hyy := hy_x3 _ (Option.some.inj h).symm
        subst hyy
        have h := hk_x3
        dsimp only [Sum.elim] at h
        refine q_n ?_
        exact ⟨(), h, (wk_of (by kernel_rfl) (by kernel_rfl))⟩
theorem wk_laws_eqPoint {a0 : ((Int × Int) × (Int × Int))} {a1 : ((Int × Int) × (Int × Int))}  {r : Bool} (h : laws_eqPoint a0 a1 = some r) : Meets Try.prog 24 [.v (.agg #[.int .i64 a0.1.1, .int .i64 a0.1.2, .int .i64 a0.2.1, .int .i64 a0.2.2]), .v (.agg #[.int .i64 a1.1.1, .int .i64 a1.1.2, .int .i64 a1.2.1, .int .i64 a1.2.2])] { vals := [.p (.bool r)] } := by
  refine Meets_ofL (by kernel_rfl) Try.func24 rfl (by kernel_rfl) (l0 := [(0, .p (.agg #[.int .i64 a0.1.1, .int .i64 a0.1.2, .int .i64 a0.2.1, .int .i64 a0.2.2])), (1, .p (.agg #[.int .i64 a1.1.1, .int .i64 a1.1.2, .int .i64 a1.2.1, .int .i64 a1.2.2]))]) (by kernel_rfl) ?_
  unfold laws_eqPoint at h
  refine k_sreg (r_go [(2, .box [.raw (.int .i64 a0.1.1), .raw (.int .i64 a0.1.2), .raw (.int .i64 a0.2.1), .raw (.int .i64 a0.2.2)]), (3, .box [.raw (.int .i64 a1.1.1), .raw (.int .i64 a1.1.2), .raw (.int .i64 a1.2.1), .raw (.int .i64 a1.2.2)])] [] [] (by kernel_rfl) trivial) ?_
  refine k_seq ?_
  replace h := bind_some' h
  obtain ⟨v1, hv1, h⟩ := h
  refine k_sreg (r_go [(2, .box [.raw (.int .i64 a0.1.1), .raw (.int .i64 a0.1.2), .raw (.int .i64 a0.2.1), .raw (.int .i64 a0.2.2)]), (3, .box [.raw (.int .i64 a1.1.1), .raw (.int .i64 a1.1.2), .raw (.int .i64 a1.2.1), .raw (.int .i64 a1.2.2)]), (10, .p (.bool (!v1)))] [(4, {call := some ([.v (.agg #[.int .i64 a0.1.1, .int .i64 a0.1.2]), .v (.agg #[.int .i64 a1.1.1, .int .i64 a1.1.2])], [.p (.bool v1)], true)})] [([.v (.agg #[.int .i64 a0.1.1, .int .i64 a0.1.2]), .v (.agg #[.int .i64 a1.1.1, .int .i64 a1.1.2])] : List Arg) = [.v (.agg #[.int .i64 a0.1.1, .int .i64 a0.1.2]), .v (.agg #[.int .i64 a1.1.1, .int .i64 a1.1.2])], Meets Try.prog 27 ([.v (.agg #[.int .i64 a0.1.1, .int .i64 a0.1.2]), .v (.agg #[.int .i64 a1.1.1, .int .i64 a1.1.2])] ++ []) { vals := [.p (.bool v1)] }, List.all [.p (.bool v1)] simpleR = true] (by kernel_rfl) ⟨rfl, (wk_laws_eqRat hv1), rfl, trivial⟩) ?_
  refine k_cond (b := (!v1)) (by kernel_rfl) (fun hc2_1 => ?_) (fun hc2_1 => ?_)
  · replace h := ite_t hc2_1 h
    refine k_sreg (r_go [(4, .p (.bool false))] [] [] (by kernel_rfl) trivial) ?_
    refine k_ret ?_
    refine q_r ?_
    obtain rfl := Option.some.inj h
    exact e_ret (ls := [(.p (.bool false), 4)]) (by kernel_rfl) rfl (by kernel_rfl) rfl
  · replace h := ite_f hc2_1 h
    refine k_skip ?_
    refine q_n ?_
    refine k_seq ?_
    replace h := bind_some' h
    obtain ⟨v3, hv3, h⟩ := h
    refine k_sreg (r_go [(16, .p (.bool (!v3)))] [(4, {call := some ([.v (.agg #[.int .i64 a0.2.1, .int .i64 a0.2.2]), .v (.agg #[.int .i64 a1.2.1, .int .i64 a1.2.2])], [.p (.bool v3)], true)})] [([.v (.agg #[.int .i64 a0.2.1, .int .i64 a0.2.2]), .v (.agg #[.int .i64 a1.2.1, .int .i64 a1.2.2])] : List Arg) = [.v (.agg #[.int .i64 a0.2.1, .int .i64 a0.2.2]), .v (.agg #[.int .i64 a1.2.1, .int .i64 a1.2.2])], Meets Try.prog 27 ([.v (.agg #[.int .i64 a0.2.1, .int .i64 a0.2.2]), .v (.agg #[.int .i64 a1.2.1, .int .i64 a1.2.2])] ++ []) { vals := [.p (.bool v3)] }, List.all [.p (.bool v3)] simpleR = true] (by kernel_rfl) ⟨rfl, (wk_laws_eqRat hv3), rfl, trivial⟩) ?_
    refine k_cond (b := (!v3)) (by kernel_rfl) (fun hc2_3 => ?_) (fun hc2_3 => ?_)
    · replace h := ite_t hc2_3 h
      refine k_sreg (r_go [(4, .p (.bool false))] [] [] (by kernel_rfl) trivial) ?_
      refine k_ret ?_
      refine q_r ?_
      obtain rfl := Option.some.inj h
      exact e_ret (ls := [(.p (.bool false), 4)]) (by kernel_rfl) rfl (by kernel_rfl) rfl
    · replace h := ite_f hc2_3 h
      refine k_skip ?_
      refine q_n ?_
      refine k_sreg (r_go [(4, .p (.bool true))] [] [] (by kernel_rfl) trivial) ?_
      refine k_ret ?_
      obtain rfl := Option.some.inj h
      exact e_ret (ls := [(.p (.bool true), 4)]) (by kernel_rfl) rfl (by kernel_rfl) rfl
theorem wk_laws_eqPointS {a0 : (List ((Int × Int) × (Int × Int)))} {a1 : (List ((Int × Int) × (Int × Int)))}  {r : Bool} (h : laws_eqPointS a0 a1 = some r) : Meets Try.prog 9 [.d false [.sl none (a0.map (eP (eP eI eI) (eP eI eI)))], .d false [.sl none (a1.map (eP (eP eI eI) (eP eI eI)))]] { vals := [.p (.bool r)] } := by
  refine Meets_ofL (by kernel_rfl) Try.func9 rfl (by kernel_rfl) (l0 := [(0, .d false [.sl none (a0.map (eP (eP eI eI) (eP eI eI)))]), (1, .d false [.sl none (a1.map (eP (eP eI eI) (eP eI eI)))])]) (by kernel_rfl) ?_
  unfold laws_eqPointS at h
  refine k_sreg (r_go [(0, .d false [.sl none (a0.map (eP (eP eI eI) (eP eI eI)))]), (1, .d false [.sl none (a1.map (eP (eP eI eI) (eP eI eI)))])] [] [] (by kernel_rfl) trivial) ?_
  refine k_seq ?_
  refine k_sreg (r_go [(0, .d false [.sl none (a0.map (eP (eP eI eI) (eP eI eI)))]), (1, .d false [.sl none (a1.map (eP (eP eI eI) (eP eI eI)))]), (10, .p (.bool ((a0.length : Int) != (a1.length : Int))))] [(1, {n := some a0.length}), (3, {n := some a1.length})] [(a0.map (eP (eP eI eI) (eP eI eI))).length = a0.length, (a1.map (eP (eP eI eI) (eP eI eI))).length = a1.length] (by kernel_rfl) ⟨(List.length_map ..), (List.length_map ..), trivial⟩) ?_
  refine k_cond (b := ((a0.length : Int) != (a1.length : Int))) (by kernel_rfl) (fun hc2_0 => ?_) (fun hc2_0 => ?_)
  · replace h := ite_t hc2_0 h
    refine k_sreg (r_go [(4, .p (.bool false))] [] [] (by kernel_rfl) trivial) ?_
    refine k_ret ?_
    refine q_r ?_
    obtain rfl := Option.some.inj h
    exact e_ret (ls := [(.p (.bool false), 4)]) (by kernel_rfl) rfl (by kernel_rfl) rfl
  · replace h := ite_f hc2_0 h
    refine k_skip ?_
    refine q_n ?_
    refine k_join (J := fun (x : Unit) => []) (K := fun x => laws_eqPointS_k1 x = some r) (fun x2 h => ?_) ?_
    · unfold laws_eqPointS_k1 at h
      refine k_sreg (r_go [(4, .p (.bool true))] [] [] (by kernel_rfl) trivial) ?_
      refine k_ret ?_
      obtain rfl := Option.some.inj h
      exact e_ret (ls := [(.p (.bool true), 4)]) (by kernel_rfl) rfl (by kernel_rfl) rfl
    · refine k_sreg (r_go [(0, .d false [.sl none (a0.map (eP (eP eI eI) (eP eI eI)))]), (1, .d false [.sl none (a1.map (eP (eP eI eI) (eP eI eI)))]), (5, .p (.int .i64 0))] [] [] (by kernel_rfl) trivial) ?_
      refine k_block ?_
      obtain ⟨y4, hl_x3, hk_x3⟩ := bind_some' h
      clear h
      refine k_loop (J := fun (x : Int) => [(0, .d false [.sl none (a0.map (eP (eP eI eI) (eP eI eI)))]), (1, .d false [.sl none (a1.map (eP (eP eI eI) (eP eI eI)))]), (5, .p (.int .i64 x))]) hl_x3 (wk_of (by kernel_rfl) (by kernel_rfl)) (fun x3 o_x3 h hy_x3 => ?_)
      unfold laws_eqPointS_b1 at h
      refine k_seq ?_
      refine k_sreg (r_go [(0, .d false [.sl none (a0.map (eP (eP eI eI) (eP eI eI)))]), (1, .d false [.sl none (a1.map (eP (eP eI eI) (eP eI eI)))]), (5, .p (.int .i64 x3)), (14, .p (.bool (decide (x3 < (a0.length : Int)))))] [(2, {n := some a0.length})] [(a0.map (eP (eP eI eI) (eP eI eI))).length = a0.length] (by kernel_rfl) ⟨(List.length_map ..), trivial⟩) ?_
      refine k_cond (b := (decide (x3 < (a0.length : Int)))) (by kernel_rfl) (fun hc5_4 => ?_) (fun hc5_4 => ?_)
      · replace h := ite_t hc5_4 h
        refine k_skip ?_
        refine q_n ?_
        refine k_seq ?_
        refine k_block ?_
        replace h := bind_some' h
        obtain ⟨v6, hv6, h⟩ := h
        replace h := bind_some' h
        obtain ⟨v7, hv7, h⟩ := h
        replace h := bind_some' h
        obtain ⟨v8, hv8, h⟩ := h
        refine k_sreg (r_draw Try_mixed 8 [] [(0, .d false [.sl none (a0.map (eP (eP eI eI) (eP eI eI)))]), (1, .d false [.sl none (a1.map (eP (eP eI eI) (eP eI eI)))]), (5, .p (.int .i64 x3)), (26, .p (.bool (!v8)))] [(2, {row := some [.raw (.int .i64 v6.1.1), .raw (.int .i64 v6.1.2), .raw (.int .i64 v6.2.1), .raw (.int .i64 v6.2.2)]}), (6, {row := some [.raw (.int .i64 v7.1.1), .raw (.int .i64 v7.1.2), .raw (.int .i64 v7.2.1), .raw (.int .i64 v7.2.2)]}), (8, {call := some ([.v (.agg #[.int .i64 v6.1.1, .int .i64 v6.1.2, .int .i64 v6.2.1, .int .i64 v6.2.2]), .v (.agg #[.int .i64 v7.1.1, .int .i64 v7.1.2, .int .i64 v7.2.1, .int .i64 v7.2.2])], [.p (.bool v8)], true)})] [0 ≤ x3, (a0.map (eP (eP eI eI) (eP eI eI)))[(Int.toNat x3)]? = some [.raw (.int .i64 v6.1.1), .raw (.int .i64 v6.1.2), .raw (.int .i64 v6.2.1), .raw (.int .i64 v6.2.2)], 0 ≤ x3, (a1.map (eP (eP eI eI) (eP eI eI)))[(Int.toNat x3)]? = some [.raw (.int .i64 v7.1.1), .raw (.int .i64 v7.1.2), .raw (.int .i64 v7.2.1), .raw (.int .i64 v7.2.2)], ([.v (.agg #[.int .i64 v6.1.1, .int .i64 v6.1.2, .int .i64 v6.2.1, .int .i64 v6.2.2]), .v (.agg #[.int .i64 v7.1.1, .int .i64 v7.1.2, .int .i64 v7.2.1, .int .i64 v7.2.2])] : List Arg) = [.v (.agg #[.int .i64 v6.1.1, .int .i64 v6.1.2, .int .i64 v6.2.1, .int .i64 v6.2.2]), .v (.agg #[.int .i64 v7.1.1, .int .i64 v7.1.2, .int .i64 v7.2.1, .int .i64 v7.2.2])], Meets Try.prog 24 ([.v (.agg #[.int .i64 v6.1.1, .int .i64 v6.1.2, .int .i64 v6.2.1, .int .i64 v6.2.2]), .v (.agg #[.int .i64 v7.1.1, .int .i64 v7.1.2, .int .i64 v7.2.1, .int .i64 v7.2.2])] ++ []) { vals := [.p (.bool v8)] }, List.all [.p (.bool v8)] simpleR = true] (by kernel_rfl) ⟨(idxO_some hv6).1, (map_get (eP (eP eI eI) (eP eI eI)) (idxO_some hv6).2), (idxO_some hv7).1, (map_get (eP (eP eI eI) (eP eI eI)) (idxO_some hv7).2), rfl, (wk_laws_eqPoint hv8), rfl, trivial⟩) ?_
        refine k_cond (b := (!v8)) (by kernel_rfl) (fun hc6_8 => ?_) (fun hc6_8 => ?_)
        · replace h := ite_t hc6_8 h
          refine k_sreg (r_go [(4, .p (.bool false))] [] [] (by kernel_rfl) trivial) ?_
          refine k_ret ?_
          refine b_r ?_
          refine q_r ?_
          refine lq_r ?_
          refine b_r ?_
          refine q_r ?_
          have hyy := hy_x3 _ (Option.some.inj h).symm
          subst hyy
          have h := hk_x3
          dsimp only [Sum.elim] at h
          obtain rfl := Option.some.inj h
          exact e_ret (ls := [(.p (.bool false), 4)]) (by kernel_rfl) rfl (by kernel_rfl) rfl
        · replace h := ite_f hc6_8 h
          refine k_skip ?_
          refine b_n ?_
          refine q_n ?_
          refine k_reg (r_go [(0, .d false [.sl none (a0.map (eP (eP eI eI) (eP eI eI)))]), (1, .d false [.sl none (a1.map (eP (eP eI eI) (eP eI eI)))]), (5, .p (.int .i64 (w64 (x3 + 1))))] [] [] (by kernel_rfl) trivial) ?_
          exact lq_n (w64 (x3 + 1)) (Option.some.inj h).symm (wk_of (by kernel_rfl) (by kernel_rfl))
      · replace h := ite_f hc5_4 h
        refine k_exit ?_
        refine q_x ?_
        refine lq_x ?_
        refine b_x ?_
        have hyy := hy_x3 _ (Option.some.inj h).symm
        subst hyy
        have h := hk_x3
        dsimp only [Sum.elim] at h
        refine q_n ?_
        exact ⟨(), h, (wk_of (by kernel_rfl) (by kernel_rfl))⟩
theorem wk_laws_markPointS {a0 : (List ((Int × Int) × (Int × Int)))} {a1 : Int}  {r : (Int × (List ((Int × Int) × (Int × Int))))} (h : laws_markPointS a0 a1 = some r) : MeetsB Try.prog 13 (.ov false [.sl (some 41) (a0.map (eP (eP eI eI) (eP eI eI)))]) [.v (.int .i64 a1)] [.p (.int .i64 r.1)] (.ov false [.sl (some 41) (r.2.map (eP (eP eI eI) (eP eI eI)))]) := by
  refine MeetsB_ofL (by kernel_rfl) Try.func13 rfl (by kernel_rfl) rfl (l0 := [(0, .ov false [.sl (some 41) (a0.map (eP (eP eI eI) (eP eI eI)))]), (1, .p (.int .i64 a1))]) (by kernel_rfl) ?_
  unfold laws_markPointS at h
  refine k_sreg (r_go [(0, .ov false [.sl (some 41) (a0.map (eP (eP eI eI) (eP eI eI)))]), (1, .p (.int .i64 a1))] [] [] (by kernel_rfl) trivial) ?_
  refine k_join (J := fun (x : ((List ((Int × Int) × (Int × Int))) × Int)) => [(0, .ov false [.sl (some 41) (x.1.map (eP (eP eI eI) (eP eI eI)))]), (1, .p (.int .i64 x.2))]) (K := fun x => laws_markPointS_k1 x = some r) (fun x1 h => ?_) ?_
  · unfold laws_markPointS_k1 at h
    refine k_sreg (r_go [(0, .ov false [.sl (some 41) (x1.1.map (eP (eP eI eI) (eP eI eI)))]), (4, .p (.int .i64 x1.2))] [] [] (by kernel_rfl) trivial) ?_
    refine k_ret ?_
    obtain rfl := Option.some.inj h
    exact eb_ret (ls := [(.p (.int .i64 x1.2), 4)]) (by kernel_rfl) rfl rfl (by kernel_rfl) (by kernel_rfl)
  · refine k_sreg (r_go [(0, .ov false [.sl (some 41) (a0.map (eP (eP eI eI) (eP eI eI)))]), (1, .p (.int .i64 a1)), (5, .p (.int .i64 0))] [] [] (by kernel_rfl) trivial) ?_
    refine k_block ?_
    obtain ⟨y3, hl_x2, hk_x2⟩ := bind_some' h
    clear h
    refine k_loop (J := fun (x : ((List ((Int × Int) × (Int × Int))) × Int × Int)) => [(0, .ov false [.sl (some 41) (x.1.map (eP (eP eI eI) (eP eI eI)))]), (1, .p (.int .i64 x.2.1)), (5, .p (.int .i64 x.2.2))]) hl_x2 (wk_of (by kernel_rfl) (by kernel_rfl)) (fun x2 o_x2 h hy_x2 => ?_)
    unfold laws_markPointS_b1 at h
    refine k_seq ?_
    refine k_sreg (r_go [(0, .ov false [.sl (some 41) (x2.1.map (eP (eP eI eI) (eP eI eI)))]), (1, .p (.int .i64 x2.2.1)), (5, .p (.int .i64 x2.2.2)), (9, .p (.bool (decide (x2.2.2 < (x2.1.length : Int)))))] [(2, {n := some x2.1.length})] [(x2.1.map (eP (eP eI eI) (eP eI eI))).length = x2.1.length] (by kernel_rfl) ⟨(List.length_map ..), trivial⟩) ?_
    refine k_cond (b := (decide (x2.2.2 < (x2.1.length : Int)))) (by kernel_rfl) (fun hc5_3 => ?_) (fun hc5_3 => ?_)
    · replace h := ite_t hc5_3 h
      refine k_skip ?_
      refine q_n ?_
      refine k_seq ?_
      refine k_block ?_
      replace h := bind_some' h
      obtain ⟨v5, hv5, h⟩ := h
      refine k_sreg (r_go [(0, .ov false [.sl (some 41) ((x2.1.set (Int.toNat x2.2.2) ((x2.2.1, v5.1.2), v5.2)).map (eP (eP eI eI) (eP eI eI)))]), (1, .p (.int .i64 x2.2.1)), (5, .p (.int .i64 x2.2.2))] [(3, {row := some [.raw (.int .i64 v5.1.1), .raw (.int .i64 v5.1.2), .raw (.int .i64 v5.2.1), .raw (.int .i64 v5.2.2)]}), (6, {row := some [.raw (.int .i64 v5.1.1), .raw (.int .i64 v5.1.2), .raw (.int .i64 v5.2.1), .raw (.int .i64 v5.2.2)], fix := some (0, .ov false [.sl (some 41) ((x2.1.set (Int.toNat x2.2.2) ((x2.2.1, v5.1.2), v5.2)).map (eP (eP eI eI) (eP eI eI)))])})] [0 ≤ x2.2.2, (x2.1.map (eP (eP eI eI) (eP eI eI)))[(Int.toNat x2.2.2)]? = some [.raw (.int .i64 v5.1.1), .raw (.int .i64 v5.1.2), .raw (.int .i64 v5.2.1), .raw (.int .i64 v5.2.2)], getRow [[.sl (some 41) (x2.1.map (eP (eP eI eI) (eP eI eI)))]] [(0, 0), ((Int.toNat x2.2.2), 0)] = some [.raw (.int .i64 v5.1.1), .raw (.int .i64 v5.1.2), .raw (.int .i64 v5.2.1), .raw (.int .i64 v5.2.2)], (SV.ov false [.sl (some 41) (setL (x2.1.map (eP (eP eI eI) (eP eI eI))) [((Int.toNat x2.2.2), 0)] [.raw (.int .i64 x2.2.1)])] : SV) = .ov false [.sl (some 41) ((x2.1.set (Int.toNat x2.2.2) ((x2.2.1, v5.1.2), v5.2)).map (eP (eP eI eI) (eP eI eI)))]] (by kernel_rfl) ⟨(idxO_some hv5).1, (map_get (eP (eP eI eI) (eP eI eI)) (idxO_some hv5).2), ((gr0 rfl).trans (gre (map_get (eP (eP eI eI) (eP eI eI)) (idxO_some hv5).2))), (congrArg (fun z => SV.ov false [.sl (some 41) z]) (set1 (f := (eP (eP eI eI) (eP eI eI))) (y := ((x2.2.1, v5.1.2), v5.2)) (idxO_some hv5).2 rfl)), trivial⟩) ?_
      refine k_sreg (r_go [(0, .ov false [.sl (some 41) ((x2.1.set (Int.toNat x2.2.2) ((x2.2.1, v5.1.2), v5.2)).map (eP (eP eI eI) (eP eI eI)))]), (1, .p (.int .i64 (w64 (x2.2.1 + 1)))), (5, .p (.int .i64 x2.2.2))] [] [] (by kernel_rfl) trivial) ?_
      replace h := bind_some' h
      obtain ⟨v6, hv6, h⟩ := h
      refine k_sreg (r_go [(0, .ov false [.sl (some 41) (((x2.1.set (Int.toNat x2.2.2) ((x2.2.1, v5.1.2), v5.2)).set (Int.toNat x2.2.2) ((v6.1.1, (w64 (x2.2.1 + 1))), v6.2)).map (eP (eP eI eI) (eP eI eI)))]), (1, .p (.int .i64 (w64 (x2.2.1 + 1)))), (5, .p (.int .i64 x2.2.2))] [(3, {row := some [.raw (.int .i64 v6.1.1), .raw (.int .i64 v6.1.2), .raw (.int .i64 v6.2.1), .raw (.int .i64 v6.2.2)]}), (6, {row := some [.raw (.int .i64 v6.1.2), .raw (.int .i64 v6.2.1), .raw (.int .i64 v6.2.2)], fix := some (0, .ov false [.sl (some 41) (((x2.1.set (Int.toNat x2.2.2) ((x2.2.1, v5.1.2), v5.2)).set (Int.toNat x2.2.2) ((v6.1.1, (w64 (x2.2.1 + 1))), v6.2)).map (eP (eP eI eI) (eP eI eI)))])})] [0 ≤ x2.2.2, ((x2.1.set (Int.toNat x2.2.2) ((x2.2.1, v5.1.2), v5.2)).map (eP (eP eI eI) (eP eI eI)))[(Int.toNat x2.2.2)]? = some [.raw (.int .i64 v6.1.1), .raw (.int .i64 v6.1.2), .raw (.int .i64 v6.2.1), .raw (.int .i64 v6.2.2)], getRow [[.sl (some 41) ((x2.1.set (Int.toNat x2.2.2) ((x2.2.1, v5.1.2), v5.2)).map (eP (eP eI eI) (eP eI eI)))]] [(0, 0), ((Int.toNat x2.2.2), 1)] = some [.raw (.int .i64 v6.1.2), .raw (.int .i64 v6.2.1), .raw (.int .i64 v6.2.2)], (SV.ov false [.sl (some 41) (setL ((x2.1.set (Int.toNat x2.2.2) ((x2.2.1, v5.1.2), v5.2)).map (eP (eP eI eI) (eP eI eI))) [((Int.toNat x2.2.2), 1)] [.raw (.int .i64 (w64 (x2.2.1 + 1)))])] : SV) = .ov false [.sl (some 41) (((x2.1.set (Int.toNat x2.2.2) ((x2.2.1, v5.1.2), v5.2)).set (Int.toNat x2.2.2) ((v6.1.1, (w64 (x2.2.1 + 1))), v6.2)).map (eP (eP eI eI) (eP eI eI)))]] (by kernel_rfl) ⟨(idxO_some hv6).1, (map_get (eP (eP eI eI) (eP eI eI)) (idxO_some hv6).2), ((gr0 rfl).trans (gre (map_get (eP (eP eI eI) (eP eI eI)) (idxO_some hv6).2))), (congrArg (fun z => SV.ov false [.sl (some 41) z]) (set1 (f := (eP (eP eI eI) (eP eI eI))) (y := ((v6.1.1, (w64 (x2.2.1 + 1))), v6.2)) (idxO_some hv6).2 rfl)), trivial⟩) ?_
      refine k_sreg (r_go [(0, .ov false [.sl (some 41) (((x2.1.set (Int.toNat x2.2.2) ((x2.2.1, v5.1.2), v5.2)).set (Int.toNat x2.2.2) ((v6.1.1, (w64 (x2.2.1 + 1))), v6.2)).map (eP (eP eI eI) (eP eI eI)))]), (1, .p (.int .i64 (w64 ((w64 (x2.2.1 + 1)) + 1)))), (5, .p (.int .i64 x2.2.2))] [] [] (by kernel_rfl) trivial) ?_
      replace h := bind_some' h
      obtain ⟨v7, hv7, h⟩ := h
      refine k_sreg (r_go [(0, .ov false [.sl (some 41) ((((x2.1.set (Int.toNat x2.2.2) ((x2.2.1, v5.1.2), v5.2)).set (Int.toNat x2.2.2) ((v6.1.1, (w64 (x2.2.1 + 1))), v6.2)).set (Int.toNat x2.2.2) (v7.1, ((w64 ((w64 (x2.2.1 + 1)) + 1)), v7.2.2))).map (eP (eP eI eI) (eP eI eI)))]), (1, .p (.int .i64 (w64 ((w64 (x2.2.1 + 1)) + 1)))), (5, .p (.int .i64 x2.2.2))] [(3, {row := some [.raw (.int .i64 v7.1.1), .raw (.int .i64 v7.1.2), .raw (.int .i64 v7.2.1), .raw (.int .i64 v7.2.2)]}), (6, {row := some [.raw (.int .i64 v7.2.1), .raw (.int .i64 v7.2.2)], fix := some (0, .ov false [.sl (some 41) ((((x2.1.set (Int.toNat x2.2.2) ((x2.2.1, v5.1.2), v5.2)).set (Int.toNat x2.2.2) ((v6.1.1, (w64 (x2.2.1 + 1))), v6.2)).set (Int.toNat x2.2.2) (v7.1, ((w64 ((w64 (x2.2.1 + 1)) + 1)), v7.2.2))).map (eP (eP eI eI) (eP eI eI)))])})] [0 ≤ x2.2.2, (((x2.1.set (Int.toNat x2.2.2) ((x2.2.1, v5.1.2), v5.2)).set (Int.toNat x2.2.2) ((v6.1.1, (w64 (x2.2.1 + 1))), v6.2)).map (eP (eP eI eI) (eP eI eI)))[(Int.toNat x2.2.2)]? = some [.raw (.int .i64 v7.1.1), .raw (.int .i64 v7.1.2), .raw (.int .i64 v7.2.1), .raw (.int .i64 v7.2.2)], getRow [[.sl (some 41) (((x2.1.set (Int.toNat x2.2.2) ((x2.2.1, v5.1.2), v5.2)).set (Int.toNat x2.2.2) ((v6.1.1, (w64 (x2.2.1 + 1))), v6.2)).map (eP (eP eI eI) (eP eI eI)))]] [(0, 0), ((Int.toNat x2.2.2), 2)] = some [.raw (.int .i64 v7.2.1), .raw (.int .i64 v7.2.2)], (SV.ov false [.sl (some 41) (setL (((x2.1.set (Int.toNat x2.2.2) ((x2.2.1, v5.1.2), v5.2)).set (Int.toNat x2.2.2) ((v6.1.1, (w64 (x2.2.1 + 1))), v6.2)).map (eP (eP eI eI) (eP eI eI))) [((Int.toNat x2.2.2), 2)] [.raw (.int .i64 (w64 ((w64 (x2.2.1 + 1)) + 1)))])] : SV) = .ov false [.sl (some 41) ((((x2.1.set (Int.toNat x2.2.2) ((x2.2.1, v5.1.2), v5.2)).set (Int.toNat x2.2.2) ((v6.1.1, (w64 (x2.2.1 + 1))), v6.2)).set (Int.toNat x2.2.2) (v7.1, ((w64 ((w64 (x2.2.1 + 1)) + 1)), v7.2.2))).map (eP (eP eI eI) (eP eI eI)))]] (by kernel_rfl) ⟨(idxO_some hv7).1, (map_get (eP (eP eI eI) (eP eI eI)) (idxO_some hv7).2), ((gr0 rfl).trans (gre (map_get (eP (eP eI eI) (eP eI eI)) (idxO_some hv7).2))), (congrArg (fun z => SV.ov false [.sl (some 41) z]) (set1 (f := (eP (eP eI eI) (eP eI eI))) (y := (v7.1, ((w64 ((w64 (x2.2.1 + 1)) + 1)), v7.2.2))) (idxO_some hv7).2 rfl)), trivial⟩) ?_
      refine k_sreg (r_go [(0, .ov false [.sl (some 41) ((((x2.1.set (Int.toNat x2.2.2) ((x2.2.1, v5.1.2), v5.2)).set (Int.toNat x2.2.2) ((v6.1.1, (w64 (x2.2.1 + 1))), v6.2)).set (Int.toNat x2.2.2) (v7.1, ((w64 ((w64 (x2.2.1 + 1)) + 1)), v7.2.2))).map (eP (eP eI eI) (eP eI eI)))]), (1, .p (.int .i64 (w64 ((w64 ((w64 (x2.2.1 + 1)) + 1)) + 1)))), (5, .p (.int .i64 x2.2.2))] [] [] (by kernel_rfl) trivial) ?_
      replace h := bind_some' h
      obtain ⟨v8, hv8, h⟩ := h
      refine k_sreg (r_go [(0, .ov false [.sl (some 41) (((((x2.1.set (Int.toNat x2.2.2) ((x2.2.1, v5.1.2), v5.2)).set (Int.toNat x2.2.2) ((v6.1.1, (w64 (x2.2.1 + 1))), v6.2)).set (Int.toNat x2.2.2) (v7.1, ((w64 ((w64 (x2.2.1 + 1)) + 1)), v7.2.2))).set (Int.toNat x2.2.2) (v8.1, (v8.2.1, (w64 ((w64 ((w64 (x2.2.1 + 1)) + 1)) + 1))))).map (eP (eP eI eI) (eP eI eI)))]), (1, .p (.int .i64 (w64 ((w64 ((w64 (x2.2.1 + 1)) + 1)) + 1)))), (5, .p (.int .i64 x2.2.2))] [(3, {row := some [.raw (.int .i64 v8.1.1), .raw (.int .i64 v8.1.2), .raw (.int .i64 v8.2.1), .raw (.int .i64 v8.2.2)]}), (6, {row := some [.raw (.int .i64 v8.2.2)], fix := some (0, .ov false [.sl (some 41) (((((x2.1.set (Int.toNat x2.2.2) ((x2.2.1, v5.1.2), v5.2)).set (Int.toNat x2.2.2) ((v6.1.1, (w64 (x2.2.1 + 1))), v6.2)).set (Int.toNat x2.2.2) (v7.1, ((w64 ((w64 (x2.2.1 + 1)) + 1)), v7.2.2))).set (Int.toNat x2.2.2) (v8.1, (v8.2.1, (w64 ((w64 ((w64 (x2.2.1 + 1)) + 1)) + 1))))).map (eP (eP eI eI) (eP eI eI)))])})] [0 ≤ x2.2.2, ((((x2.1.set (Int.toNat x2.2.2) ((x2.2.1, v5.1.2), v5.2)).set (Int.toNat x2.2.2) ((v6.1.1, (w64 (x2.2.1 + 1))), v6.2)).set (Int.toNat x2.2.2) (v7.1, ((w64 ((w64 (x2.2.1 + 1)) + 1)), v7.2.2))).map (eP (eP eI eI) (eP eI eI)))[(Int.toNat x2.2.2)]? = some [.raw (.int .i64 v8.1.1), .raw (.int .i64 v8.1.2), .raw (.int .i64 v8.2.1), .raw (.int .i64 v8.2.2)], getRow [[.sl (some 41) ((((x2.1.set (Int.toNat x2.2.2) ((x2.2.1, v5.1.2), v5.2)).set (Int.toNat x2.2.2) ((v6.1.1, (w64 (x2.2.1 + 1))), v6.2)).set (Int.toNat x2.2.2) (v7.1, ((w64 ((w64 (x2.2.1 + 1)) + 1)), v7.2.2))).map (eP (eP eI eI) (eP eI eI)))]] [(0, 0), ((Int.toNat x2.2.2), 3)] = some [.raw (.int .i64 v8.2.2)], (SV.ov false [.sl (some 41) (setL ((((x2.1.set (Int.toNat x2.2.2) ((x2.2.1, v5.1.2), v5.2)).set (Int.toNat x2.2.2) ((v6.1.1, (w64 (x2.2.1 + 1))), v6.2)).set (Int.toNat x2.2.2) (v7.1, ((w64 ((w64 (x2.2.1 + 1)) + 1)), v7.2.2))).map (eP (eP eI eI) (eP eI eI))) [((Int.toNat x2.2.2), 3)] [.raw (.int .i64 (w64 ((w64 ((w64 (x2.2.1 + 1)) + 1)) + 1)))])] : SV) = .ov false [.sl (some 41) (((((x2.1.set (Int.toNat x2.2.2) ((x2.2.1, v5.1.2), v5.2)).set (Int.toNat x2.2.2) ((v6.1.1, (w64 (x2.2.1 + 1))), v6.2)).set (Int.toNat x2.2.2) (v7.1, ((w64 ((w64 (x2.2.1 + 1)) + 1)), v7.2.2))).set (Int.toNat x2.2.2) (v8.1, (v8.2.1, (w64 ((w64 ((w64 (x2.2.1 + 1)) + 1)) + 1))))).map (eP (eP eI eI) (eP eI eI)))]] (by kernel_rfl) ⟨(idxO_some hv8).1, (map_get (eP (eP eI eI) (eP eI eI)) (idxO_some hv8).2), ((gr0 rfl).trans (gre (map_get (eP (eP eI eI) (eP eI eI)) (idxO_some hv8).2))), (congrArg (fun z => SV.ov false [.sl (some 41) z]) (set1 (f := (eP (eP eI eI) (eP eI eI))) (y := (v8.1, (v8.2.1, (w64 ((w64 ((w64 (x2.2.1 + 1)) + 1)) + 1))))) (idxO_some hv8).2 rfl)), trivial⟩) ?_
      refine k_reg (r_go [(0, .ov false [.sl (some 41) (((((x2.1.set (Int.toNat x2.2.2) ((x2.2.1, v5.1.2), v5.2)).set (Int.toNat x2.2.2) ((v6.1.1, (w64 (x2.2.1 + 1))), v6.2)).set (Int.toNat x2.2.2) (v7.1, ((w64 ((w64 (x2.2.1 + 1)) + 1)), v7.2.2))).set (Int.toNat x2.2.2) (v8.1, (v8.2.1, (w64 ((w64 ((w64 (x2.2.1 + 1)) + 1)) + 1))))).map (eP (eP eI eI) (eP eI eI)))]), (1, .p (.int .i64 (w64 ((w64 ((w64 ((w64 (x2.2.1 + 1)) + 1)) + 1)) + 1)))), (5, .p (.int .i64 x2.2.2))] [] [] (by kernel_rfl) trivial) ?_
      refine b_n ?_
      refine q_n ?_
      refine k_reg (r_go [(0, .ov false [.sl (some 41) (((((x2.1.set (Int.toNat x2.2.2) ((x2.2.1, v5.1.2), v5.2)).set (Int.toNat x2.2.2) ((v6.1.1, (w64 (x2.2.1 + 1))), v6.2)).set (Int.toNat x2.2.2) (v7.1, ((w64 ((w64 (x2.2.1 + 1)) + 1)), v7.2.2))).set (Int.toNat x2.2.2) (v8.1, (v8.2.1, (w64 ((w64 ((w64 (x2.2.1 + 1)) + 1)) + 1))))).map (eP (eP eI eI) (eP eI eI)))]), (1, .p (.int .i64 (w64 ((w64 ((w64 ((w64 (x2.2.1 + 1)) + 1)) + 1)) + 1)))), (5, .p (.int .i64 (w64 (x2.2.2 + 1))))] [] [] (by kernel_rfl) trivial) ?_
      exact lq_n (((((x2.1.set (Int.toNat x2.2.2) ((x2.2.1, v5.1.2), v5.2)).set (Int.toNat x2.2.2) ((v6.1.1, (w64 (x2.2.1 + 1))), v6.2)).set (Int.toNat x2.2.2) (v7.1, ((w64 ((w64 (x2.2.1 + 1)) + 1)), v7.2.2))).set (Int.toNat x2.2.2) (v8.1, (v8.2.1, (w64 ((w64 ((w64 (x2.2.1 + 1)) + 1)) + 1))))), (w64 ((w64 ((w64 ((w64 (x2.2.1 + 1)) + 1)) + 1)) + 1)), (w64 (x2.2.2 + 1))) (Option.some.inj h).symm (wk_of (by kernel_rfl) (by kernel_rfl))
    · replace h := ite_f hc5_3 h
      refine k_exit ?_
      refine q_x ?_
      refine lq_x ?_
      refine b_x ?_
      have hyy := hy_x2 _ (Option.some.inj h).symm
      subst hyy
      have h := hk_x2
      refine q_n ?_
      exact ⟨(x2.1, x2.2.1), h, (wk_of (by kernel_rfl) (by kernel_rfl))⟩
theorem wk_laws_markRatS {a0 : (List (Int × Int))} {a1 : Int}  {r : (Int × (List (Int × Int)))} (h : laws_markRatS a0 a1 = some r) : MeetsB Try.prog 14 (.ov false [.sl (some 39) (a0.map (eP eI eI))]) [.v (.int .i64 a1)] [.p (.int .i64 r.1)] (.ov false [.sl (some 39) (r.2.map (eP eI eI))]) := by
  refine MeetsB_ofL (by kernel_rfl) Try.func14 rfl (by kernel_rfl) rfl (l0 := [(0, .ov false [.sl (some 39) (a0.map (eP eI eI))]), (1, .p (.int .i64 a1))]) (by kernel_rfl) ?_
  unfold laws_markRatS at h
  refine k_sreg (r_go [(0, .ov false [.sl (some 39) (a0.map (eP eI eI))]), (1, .p (.int .i64 a1))] [] [] (by kernel_rfl) trivial) ?_
  refine k_join (J := fun (x : ((List (Int × Int)) × Int)) => [(0, .ov false [.sl (some 39) (x.1.map (eP eI eI))]), (1, .p (.int .i64 x.2))]) (K := fun x => laws_markRatS_k1 x = some r) (fun x1 h => ?_) ?_
  · unfold laws_markRatS_k1 at h
    refine k_sreg (r_go [(0, .ov false [.sl (some 39) (x1.1.map (eP eI eI))]), (4, .p (.int .i64 x1.2))] [] [] (by kernel_rfl) trivial) ?_
    refine k_ret ?_
    obtain rfl := Option.some.inj h
    exact eb_ret (ls := [(.p (.int .i64 x1.2), 4)]) (by kernel_rfl) rfl rfl (by kernel_rfl) (by kernel_rfl)
  · refine k_sreg (r_go [(0, .ov false [.sl (some 39) (a0.map (eP eI eI))]), (1, .p (.int .i64 a1)), (5, .p (.int .i64 0))] [] [] (by kernel_rfl) trivial) ?_
    refine k_block ?_
    obtain ⟨y3, hl_x2, hk_x2⟩ := bind_some' h
    clear h
    refine k_loop (J := fun (x : ((List (Int × Int)) × Int × Int)) => [(0, .ov false [.sl (some 39) (x.1.map (eP eI eI))]), (1, .p (.int .i64 x.2.1)), (5, .p (.int .i64 x.2.2))]) hl_x2 (wk_of (by kernel_rfl) (by kernel_rfl)) (fun x2 o_x2 h hy_x2 => ?_)
    unfold laws_markRatS_b1 at h
    refine k_seq ?_
    refine k_sreg (r_go [(0, .ov false [.sl (some 39) (x2.1.map (eP eI eI))]), (1, .p (.int .i64 x2.2.1)), (5, .p (.int .i64 x2.2.2)), (9, .p (.bool (decide (x2.2.2 < (x2.1.length : Int)))))] [(2, {n := some x2.1.length})] [(x2.1.map (eP eI eI)).length = x2.1.length] (by kernel_rfl) ⟨(List.length_map ..), trivial⟩) ?_
    refine k_cond (b := (decide (x2.2.2 < (x2.1.length : Int)))) (by kernel_rfl) (fun hc5_3 => ?_) (fun hc5_3 => ?_)
    · replace h := ite_t hc5_3 h
      refine k_skip ?_
      refine q_n ?_
      refine k_seq ?_
      refine k_block ?_
      replace h := bind_some' h
      obtain ⟨v5, hv5, h⟩ := h
      refine k_sreg (r_go [(0, .ov false [.sl (some 39) ((x2.1.set (Int.toNat x2.2.2) (x2.2.1, v5.2)).map (eP eI eI))]), (1, .p (.int .i64 x2.2.1)), (5, .p (.int .i64 x2.2.2))] [(3, {row := some [.raw (.int .i64 v5.1), .raw (.int .i64 v5.2)]}), (5, {row := some [.raw (.int .i64 v5.1), .raw (.int .i64 v5.2)], fix := some (0, .ov false [.sl (some 39) ((x2.1.set (Int.toNat x2.2.2) (x2.2.1, v5.2)).map (eP eI eI))])})] [0 ≤ x2.2.2, (x2.1.map (eP eI eI))[(Int.toNat x2.2.2)]? = some [.raw (.int .i64 v5.1), .raw (.int .i64 v5.2)], getRow [[.sl (some 39) (x2.1.map (eP eI eI))]] [(0, 0), ((Int.toNat x2.2.2), 0)] = some [.raw (.int .i64 v5.1), .raw (.int .i64 v5.2)], (SV.ov false [.sl (some 39) (setL (x2.1.map (eP eI eI)) [((Int.toNat x2.2.2), 0)] [.raw (.int .i64 x2.2.1)])] : SV) = .ov false [.sl (some 39) ((x2.1.set (Int.toNat x2.2.2) (x2.2.1, v5.2)).map (eP eI eI))]] (by kernel_rfl) ⟨(idxO_some hv5).1, (map_get (eP eI eI) (idxO_some hv5).2), ((gr0 rfl).trans (gre (map_get (eP eI eI) (idxO_some hv5).2))), (congrArg (fun z => SV.ov false [.sl (some 39) z]) (set1 (f := (eP eI eI)) (y := (x2.2.1, v5.2)) (idxO_some hv5).2 rfl)), trivial⟩) ?_
      refine k_sreg (r_go [(0, .ov false [.sl (some 39) ((x2.1.set (Int.toNat x2.2.2) (x2.2.1, v5.2)).map (eP eI eI))]), (1, .p (.int .i64 (w64 (x2.2.1 + 1)))), (5, .p (.int .i64 x2.2.2))] [] [] (by kernel_rfl) trivial) ?_
      replace h := bind_some' h
      obtain ⟨v6, hv6, h⟩ := h
      refine k_sreg (r_go [(0, .ov false [.sl (some 39) (((x2.1.set (Int.toNat x2.2.2) (x2.2.1, v5.2)).set (Int.toNat x2.2.2) (v6.1, (w64 (x2.2.1 + 1)))).map (eP eI eI))]), (1, .p (.int .i64 (w64 (x2.2.1 + 1)))), (5, .p (.int .i64 x2.2.2))] [(3, {row := some [.raw (.int .i64 v6.1), .raw (.int .i64 v6.2)]}), (5, {row := some [.raw (.int .i64 v6.2)], fix := some (0, .ov false [.sl (some 39) (((x2.1.set (Int.toNat x2.2.2) (x2.2.1, v5.2)).set (Int.toNat x2.2.2) (v6.1, (w64 (x2.2.1 + 1)))).map (eP eI eI))])})] [0 ≤ x2.2.2, ((x2.1.set (Int.toNat x2.2.2) (x2.2.1, v5.2)).map (eP eI eI))[(Int.toNat x2.2.2)]? = some [.raw (.int .i64 v6.1), .raw (.int .i64 v6.2)], getRow [[.sl (some 39) ((x2.1.set (Int.toNat x2.2.2) (x2.2.1, v5.2)).map (eP eI eI))]] [(0, 0), ((Int.toNat x2.2.2), 1)] = some [.raw (.int .i64 v6.2)], (SV.ov false [.sl (some 39) (setL ((x2.1.set (Int.toNat x2.2.2) (x2.2.1, v5.2)).map (eP eI eI)) [((Int.toNat x2.2.2), 1)] [.raw (.int .i64 (w64 (x2.2.1 + 1)))])] : SV) = .ov false [.sl (some 39) (((x2.1.set (Int.toNat x2.2.2) (x2.2.1, v5.2)).set (Int.toNat x2.2.2) (v6.1, (w64 (x2.2.1 + 1)))).map (eP eI eI))]] (by kernel_rfl) ⟨(idxO_some hv6).1, (map_get (eP eI eI) (idxO_some hv6).2), ((gr0 rfl).trans (gre (map_get (eP eI eI) (idxO_some hv6).2))), (congrArg (fun z => SV.ov false [.sl (some 39) z]) (set1 (f := (eP eI eI)) (y := (v6.1, (w64 (x2.2.1 + 1)))) (idxO_some hv6).2 rfl)), trivial⟩) ?_
      refine k_reg (r_go [(0, .ov false [.sl (some 39) (((x2.1.set (Int.toNat x2.2.2) (x2.2.1, v5.2)).set (Int.toNat x2.2.2) (v6.1, (w64 (x2.2.1 + 1)))).map (eP eI eI))]), (1, .p (.int .i64 (w64 ((w64 (x2.2.1 + 1)) + 1)))), (5, .p (.int .i64 x2.2.2))] [] [] (by kernel_rfl) trivial) ?_
      refine b_n ?_
      refine q_n ?_
      refine k_reg (r_go [(0, .ov false [.sl (some 39) (((x2.1.set (Int.toNat x2.2.2) (x2.2.1, v5.2)).set (Int.toNat x2.2.2) (v6.1, (w64 (x2.2.1 + 1)))).map (eP eI eI))]), (1, .p (.int .i64 (w64 ((w64 (x2.2.1 + 1)) + 1)))), (5, .p (.int .i64 (w64 (x2.2.2 + 1))))] [] [] (by kernel_rfl) trivial) ?_
      exact lq_n (((x2.1.set (Int.toNat x2.2.2) (x2.2.1, v5.2)).set (Int.toNat x2.2.2) (v6.1, (w64 (x2.2.1 + 1)))), (w64 ((w64 (x2.2.1 + 1)) + 1)), (w64 (x2.2.2 + 1))) (Option.some.inj h).symm (wk_of (by kernel_rfl) (by kernel_rfl))
    · replace h := ite_f hc5_3 h
      refine k_exit ?_
      refine q_x ?_
      refine lq_x ?_
      refine b_x ?_
      have hyy := hy_x2 _ (Option.some.inj h).symm
      subst hyy
      have h := hk_x2
      refine q_n ?_
      exact ⟨(x2.1, x2.2.1), h, (wk_of (by kernel_rfl) (by kernel_rfl))⟩
theorem wk_laws_heldRatS {a0 : (List (Int × Int))} {a1 : Int}  {r : Int} (h : laws_heldRatS a0 a1 = some r) : Meets Try.prog 15 [.d false [.sl none (a0.map (eP eI eI))], .v (.int .i64 a1)] { vals := [.p (.int .i64 r)] } := by
  refine Meets_ofL (by kernel_rfl) Try.func15 rfl (by kernel_rfl) (l0 := [(0, .d false [.sl none (a0.map (eP eI eI))]), (1, .p (.int .i64 a1))]) (by kernel_rfl) ?_
  unfold laws_heldRatS at h
  refine k_sreg (r_go [(0, .d false [.sl none (a0.map (eP eI eI))]), (1, .p (.int .i64 a1))] [] [] (by kernel_rfl) trivial) ?_
  refine k_join (J := fun (x : Int) => [(1, .p (.int .i64 x))]) (K := fun x => laws_heldRatS_k1 x = some r) (fun x1 h => ?_) ?_
  · unfold laws_heldRatS_k1 at h
    refine k_sreg (r_go [(4, .p (.int .i64 x1))] [] [] (by kernel_rfl) trivial) ?_
    refine k_ret ?_
    obtain rfl := Option.some.inj h
    exact e_ret (ls := [(.p (.int .i64 x1), 4)]) (by kernel_rfl) rfl (by kernel_rfl) rfl
  · refine k_sreg (r_go [(0, .d false [.sl none (a0.map (eP eI eI))]), (1, .p (.int .i64 a1)), (5, .p (.int .i64 0))] [] [] (by kernel_rfl) trivial) ?_
    refine k_block ?_
    obtain ⟨y3, hl_x2, hk_x2⟩ := bind_some' h
    clear h
    refine k_loop (J := fun (x : (Int × Int)) => [(0, .d false [.sl none (a0.map (eP eI eI))]), (1, .p (.int .i64 x.1)), (5, .p (.int .i64 x.2))]) hl_x2 (wk_of (by kernel_rfl) (by kernel_rfl)) (fun x2 o_x2 h hy_x2 => ?_)
    unfold laws_heldRatS_b1 at h
    refine k_seq ?_
    refine k_sreg (r_go [(0, .d false [.sl none (a0.map (eP eI eI))]), (1, .p (.int .i64 x2.1)), (5, .p (.int .i64 x2.2)), (9, .p (.bool (decide (x2.2 < (a0.length : Int)))))] [(2, {n := some a0.length})] [(a0.map (eP eI eI)).length = a0.length] (by kernel_rfl) ⟨(List.length_map ..), trivial⟩) ?_
    refine k_cond (b := (decide (x2.2 < (a0.length : Int)))) (by kernel_rfl) (fun hc5_3 => ?_) (fun hc5_3 => ?_)
    · replace h := ite_t hc5_3 h
      refine k_skip ?_
      refine q_n ?_
      refine k_seq ?_
      refine k_block ?_
      refine k_seq ?_
      replace h := bind_some' h
      obtain ⟨v5, hv5, h⟩ := h
      refine k_sreg (r_go [(0, .d false [.sl none (a0.map (eP eI eI))]), (1, .p (.int .i64 x2.1)), (5, .p (.int .i64 x2.2)), (18, .p (.bool (v5.1 != x2.1)))] [(2, {row := some [.raw (.int .i64 v5.1), .raw (.int .i64 v5.2)]})] [0 ≤ x2.2, (a0.map (eP eI eI))[(Int.toNat x2.2)]? = some [.raw (.int .i64 v5.1), .raw (.int .i64 v5.2)]] (by kernel_rfl) ⟨(idxO_some hv5).1, (map_get (eP eI eI) (idxO_some hv5).2), trivial⟩) ?_
      refine k_cond (b := (v5.1 != x2.1)) (by kernel_rfl) (fun hc7_5 => ?_) (fun hc7_5 => ?_)
      · replace h := ite_t hc7_5 h
        refine k_sreg (r_go [(4, .p (.int .i64 (-1)))] [] [] (by kernel_rfl) trivial) ?_
        refine k_ret ?_
        refine q_r ?_
        refine b_r ?_
        refine q_r ?_
        refine lq_r ?_
        refine b_r ?_
        refine q_r ?_
        have hyy := hy_x2 _ (Option.some.inj h).symm
        subst hyy
        have h := hk_x2
        dsimp only [Sum.elim] at h
        obtain rfl := Option.some.inj h
        exact e_ret (ls := [(.p (.int .i64 (-1)), 4)]) (by kernel_rfl) rfl (by kernel_rfl) rfl
      · replace h := ite_f hc7_5 h
        refine k_skip ?_
        refine q_n ?_
        refine k_sreg (r_go [(0, .d false [.sl none (a0.map (eP eI eI))]), (1, .p (.int .i64 (w64 (x2.1 + 1)))), (5, .p (.int .i64 x2.2))] [] [] (by kernel_rfl) trivial) ?_
        refine k_seq ?_
        refine k_sreg (r_go [(0, .d false [.sl none (a0.map (eP eI eI))]), (1, .p (.int .i64 (w64 (x2.1 + 1)))), (5, .p (.int .i64 x2.2)), (27, .p (.bool (v5.2 != (w64 (x2.1 + 1)))))] [(2, {row := some [.raw (.int .i64 v5.1), .raw (.int .i64 v5.2)]})] [0 ≤ x2.2, (a0.map (eP eI eI))[(Int.toNat x2.2)]? = some [.raw (.int .i64 v5.1), .raw (.int .i64 v5.2)]] (by kernel_rfl) ⟨(idxO_some hv5).1, (map_get (eP eI eI) (idxO_some hv5).2), trivial⟩) ?_
        refine k_cond (b := (v5.2 != (w64 (x2.1 + 1)))) (by kernel_rfl) (fun hc7_6 => ?_) (fun hc7_6 => ?_)
        · replace h := ite_t hc7_6 h
          refine k_sreg (r_go [(4, .p (.int .i64 (-1)))] [] [] (by kernel_rfl) trivial) ?_
          refine k_ret ?_
          refine q_r ?_
          refine b_r ?_
          refine q_r ?_
          refine lq_r ?_
          refine b_r ?_
          refine q_r ?_
          have hyy := hy_x2 _ (Option.some.inj h).symm
          subst hyy
          have h := hk_x2
          dsimp only [Sum.elim] at h
          obtain rfl := Option.some.inj h
          exact e_ret (ls := [(.p (.int .i64 (-1)), 4)]) (by kernel_rfl) rfl (by kernel_rfl) rfl
        · replace h := ite_f hc7_6 h
          refine k_skip ?_
          refine q_n ?_
          refine k_reg (r_go [(0, .d false [.sl none (a0.map (eP eI eI))]), (1, .p (.int .i64 (w64 ((w64 (x2.1 + 1)) + 1)))), (5, .p (.int .i64 x2.2))] [] [] (by kernel_rfl) trivial) ?_
          refine b_n ?_
          refine q_n ?_
          refine k_reg (r_go [(0, .d false [.sl none (a0.map (eP eI eI))]), (1, .p (.int .i64 (w64 ((w64 (x2.1 + 1)) + 1)))), (5, .p (.int .i64 (w64 (x2.2 + 1))))] [] [] (by kernel_rfl) trivial) ?_
          exact lq_n ((w64 ((w64 (x2.1 + 1)) + 1)), (w64 (x2.2 + 1))) (Option.some.inj h).symm (wk_of (by kernel_rfl) (by kernel_rfl))
    · replace h := ite_f hc5_3 h
      refine k_exit ?_
      refine q_x ?_
      refine lq_x ?_
      refine b_x ?_
      have hyy := hy_x2 _ (Option.some.inj h).symm
      subst hyy
      have h := hk_x2
      dsimp only [Sum.elim] at h
      refine q_n ?_
      exact ⟨x2.1, h, (wk_of (by kernel_rfl) (by kernel_rfl))⟩
theorem wk_laws_FnExactTurningValues {a0 : (List ((Int × Int) × (Int × Int)))} {a1 : Int}  {r : Bool} (h : laws_FnExactTurningValues a0 a1 = some r) : Meets Try.prog 4 [.d false [.sl none (a0.map (eP (eP eI eI) (eP eI eI)))], .v (.int .i64 a1)] { vals := [.p (.bool r)] } := by
  refine Meets_ofL (by kernel_rfl) Try.func4 rfl (by kernel_rfl) (l0 := [(0, .d false [.sl none (a0.map (eP (eP eI eI) (eP eI eI)))]), (1, .p (.int .i64 a1))]) (by kernel_rfl) ?_
  unfold laws_FnExactTurningValues at h
  refine k_sreg (r_go [(0, .d false [.sl none (a0.map (eP (eP eI eI) (eP eI eI)))]), (1, .p (.int .i64 a1))] [] [] (by kernel_rfl) trivial) ?_
  refine k_sreg (r_go [(0, .d false [.sl none (a0.map (eP (eP eI eI) (eP eI eI)))]), (1, .p (.int .i64 a1)), (5, .p (.int .i64 1048576))] [] [] (by kernel_rfl) trivial) ?_
  replace h := bind_some' h
  obtain ⟨v1, hv1, h⟩ := h
  refine k_sreg (r_go [(0, .d false [.sl none (a0.map (eP (eP eI eI) (eP eI eI)))]), (1, .p (.int .i64 a1)), (5, .p (.int .i64 v1))] [(2, {call := some ([.d false [.sl none (a0.map (eP (eP eI eI) (eP eI eI)))], .v (.int .i64 1048576)], [.p (.int .i64 v1)], true)})] [([.d false [.sl none (a0.map (eP (eP eI eI) (eP eI eI)))], .v (.int .i64 1048576)] : List Arg) = [.d false [.sl none (a0.map (eP (eP eI eI) (eP eI eI)))], .v (.int .i64 1048576)], Meets Try.prog 5 ([.d false [.sl none (a0.map (eP (eP eI eI) (eP eI eI)))], .v (.int .i64 1048576)] ++ []) { vals := [.p (.int .i64 v1)] }, List.all [.p (.int .i64 v1)] simpleR = true] (by kernel_rfl) ⟨rfl, (wk_laws_szPointS hv1), rfl, trivial⟩) ?_
  refine k_seq ?_
  refine k_sreg (r_go [(0, .d false [.sl none (a0.map (eP (eP eI eI) (eP eI eI)))]), (1, .p (.int .i64 a1)), (20, .p (.bool (decide (v1 < 0))))] [] [] (by kernel_rfl) trivial) ?_
  refine k_cond (b := (decide (v1 < 0))) (by kernel_rfl) (fun hc2_1 => ?_) (fun hc2_1 => ?_)
  · replace h := ite_t hc2_1 h
    refine k_sreg (r_go [(4, .p (.bool true))] [] [] (by kernel_rfl) trivial) ?_
    refine k_ret ?_
    refine q_r ?_
    obtain rfl := Option.some.inj h
    exact e_ret (ls := [(.p (.bool true), 4)]) (by kernel_rfl) rfl (by kernel_rfl) rfl
  · replace h := ite_f hc2_1 h
    refine k_skip ?_
    refine q_n ?_
    replace h := bind_some' h
    obtain ⟨v3, hv3, h⟩ := h
    replace h := bind_some' h
    obtain ⟨v4, hv4, h⟩ := h
    refine k_sreg (r_go [(0, .d false [.sl none (a0.map (eP (eP eI eI) (eP eI eI)))]), (1, .p (.int .i64 a1)), (6, .d false [.sl none (v4.1.map (eP eI eI))]), (7, .p (.bool v4.2))] [(1, {call := some ([.d false [.sl none (a0.map (eP (eP eI eI) (eP eI eI)))]], [.ov false [.sl (some 41) (v3.map (eP (eP eI eI) (eP eI eI)))]], true)}), (3, {call := some ([.d false [.sl none (v3.map (eP (eP eI eI) (eP eI eI)))], .v (.int .i64 a1)], [.d false [.sl none (v4.1.map (eP eI eI))], .p (.bool v4.2)], false), fix := some (23, .d false [.sl none (v3.map (eP (eP eI eI) (eP eI eI)))])})] [([.d false [.sl none (a0.map (eP (eP eI eI) (eP eI eI)))]] : List Arg) = [.d false [.sl none (a0.map (eP (eP eI eI) (eP eI eI)))]], Meets Try.prog 7 ([.d false [.sl none (a0.map (eP (eP eI eI) (eP eI eI)))]] ++ []) { vals := [.ov false [.sl (some 41) (v3.map (eP (eP eI eI) (eP eI eI)))]] }, List.all [.ov false [.sl (some 41) (v3.map (eP (eP eI eI) (eP eI eI)))]] simpleR = true, ([.d false [.sl none (eraL (v3.map (eP (eP eI eI) (eP eI eI))))], .v (.int .i64 a1)] : List Arg) = [.d false [.sl none (v3.map (eP (eP eI eI) (eP eI eI)))], .v (.int .i64 a1)], Meets Try.prog 10 ([.d false [.sl none (v3.map (eP (eP eI eI) (eP eI eI)))], .v (.int .i64 a1)] ++ []) { vals := [.d false [.sl none (v4.1.map (eP eI eI))], .p (.bool v4.2)] }, List.all [.d false [.sl none (v4.1.map (eP eI eI))], .p (.bool v4.2)] simpleR = false, (SV.d false (eraR [.sl (some 41) (v3.map (eP (eP eI eI) (eP eI eI)))]) : SV) = .d false [.sl none (v3.map (eP (eP eI eI) (eP eI eI)))]] (by kernel_rfl) ⟨rfl, (wk_laws_toPointS hv3), (sa_o (wnR1 (wnL_enc (wn_P (wn_P wn_I wn_I) (wn_P wn_I wn_I))) rfl) rfl), (by simp only [eraL_enc (h := (eP (eP eI eI) (eP eI eI))) (era_P (era_P er_I er_I) (era_P er_I er_I))]), (wk_spec_TurningValues hv4), rfl, (congrArg (fun z => SV.d false z) (erc_sl (eraL_enc (era_P (era_P er_I er_I) (era_P er_I er_I))) rfl)), trivial⟩) ?_
    replace h := bind_some' h
    obtain ⟨v5, hv5, h⟩ := h
    refine k_sreg (r_go [(0, .d false [.sl none (a0.map (eP (eP eI eI) (eP eI eI)))]), (1, .p (.int .i64 a1)), (6, .d false [.sl none (v4.1.map (eP eI eI))]), (7, .p (.bool v4.2)), (8, .ov false [.sl (some 41) (v5.map (eP (eP eI eI) (eP eI eI)))])] [(1, {call := some ([.d false [.sl none (a0.map (eP (eP eI eI) (eP eI eI)))]], [.ov false [.sl (some 41) (v5.map (eP (eP eI eI) (eP eI eI)))]], true)})] [([.d false [.sl none (a0.map (eP (eP eI eI) (eP eI eI)))]] : List Arg) = [.d false [.sl none (a0.map (eP (eP eI eI) (eP eI eI)))]], Meets Try.prog 7 ([.d false [.sl none (a0.map (eP (eP eI eI) (eP eI eI)))]] ++ []) { vals := [.ov false [.sl (some 41) (v5.map (eP (eP eI eI) (eP eI eI)))]] }, List.all [.ov false [.sl (some 41) (v5.map (eP (eP eI eI) (eP eI eI)))]] simpleR = true] (by kernel_rfl) ⟨rfl, (wk_laws_toPointS hv5), (sa_o (wnR1 (wnL_enc (wn_P (wn_P wn_I wn_I) (wn_P wn_I wn_I))) rfl) rfl), trivial⟩) ?_
    replace h := bind_some' h
    obtain ⟨v6, hv6, h⟩ := h
    refine k_sreg (r_go [(0, .d false [.sl none (a0.map (eP (eP eI eI) (eP eI eI)))]), (1, .p (.int .i64 a1)), (6, .d false [.sl none (v4.1.map (eP eI eI))]), (7, .p (.bool v4.2)), (8, .ov false [.sl (some 41) (v5.map (eP (eP eI eI) (eP eI eI)))]), (9, .ov false [.sl (some 39) (v6.1.map (eP eI eI))]), (10, .p (.bool v6.2))] [(2, {call := some ([.d false [.sl none (v5.map (eP (eP eI eI) (eP eI eI)))], .v (.int .i64 a1)], [.ov false [.sl (some 39) (v6.1.map (eP eI eI))], .p (.bool v6.2)], true)})] [([.d false [.sl none (eraL (v5.map (eP (eP eI eI) (eP eI eI))))], .v (.int .i64 a1)] : List Arg) = [.d false [.sl none (v5.map (eP (eP eI eI) (eP eI eI)))], .v (.int .i64 a1)], Meets Try.prog 11 ([.d false [.sl none (v5.map (eP (eP eI eI) (eP eI eI)))], .v (.int .i64 a1)] ++ []) { vals := [.ov false [.sl (some 39) (v6.1.map (eP eI eI))], .p (.bool v6.2)] }, List.all [.ov false [.sl (some 39) (v6.1.map (eP eI eI))], .p (.bool v6.2)] simpleR = true] (by kernel_rfl) ⟨(by simp only [eraL_enc (h := (eP (eP eI eI) (eP eI eI))) (era_P (era_P er_I er_I) (era_P er_I er_I))]), (wk_impl_TurningValues hv6), (sa_o (wnR1 (wnL_enc (wn_P wn_I wn_I)) rfl) (sa_p rfl)), trivial⟩) ?_
    refine k_seq ?_
    replace h := bind_some' h
    obtain ⟨v7, hv7, h⟩ := h
    refine k_sreg (l1 := [(0, .d false [.sl none (a0.map (eP (eP eI eI) (eP eI eI)))]), (1, .p (.int .i64 a1)), (6, .d false [.sl none (v4.1.map (eP eI eI))]), (7, .p (.bool v4.2)), (8, .ov false [.sl (some 41) (v5.map (eP (eP eI eI) (eP eI eI)))]), (9, .ov false [.sl (some 39) (v6.1.map (eP eI eI))]), (10, .p (.bool v6.2)), (44, .p (.bool ((!v7) || (!(v6.2 == v4.2)))))]) ?_ ?_
    · rcases Bool.eq_false_or_eq_true (!v7) with ha1 | ha1
      · exact RegOk.of_eq (l2 := [(0, .d false [.sl none (a0.map (eP (eP eI eI) (eP eI eI)))]), (1, .p (.int .i64 a1)), (6, .d false [.sl none (v4.1.map (eP eI eI))]), (7, .p (.bool v4.2)), (8, .ov false [.sl (some 41) (v5.map (eP (eP eI eI) (eP eI eI)))]), (9, .ov false [.sl (some 39) (v6.1.map (eP eI eI))]), (10, .p (.bool v6.2)), (44, .p (.bool ((!v7) || (!(v6.2 == v4.2)))))]) (r_go [(0, .d false [.sl none (a0.map (eP (eP eI eI) (eP eI eI)))]), (1, .p (.int .i64 a1)), (6, .d false [.sl none (v4.1.map (eP eI eI))]), (7, .p (.bool v4.2)), (8, .ov false [.sl (some 41) (v5.map (eP (eP eI eI) (eP eI eI)))]), (9, .ov false [.sl (some 39) (v6.1.map (eP eI eI))]), (10, .p (.bool v6.2)), (44, .p (.bool true))] [(2, {call := some ([.d false [.sl none (v6.1.map (eP eI eI))], .d false [.sl none (v4.1.map (eP eI eI))]], [.p (.bool v7)], true)}), (5, {g := some true}), (6, {g := some true}), (7, {g := some true}), (8, {b := some true})] [([.d false [.sl none (eraL (v6.1.map (eP eI eI)))], .d false [.sl none (v4.1.map (eP eI eI))]] : List Arg) = [.d false [.sl none (v6.1.map (eP eI eI))], .d false [.sl none (v4.1.map (eP eI eI))]], Meets Try.prog 12 ([.d false [.sl none (v6.1.map (eP eI eI))], .d false [.sl none (v4.1.map (eP eI eI))]] ++ []) { vals := [.p (.bool v7)] }, List.all [.p (.bool v7)] simpleR = true, (!v7) = true, (!v7) = true, (!v7) = true, (!v7) = true] (by kernel_rfl) ⟨(by simp only [eraL_enc (h := (eP eI eI)) (era_P er_I er_I)]), (wk_laws_eqRatS hv7), rfl, ha1, ha1, ha1, ha1, trivial⟩) (by simp [ha1])
      · exact RegOk.of_eq (l2 := [(0, .d false [.sl none (a0.map (eP (eP eI eI) (eP eI eI)))]), (1, .p (.int .i64 a1)), (6, .d false [.sl none (v4.1.map (eP eI eI))]), (7, .p (.bool v4.2)), (8, .ov false [.sl (some 41) (v5.map (eP (eP eI eI) (eP eI eI)))]), (9, .ov false [.sl (some 39) (v6.1.map (eP eI eI))]), (10, .p (.bool v6.2)), (44, .p (.bool ((!v7) || (!(v6.2 == v4.2)))))]) (r_go [(0, .d false [.sl none (a0.map (eP (eP eI eI) (eP eI eI)))]), (1, .p (.int .i64 a1)), (6, .d false [.sl none (v4.1.map (eP eI eI))]), (7, .p (.bool v4.2)), (8, .ov false [.sl (some 41) (v5.map (eP (eP eI eI) (eP eI eI)))]), (9, .ov false [.sl (some 39) (v6.1.map (eP eI eI))]), (10, .p (.bool v6.2)), (44, .p (.bool (!(v6.2 == v4.2))))] [(2, {call := some ([.d false [.sl none (v6.1.map (eP eI eI))], .d false [.sl none (v4.1.map (eP eI eI))]], [.p (.bool v7)], true)}), (5, {g := some false}), (6, {g := some false}), (7, {g := some false}), (8, {b := some false})] [([.d false [.sl none (eraL (v6.1.map (eP eI eI)))], .d false [.sl none (v4.1.map (eP eI eI))]] : List Arg) = [.d false [.sl none (v6.1.map (eP eI eI))], .d false [.sl none (v4.1.map (eP eI eI))]], Meets Try.prog 12 ([.d false [.sl none (v6.1.map (eP eI eI))], .d false [.sl none (v4.1.map (eP eI eI))]] ++ []) { vals := [.p (.bool v7)] }, List.all [.p (.bool v7)] simpleR = true, (!v7) = false, (!v7) = false, (!v7) = false, (!v7) = false] (by kernel_rfl) ⟨(by simp only [eraL_enc (h := (eP eI eI)) (era_P er_I er_I)]), (wk_laws_eqRatS hv7), rfl, ha1, ha1, ha1, ha1, trivial⟩) (by simp [ha1])
    · refine k_cond (b := ((!v7) || (!(v6.2 == v4.2)))) (by kernel_rfl) (fun hc2_7 => ?_) (fun hc2_7 => ?_)
      · replace h := ite_t hc2_7 h
        refine k_sreg (r_go [(4, .p (.bool false))] [] [] (by kernel_rfl) trivial) ?_
        refine k_ret ?_
        refine q_r ?_
        obtain rfl := Option.some.inj h
        exact e_ret (ls := [(.p (.bool false), 4)]) (by kernel_rfl) rfl (by kernel_rfl) rfl
      · replace h := ite_f hc2_7 h
        refine k_skip ?_
        refine q_n ?_
        refine k_seq ?_
        replace h := bind_some' h
        obtain ⟨v9, hv9, h⟩ := h
        replace h := bind_some' h
        obtain ⟨v10, hv10, h⟩ := h
        refine k_sreg (r_go [(0, .d false [.sl none (a0.map (eP (eP eI eI) (eP eI eI)))]), (1, .p (.int .i64 a1)), (6, .d false [.sl none (v4.1.map (eP eI eI))]), (7, .p (.bool v4.2)), (8, .ov false [.sl (some 41) (v5.map (eP (eP eI eI) (eP eI eI)))]), (9, .ov false [.sl (some 39) (v6.1.map (eP eI eI))]), (10, .p (.bool v6.2)), (49, .p (.bool (!v10)))] [(2, {call := some ([.d false [.sl none (a0.map (eP (eP eI eI) (eP eI eI)))]], [.ov false [.sl (some 41) (v9.map (eP (eP eI eI) (eP eI eI)))]], true)}), (3, {call := some ([.d false [.sl none (v5.map (eP (eP eI eI) (eP eI eI)))], .d false [.sl none (v9.map (eP (eP eI eI) (eP eI eI)))]], [.p (.bool v10)], true)})] [([.d false [.sl none (a0.map (eP (eP eI eI) (eP eI eI)))]] : List Arg) = [.d false [.sl none (a0.map (eP (eP eI eI) (eP eI eI)))]], Meets Try.prog 7 ([.d false [.sl none (a0.map (eP (eP eI eI) (eP eI eI)))]] ++ []) { vals := [.ov false [.sl (some 41) (v9.map (eP (eP eI eI) (eP eI eI)))]] }, List.all [.ov false [.sl (some 41) (v9.map (eP (eP eI eI) (eP eI eI)))]] simpleR = true, ([.d false [.sl none (eraL (v5.map (eP (eP eI eI) (eP eI eI))))], .d false [.sl none (eraL (v9.map (eP (eP eI eI) (eP eI eI))))]] : List Arg) = [.d false [.sl none (v5.map (eP (eP eI eI) (eP eI eI)))], .d false [.sl none (v9.map (eP (eP eI eI) (eP eI eI)))]], Meets Try.prog 9 ([.d false [.sl none (v5.map (eP (eP eI eI) (eP eI eI)))], .d false [.sl none (v9.map (eP (eP eI eI) (eP eI eI)))]] ++ []) { vals := [.p (.bool v10)] }, List.all [.p (.bool v10)] simpleR = true] (by kernel_rfl) ⟨rfl, (wk_laws_toPointS hv9), (sa_o (wnR1 (wnL_enc (wn_P (wn_P wn_I wn_I) (wn_P wn_I wn_I))) rfl) rfl), (by simp only [eraL_enc (h := (eP (eP eI eI) (eP eI eI))) (era_P (era_P er_I er_I) (era_P er_I er_I)), eraL_enc (h := (eP (eP eI eI) (eP eI eI))) (era_P (era_P er_I er_I) (era_P er_I er_I))]), (wk_laws_eqPointS hv10), rfl, trivial⟩) ?_
        refine k_cond (b := (!v10)) (by kernel_rfl) (fun hc2_10 => ?_) (fun hc2_10 => ?_)
        · replace h := ite_t hc2_10 h
          refine k_sreg (r_go [(4, .p (.bool false))] [] [] (by kernel_rfl) trivial) ?_
          refine k_ret ?_
          refine q_r ?_
          obtain rfl := Option.some.inj h
          exact e_ret (ls := [(.p (.bool false), 4)]) (by kernel_rfl) rfl (by kernel_rfl) rfl
        · replace h := ite_f hc2_10 h
          refine k_skip ?_
          refine q_n ?_
          refine k_sreg (r_go [(0, .d false [.sl none (a0.map (eP (eP eI eI) (eP eI eI)))]), (1, .p (.int .i64 a1)), (6, .d false [.sl none (v4.1.map (eP eI eI))]), (7, .p (.bool v4.2)), (8, .ov false [.sl (some 41) (v5.map (eP (eP eI eI) (eP eI eI)))]), (9, .ov false [.sl (some 39) (v6.1.map (eP eI eI))]), (10, .p (.bool v6.2)), (11, .p (.int .i64 1))] [] [] (by kernel_rfl) trivial) ?_
          replace h := bind_some' h
          obtain ⟨v12, hv12, h⟩ := h
          refine k_sreg (r_go [(0, .d false [.sl none (a0.map (eP (eP eI eI) (eP eI eI)))]), (1, .p (.int .i64 a1)), (6, .d false [.sl none (v4.1.map (eP eI eI))]), (7, .p (.bool v4.2)), (9, .ov false [.sl (some 39) (v6.1.map (eP eI eI))]), (10, .p (.bool v6.2)), (11, .p (.int .i64 v12.1))] [(2, {lend := some ([.v (.int .i64 1)], [.p (.int .i64 v12.1)], .ov false [.sl (some 41) (v12.2.map (eP (eP eI eI) (eP eI eI)))], true)})] [([.v (.int .i64 1)] : List Arg) = [.v (.int .i64 1)], MeetsB Try.prog 13 (.ov false [.sl (some 41) (v5.map (eP (eP eI eI) (eP eI eI)))]) [.v (.int .i64 1)] [.p (.int .i64 v12.1)] (.ov false [.sl (some 41) (v12.2.map (eP (eP eI eI) (eP eI eI)))]), (List.all [.p (.int .i64 v12.1)] simpleR && wnS (.ov false [.sl (some 41) (v12.2.map (eP (eP eI eI) (eP eI eI)))])) = true] (by kernel_rfl) ⟨rfl, (wk_laws_markPointS hv12), (ls_t rfl (wnR1 (wnL_enc (wn_P (wn_P wn_I wn_I) (wn_P wn_I wn_I))) rfl)), trivial⟩) ?_
          refine k_seq ?_
          replace h := bind_some' h
          obtain ⟨w14, hw14, h⟩ := h
          refine k_sreg (l1 := [(0, .d false [.sl none (a0.map (eP (eP eI eI) (eP eI eI)))]), (1, .p (.int .i64 a1)), (6, .d false [.sl none (v4.1.map (eP eI eI))]), (7, .p (.bool v4.2)), (9, .ov false [.sl (some 39) (v6.1.map (eP eI eI))]), (65, .p (.bool w14))]) ?_ ?_
          · clear h
            rcases Bool.eq_false_or_eq_true (decide (v12.1 < 0)) with ha3 | ha3
            · replace hw14 := ite_t ha3 hw14
              have hw14 := Option.some.inj hw14
              subst hw14
              exact (r_go [(0, .d false [.sl none (a0.map (eP (eP eI eI) (eP eI eI)))]), (1, .p (.int .i64 a1)), (6, .d false [.sl none (v4.1.map (eP eI eI))]), (7, .p (.bool v4.2)), (9, .ov false [.sl (some 39) (v6.1.map (eP eI eI))]), (65, .p (.bool true))] [(3, {g := some true}), (4, {g := some true}), (5, {g := some true}), (6, {g := some true}), (7, {b := some true}), (9, {g := some true}), (10, {g := some true}), (11, {g := some true}), (12, {b := some true})] [(decide (v12.1 < 0)) = true, (decide (v12.1 < 0)) = true, (decide (v12.1 < 0)) = true, (decide (v12.1 < 0)) = true, (decide (v12.1 < 0)) = true, true = true, true = true, true = true, true = true] (by kernel_rfl) ⟨ha3, ha3, ha3, ha3, ha3, rfl, rfl, rfl, rfl, trivial⟩)
            · replace hw14 := ite_f ha3 hw14
              replace hw14 := bind_some' hw14
              obtain ⟨v13, hv13, hw14⟩ := hw14
              rcases Bool.eq_false_or_eq_true (!v13) with ha4 | ha4
              · replace hw14 := ite_t ha4 hw14
                have hw14 := Option.some.inj hw14
                subst hw14
                exact (r_go [(0, .d false [.sl none (a0.map (eP (eP eI eI) (eP eI eI)))]), (1, .p (.int .i64 a1)), (6, .d false [.sl none (v4.1.map (eP eI eI))]), (7, .p (.bool v4.2)), (9, .ov false [.sl (some 39) (v6.1.map (eP eI eI))]), (65, .p (.bool true))] [(3, {g := some false}), (4, {g := some false}), (5, {g := some false, call := some ([.d false [.sl none (v6.1.map (eP eI eI))], .d false [.sl none (v4.1.map (eP eI eI))]], [.p (.bool v13)], true)}), (6, {g := some false}), (7, {b := some false}), (9, {g := some true}), (10, {g := some true}), (11, {g := some true}), (12, {b := some true})] [(decide (v12.1 < 0)) = false, (decide (v12.1 < 0)) = false, (decide (v12.1 < 0)) = false, ([.d false [.sl none (eraL (v6.1.map (eP eI eI)))], .d false [.sl none (v4.1.map (eP eI eI))]] : List Arg) = [.d false [.sl none (v6.1.map (eP eI eI))], .d false [.sl none (v4.1.map (eP eI eI))]], Meets Try.prog 12 ([.d false [.sl none (v6.1.map (eP eI eI))], .d false [.sl none (v4.1.map (eP eI eI))]] ++ []) { vals := [.p (.bool v13)] }, List.all [.p (.bool v13)] simpleR = true, (decide (v12.1 < 0)) = false, (decide (v12.1 < 0)) = false, (!v13) = true, (!v13) = true, (!v13) = true, (!v13) = true] (by kernel_rfl) ⟨ha3, ha3, ha3, (by simp only [eraL_enc (h := (eP eI eI)) (era_P er_I er_I)]), (wk_laws_eqRatS hv13), rfl, ha3, ha3, ha4, ha4, ha4, ha4, trivial⟩)
              · replace hw14 := ite_f ha4 hw14
                have hw14 := Option.some.inj hw14
                subst hw14
                exact (r_go [(0, .d false [.sl none (a0.map (eP (eP eI eI) (eP eI eI)))]), (1, .p (.int .i64 a1)), (6, .d false [.sl none (v4.1.map (eP eI eI))]), (7, .p (.bool v4.2)), (9, .ov false [.sl (some 39) (v6.1.map (eP eI eI))]), (65, .p (.bool (!(v6.2 == v4.2))))] [(3, {g := some false}), (4, {g := some false}), (5, {g := some false, call := some ([.d false [.sl none (v6.1.map (eP eI eI))], .d false [.sl none (v4.1.map (eP eI eI))]], [.p (.bool v13)], true)}), (6, {g := some false}), (7, {b := some false}), (9, {g := some false}), (10, {g := some false}), (11, {g := some false}), (12, {b := some false})] [(decide (v12.1 < 0)) = false, (decide (v12.1 < 0)) = false, (decide (v12.1 < 0)) = false, ([.d false [.sl none (eraL (v6.1.map (eP eI eI)))], .d false [.sl none (v4.1.map (eP eI eI))]] : List Arg) = [.d false [.sl none (v6.1.map (eP eI eI))], .d false [.sl none (v4.1.map (eP eI eI))]], Meets Try.prog 12 ([.d false [.sl none (v6.1.map (eP eI eI))], .d false [.sl none (v4.1.map (eP eI eI))]] ++ []) { vals := [.p (.bool v13)] }, List.all [.p (.bool v13)] simpleR = true, (decide (v12.1 < 0)) = false, (decide (v12.1 < 0)) = false, (!v13) = false, (!v13) = false, (!v13) = false, (!v13) = false] (by kernel_rfl) ⟨ha3, ha3, ha3, (by simp only [eraL_enc (h := (eP eI eI)) (era_P er_I er_I)]), (wk_laws_eqRatS hv13), rfl, ha3, ha3, ha4, ha4, ha4, ha4, trivial⟩)
          · refine k_cond (b := w14) (by kernel_rfl) (fun hc2_14 => ?_) (fun hc2_14 => ?_)
            · replace h := ite_t hc2_14 h
              refine k_sreg (r_go [(4, .p (.bool false))] [] [] (by kernel_rfl) trivial) ?_
              refine k_ret ?_
              refine q_r ?_
              obtain rfl := Option.some.inj h
              exact e_ret (ls := [(.p (.bool false), 4)]) (by kernel_rfl) rfl (by kernel_rfl) rfl
            · replace h := ite_f hc2_14 h
              refine k_skip ?_
              refine q_n ?_
              refine k_sreg (r_go [(0, .d false [.sl none (a0.map (eP (eP eI eI) (eP eI eI)))]), (1, .p (.int .i64 a1)), (6, .d false [.sl none (v4.1.map (eP eI eI))]), (7, .p (.bool v4.2)), (9, .ov false [.sl (some 39) (v6.1.map (eP eI eI))]), (12, .p (.int .i64 1))] [] [] (by kernel_rfl) trivial) ?_
              replace h := bind_some' h
              obtain ⟨v16, hv16, h⟩ := h
              refine k_sreg (r_go [(0, .d false [.sl none (a0.map (eP (eP eI eI) (eP eI eI)))]), (1, .p (.int .i64 a1)), (6, .d false [.sl none (v4.1.map (eP eI eI))]), (7, .p (.bool v4.2)), (9, .ov false [.sl (some 39) (v16.2.map (eP eI eI))]), (12, .p (.int .i64 v16.1))] [(2, {lend := some ([.v (.int .i64 1)], [.p (.int .i64 v16.1)], .ov false [.sl (some 39) (v16.2.map (eP eI eI))], true)})] [([.v (.int .i64 1)] : List Arg) = [.v (.int .i64 1)], MeetsB Try.prog 14 (.ov false [.sl (some 39) (v6.1.map (eP eI eI))]) [.v (.int .i64 1)] [.p (.int .i64 v16.1)] (.ov false [.sl (some 39) (v16.2.map (eP eI eI))]), (List.all [.p (.int .i64 v16.1)] simpleR && wnS (.ov false [.sl (some 39) (v16.2.map (eP eI eI))])) = true] (by kernel_rfl) ⟨rfl, (wk_laws_markRatS hv16), (ls_t rfl (wnR1 (wnL_enc (wn_P wn_I wn_I)) rfl)), trivial⟩) ?_
              refine k_sreg (r_go [(0, .d false [.sl none (a0.map (eP (eP eI eI) (eP eI eI)))]), (1, .p (.int .i64 a1)), (6, .d false [.sl none (v4.1.map (eP eI eI))]), (7, .p (.bool v4.2)), (9, .ov false [.sl (some 39) (v16.2.map (eP eI eI))]), (12, .p (.int .i64 v16.1)), (13, .p (.int .i64 1))] [] [] (by kernel_rfl) trivial) ?_
              replace h := bind_some' h
              obtain ⟨v17, hv17, h⟩ := h
              refine k_sreg (r_go [(0, .d false [.sl none (a0.map (eP (eP eI eI) (eP eI eI)))]), (1, .p (.int .i64 a1)), (6, .d false [.sl none (v4.1.map (eP eI eI))]), (7, .p (.bool v4.2)), (9, .ov false [.sl (some 39) (v16.2.map (eP eI eI))]), (12, .p (.int .i64 v16.1)), (13, .p (.int .i64 v17))] [(2, {call := some ([.d false [.sl none (v16.2.map (eP eI eI))], .v (.int .i64 1)], [.p (.int .i64 v17)], true)})] [([.d false [.sl none (eraL (v16.2.map (eP eI eI)))], .v (.int .i64 1)] : List Arg) = [.d false [.sl none (v16.2.map (eP eI eI))], .v (.int .i64 1)], Meets Try.prog 15 ([.d false [.sl none (v16.2.map (eP eI eI))], .v (.int .i64 1)] ++ []) { vals := [.p (.int .i64 v17)] }, List.all [.p (.int .i64 v17)] simpleR = true] (by kernel_rfl) ⟨(by simp only [eraL_enc (h := (eP eI eI)) (era_P er_I er_I)]), (wk_laws_heldRatS hv17), rfl, trivial⟩) ?_
              refine k_seq ?_
              refine k_sreg (r_go [(0, .d false [.sl none (a0.map (eP (eP eI eI) (eP eI eI)))]), (1, .p (.int .i64 a1)), (6, .d false [.sl none (v4.1.map (eP eI eI))]), (7, .p (.bool v4.2)), (9, .ov false [.sl (some 39) (v16.2.map (eP eI eI))]), (12, .p (.int .i64 v16.1)), (13, .p (.int .i64 v17)), (73, .p (.bool (decide (v17 < 0))))] [] [] (by kernel_rfl) trivial) ?_
              refine k_cond (b := (decide (v17 < 0))) (by kernel_rfl) (fun hc2_17 => ?_) (fun hc2_17 => ?_)
              · replace h := ite_t hc2_17 h
                refine k_sreg (r_go [(4, .p (.bool false))] [] [] (by kernel_rfl) trivial) ?_
                refine k_ret ?_
                refine q_r ?_
                obtain rfl := Option.some.inj h
                exact e_ret (ls := [(.p (.bool false), 4)]) (by kernel_rfl) rfl (by kernel_rfl) rfl
              · replace h := ite_f hc2_17 h
                refine k_skip ?_
                refine q_n ?_
                refine k_seq ?_
                refine k_sreg (r_go [(0, .d false [.sl none (a0.map (eP (eP eI eI) (eP eI eI)))]), (1, .p (.int .i64 a1)), (6, .d false [.sl none (v4.1.map (eP eI eI))]), (7, .p (.bool v4.2)), (9, .ov false [.sl (some 39) (v16.2.map (eP eI eI))]), (12, .p (.int .i64 v16.1)), (76, .p (.bool (v17 != v16.1)))] [] [] (by kernel_rfl) trivial) ?_
                refine k_cond (b := (v17 != v16.1)) (by kernel_rfl) (fun hc2_18 => ?_) (fun hc2_18 => ?_)
                · replace h := ite_t hc2_18 h
                  refine k_sreg (r_go [(4, .p (.bool false))] [] [] (by kernel_rfl) trivial) ?_
                  refine k_ret ?_
                  refine q_r ?_
                  obtain rfl := Option.some.inj h
                  exact e_ret (ls := [(.p (.bool false), 4)]) (by kernel_rfl) rfl (by kernel_rfl) rfl
                · replace h := ite_f hc2_18 h
                  refine k_skip ?_
                  refine q_n ?_
                  replace h := bind_some' h
                  obtain ⟨v20, hv20, h⟩ := h
                  replace h := bind_some' h
                  obtain ⟨v21, hv21, h⟩ := h
                  refine k_sreg (r_go [(6, .d false [.sl none (v4.1.map (eP eI eI))]), (7, .p (.bool v4.2)), (9, .ov false [.sl (some 39) (v16.2.map (eP eI eI))]), (12, .p (.int .i64 v16.1)), (14, .ov false [.sl (some 39) (v21.1.map (eP eI eI))]), (15, .p (.bool v21.2))] [(1, {call := some ([.d false [.sl none (a0.map (eP (eP eI eI) (eP eI eI)))]], [.ov false [.sl (some 41) (v20.map (eP (eP eI eI) (eP eI eI)))]], true)}), (3, {call := some ([.d false [.sl none (v20.map (eP (eP eI eI) (eP eI eI)))], .v (.int .i64 a1)], [.ov false [.sl (some 39) (v21.1.map (eP eI eI))], .p (.bool v21.2)], true)})] [([.d false [.sl none (a0.map (eP (eP eI eI) (eP eI eI)))]] : List Arg) = [.d false [.sl none (a0.map (eP (eP eI eI) (eP eI eI)))]], Meets Try.prog 7 ([.d false [.sl none (a0.map (eP (eP eI eI) (eP eI eI)))]] ++ []) { vals := [.ov false [.sl (some 41) (v20.map (eP (eP eI eI) (eP eI eI)))]] }, List.all [.ov false [.sl (some 41) (v20.map (eP (eP eI eI) (eP eI eI)))]] simpleR = true, ([.d false [.sl none (eraL (v20.map (eP (eP eI eI) (eP eI eI))))], .v (.int .i64 a1)] : List Arg) = [.d false [.sl none (v20.map (eP (eP eI eI) (eP eI eI)))], .v (.int .i64 a1)], Meets Try.prog 11 ([.d false [.sl none (v20.map (eP (eP eI eI) (eP eI eI)))], .v (.int .i64 a1)] ++ []) { vals := [.ov false [.sl (some 39) (v21.1.map (eP eI eI))], .p (.bool v21.2)] }, List.all [.ov false [.sl (some 39) (v21.1.map (eP eI eI))], .p (.bool v21.2)] simpleR = true] (by kernel_rfl) ⟨rfl, (wk_laws_toPointS hv20), (sa_o (wnR1 (wnL_enc (wn_P (wn_P wn_I wn_I) (wn_P wn_I wn_I))) rfl) rfl), (by simp only [eraL_enc (h := (eP (eP eI eI) (eP eI eI))) (era_P (era_P er_I er_I) (era_P er_I er_I))]), (wk_impl_TurningValues hv21), (sa_o (wnR1 (wnL_enc (wn_P wn_I wn_I)) rfl) (sa_p rfl)), trivial⟩) ?_
                  refine k_seq ?_
                  replace h := bind_some' h
                  obtain ⟨v22, hv22, h⟩ := h
                  refine k_sreg (l1 := [(9, .ov false [.sl (some 39) (v16.2.map (eP eI eI))]), (12, .p (.int .i64 v16.1)), (92, .p (.bool ((!v22) || (!(v21.2 == v4.2)))))]) ?_ ?_
                  · rcases Bool.eq_false_or_eq_true (!v22) with ha6 | ha6
                    · exact RegOk.of_eq (l2 := [(9, .ov false [.sl (some 39) (v16.2.map (eP eI eI))]), (12, .p (.int .i64 v16.1)), (92, .p (.bool ((!v22) || (!(v21.2 == v4.2)))))]) (r_go [(9, .ov false [.sl (some 39) (v16.2.map (eP eI eI))]), (12, .p (.int .i64 v16.1)), (92, .p (.bool true))] [(2, {call := some ([.d false [.sl none (v21.1.map (eP eI eI))], .d false [.sl none (v4.1.map (eP eI eI))]], [.p (.bool v22)], true)}), (5, {g := some true}), (6, {g := some true}), (7, {g := some true}), (8, {b := some true})] [([.d false [.sl none (eraL (v21.1.map (eP eI eI)))], .d false [.sl none (v4.1.map (eP eI eI))]] : List Arg) = [.d false [.sl none (v21.1.map (eP eI eI))], .d false [.sl none (v4.1.map (eP eI eI))]], Meets Try.prog 12 ([.d false [.sl none (v21.1.map (eP eI eI))], .d false [.sl none (v4.1.map (eP eI eI))]] ++ []) { vals := [.p (.bool v22)] }, List.all [.p (.bool v22)] simpleR = true, (!v22) = true, (!v22) = true, (!v22) = true, (!v22) = true] (by kernel_rfl) ⟨(by simp only [eraL_enc (h := (eP eI eI)) (era_P er_I er_I)]), (wk_laws_eqRatS hv22), rfl, ha6, ha6, ha6, ha6, trivial⟩) (by simp [ha6])
                    · exact RegOk.of_eq (l2 := [(9, .ov false [.sl (some 39) (v16.2.map (eP eI eI))]), (12, .p (.int .i64 v16.1)), (92, .p (.bool ((!v22) || (!(v21.2 == v4.2)))))]) (r_go [(9, .ov false [.sl (some 39) (v16.2.map (eP eI eI))]), (12, .p (.int .i64 v16.1)), (92, .p (.bool (!(v21.2 == v4.2))))] [(2, {call := some ([.d false [.sl none (v21.1.map (eP eI eI))], .d false [.sl none (v4.1.map (eP eI eI))]], [.p (.bool v22)], true)}), (5, {g := some false}), (6, {g := some false}), (7, {g := some false}), (8, {b := some false})] [([.d false [.sl none (eraL (v21.1.map (eP eI eI)))], .d false [.sl none (v4.1.map (eP eI eI))]] : List Arg) = [.d false [.sl none (v21.1.map (eP eI eI))], .d false [.sl none (v4.1.map (eP eI eI))]], Meets Try.prog 12 ([.d false [.sl none (v21.1.map (eP eI eI))], .d false [.sl none (v4.1.map (eP eI eI))]] ++ []) { vals := [.p (.bool v22)] }, List.all [.p (.bool v22)] simpleR = true, (!v22) = false, (!v22) = false, (!v22) = false, (!v22) = false] (by kernel_rfl) ⟨(by simp only [eraL_enc (h := (eP eI eI)) (era_P er_I er_I)]), (wk_laws_eqRatS hv22), rfl, ha6, ha6, ha6, ha6, trivial⟩) (by simp [ha6])
                  · refine k_cond (b := ((!v22) || (!(v21.2 == v4.2)))) (by kernel_rfl) (fun hc2_22 => ?_) (fun hc2_22 => ?_)
                    · replace h := ite_t hc2_22 h
                      refine k_sreg (r_go [(4, .p (.bool false))] [] [] (by kernel_rfl) trivial) ?_
                      refine k_ret ?_
                      refine q_r ?_
                      obtain rfl := Option.some.inj h
                      exact e_ret (ls := [(.p (.bool false), 4)]) (by kernel_rfl) rfl (by kernel_rfl) rfl
                    · replace h := ite_f hc2_22 h
                      refine k_skip ?_
                      refine q_n ?_
                      refine k_sreg (r_go [(9, .ov false [.sl (some 39) (v16.2.map (eP eI eI))]), (12, .p (.int .i64 v16.1)), (13, .p (.int .i64 1))] [] [] (by kernel_rfl) trivial) ?_
                      replace h := bind_some' h
                      obtain ⟨v24, hv24, h⟩ := h
                      refine k_sreg (r_go [(12, .p (.int .i64 v16.1)), (13, .p (.int .i64 v24))] [(2, {call := some ([.d false [.sl none (v16.2.map (eP eI eI))], .v (.int .i64 1)], [.p (.int .i64 v24)], true)})] [([.d false [.sl none (eraL (v16.2.map (eP eI eI)))], .v (.int .i64 1)] : List Arg) = [.d false [.sl none (v16.2.map (eP eI eI))], .v (.int .i64 1)], Meets Try.prog 15 ([.d false [.sl none (v16.2.map (eP eI eI))], .v (.int .i64 1)] ++ []) { vals := [.p (.int .i64 v24)] }, List.all [.p (.int .i64 v24)] simpleR = true] (by kernel_rfl) ⟨(by simp only [eraL_enc (h := (eP eI eI)) (era_P er_I er_I)]), (wk_laws_heldRatS hv24), rfl, trivial⟩) ?_
                      refine k_seq ?_
                      refine k_sreg (r_go [(12, .p (.int .i64 v16.1)), (13, .p (.int .i64 v24)), (97, .p (.bool (decide (v24 < 0))))] [] [] (by kernel_rfl) trivial) ?_
                      refine k_cond (b := (decide (v24 < 0))) (by kernel_rfl) (fun hc2_24 => ?_) (fun hc2_24 => ?_)
                      · replace h := ite_t hc2_24 h
                        refine k_sreg (r_go [(4, .p (.bool false))] [] [] (by kernel_rfl) trivial) ?_
                        refine k_ret ?_
                        refine q_r ?_
                        obtain rfl := Option.some.inj h
                        exact e_ret (ls := [(.p (.bool false), 4)]) (by kernel_rfl) rfl (by kernel_rfl) rfl
                      · replace h := ite_f hc2_24 h
                        refine k_skip ?_
                        refine q_n ?_
                        refine k_seq ?_
                        refine k_sreg (r_go [(100, .p (.bool (v24 != v16.1)))] [] [] (by kernel_rfl) trivial) ?_
                        refine k_cond (b := (v24 != v16.1)) (by kernel_rfl) (fun hc2_25 => ?_) (fun hc2_25 => ?_)
                        · replace h := ite_t hc2_25 h
                          refine k_sreg (r_go [(4, .p (.bool false))] [] [] (by kernel_rfl) trivial) ?_
                          refine k_ret ?_
                          refine q_r ?_
                          obtain rfl := Option.some.inj h
                          exact e_ret (ls := [(.p (.bool false), 4)]) (by kernel_rfl) rfl (by kernel_rfl) rfl
                        · replace h := ite_f hc2_25 h
                          refine k_skip ?_
                          refine q_n ?_
                          refine k_sreg (r_go [(4, .p (.bool true))] [] [] (by kernel_rfl) trivial) ?_
                          refine k_ret ?_
                          obtain rfl := Option.some.inj h
                          exact e_ret (ls := [(.p (.bool true), 4)]) (by kernel_rfl) rfl (by kernel_rfl) rfl
end Go.PV

/-
  Walks through the functions that the law reaches: each answers as its plain definition does.
  Conditions: none.
-/
import Derived.KernelRfl
import Derived.Test.YtgamijfefbhklaaDf
import Derived.Test.YtgamijfefbhklaaProg
open Go Go.PV Go.Proofs
set_option linter.all false
namespace Go.PV
attribute [local irreducible] pvC pvL pvD sOp seqQ blockQ Meets MeetsB Ok OkL RegOk agree endQ seqL blockL loopQ endL endLB
theorem Try_mixed : Try.prog.follows .mixedOrders = true := by kernel_rfl
theorem wk_laws_szPointS {a0 : (List ((Int × Int) × (Int × Int)))} {a1 : Int}  {r : Int} (h : laws_szPointS a0 a1 = some r) : Meets Try.prog 5 [.d false [.sl none (a0.map (eP (eP eI eI) (eP eI eI)))], .v (.int .i64 a1)] { vals := [.p (.int .i64 r)] } := by
  refine Meets_ofL (by kernel_rfl) Try.func5 rfl (by kernel_rfl) (l0 := [(0, .d false [.sl none (a0.map (eP (eP eI eI) (eP eI eI)))]), (1, .p (.int .i64 a1))]) (by kernel_rfl) ?_
  unfold laws_szPointS at h
  refine k_sreg (r_go [(0, .d false [.sl none (a0.map (eP (eP eI eI) (eP eI eI)))]), (1, .p (.int .i64 a1))] [] [] (by kernel_rfl) trivial) ?_
  refine k_sreg (r_go [(1, .p (.int .i64 (w64 (a1 - (a0.length : Int)))))] [(2, {n := some a0.length})] [(a0.map (eP (eP eI eI) (eP eI eI))).length = a0.length] (by kernel_rfl) ⟨(List.length_map ..), trivial⟩) ?_
  refine k_seq ?_
  refine k_sreg (r_go [(1, .p (.int .i64 (w64 (a1 - (a0.length : Int))))), (10, .p (.bool (decide ((w64 (a1 - (a0.length : Int))) < 0))))] [] [] (by kernel_rfl) trivial) ?_
  refine k_cond (b := (decide ((w64 (a1 - (a0.length : Int))) < 0))) (by kernel_rfl) (fun hc2_0 => ?_) (fun hc2_0 => ?_)
  · replace h := ite_t hc2_0 h
    refine k_sreg (r_go [(4, .p (.int .i64 (-1)))] [] [] (by kernel_rfl) trivial) ?_
    refine k_ret ?_
    refine q_r ?_
    obtain rfl := Option.some.inj h
    exact e_ret (ls := [(.p (.int .i64 (-1)), 4)]) (by kernel_rfl) rfl (by kernel_rfl) rfl
  · replace h := ite_f hc2_0 h
    refine k_skip ?_
    refine q_n ?_
    refine k_sreg (r_go [(4, .p (.int .i64 (w64 (a1 - (a0.length : Int)))))] [] [] (by kernel_rfl) trivial) ?_
    refine k_ret ?_
    obtain rfl := Option.some.inj h
    exact e_ret (ls := [(.p (.int .i64 (w64 (a1 - (a0.length : Int)))), 4)]) (by kernel_rfl) rfl (by kernel_rfl) rfl
theorem wk_laws_toRat {a0 : (Int × Int)}  {r : (Int × Int)} (h : laws_toRat a0 = some r) : Meets Try.prog 34 [.v (.agg #[.int .i64 a0.1, .int .i64 a0.2])] { vals := [.p (.agg #[.int .i64 r.1, .int .i64 r.2])] } := by
  refine Meets_ofL (by kernel_rfl) Try.func34 rfl (by kernel_rfl) (l0 := [(0, .p (.agg #[.int .i64 a0.1, .int .i64 a0.2]))]) (by kernel_rfl) ?_
  unfold laws_toRat at h
  refine k_sreg (r_go [(1, .box [.raw (.int .i64 a0.1), .raw (.int .i64 a0.2)]), (2, .box [.raw (.int .i64 0), .raw (.int .i64 0)])] [] [] (by kernel_rfl) trivial) ?_
  refine k_sreg (r_go [(1, .box [.raw (.int .i64 a0.1), .raw (.int .i64 a0.2)]), (2, .box [.raw (.int .i64 0), .raw (.int .i64 0)]), (3, .box [.raw (.int .i64 0), .raw (.int .i64 0)])] [] [] (by kernel_rfl) trivial) ?_
  refine k_sreg (r_go [(1, .box [.raw (.int .i64 a0.1), .raw (.int .i64 a0.2)]), (2, .box [.raw (.int .i64 0), .raw (.int .i64 0)]), (3, .box [.raw (.int .i64 a0.1), .raw (.int .i64 0)])] [] [] (by kernel_rfl) trivial) ?_
  refine k_sreg (r_go [(2, .box [.raw (.int .i64 0), .raw (.int .i64 0)]), (3, .box [.raw (.int .i64 a0.1), .raw (.int .i64 a0.2)])] [] [] (by kernel_rfl) trivial) ?_
  refine k_sreg (r_go [(2, .box [.raw (.int .i64 a0.1), .raw (.int .i64 a0.2)])] [] [] (by kernel_rfl) trivial) ?_
  refine k_ret ?_
  obtain rfl := Option.some.inj h
  exact e_ret (ls := [(.p (.agg #[.int .i64 a0.1, .int .i64 a0.2]), 2)]) (by kernel_rfl) rfl (by kernel_rfl) rfl
theorem wk_laws_toPoint {a0 : ((Int × Int) × (Int × Int))}  {r : ((Int × Int) × (Int × Int))} (h : laws_toPoint a0 = some r) : Meets Try.prog 19 [.v (.agg #[.int .i64 a0.1.1, .int .i64 a0.1.2, .int .i64 a0.2.1, .int .i64 a0.2.2])] { vals := [.p (.agg #[.int .i64 r.1.1, .int .i64 r.1.2, .int .i64 r.2.1, .int .i64 r.2.2])] } := by
  refine Meets_ofL (by kernel_rfl) Try.func19 rfl (by kernel_rfl) (l0 := [(0, .p (.agg #[.int .i64 a0.1.1, .int .i64 a0.1.2, .int .i64 a0.2.1, .int .i64 a0.2.2]))]) (by kernel_rfl) ?_
  unfold laws_toPoint at h
  refine k_sreg (r_go [(1, .box [.raw (.int .i64 a0.1.1), .raw (.int .i64 a0.1.2), .raw (.int .i64 a0.2.1), .raw (.int .i64 a0.2.2)]), (2, .box [.raw (.int .i64 0), .raw (.int .i64 0), .raw (.int .i64 0), .raw (.int .i64 0)])] [] [] (by kernel_rfl) trivial) ?_
  refine k_sreg (r_go [(1, .box [.raw (.int .i64 a0.1.1), .raw (.int .i64 a0.1.2), .raw (.int .i64 a0.2.1), .raw (.int .i64 a0.2.2)]), (2, .box [.raw (.int .i64 0), .raw (.int .i64 0), .raw (.int .i64 0), .raw (.int .i64 0)]), (3, .box [.raw (.int .i64 0), .raw (.int .i64 0), .raw (.int .i64 0), .raw (.int .i64 0)])] [] [] (by kernel_rfl) trivial) ?_
  replace h := bind_some' h
  obtain ⟨v1, hv1, h⟩ := h
  refine k_sreg (r_go [(1, .box [.raw (.int .i64 a0.1.1), .raw (.int .i64 a0.1.2), .raw (.int .i64 a0.2.1), .raw (.int .i64 a0.2.2)]), (2, .box [.raw (.int .i64 0), .raw (.int .i64 0), .raw (.int .i64 0), .raw (.int .i64 0)]), (3, .box [.raw (.int .i64 v1.1), .raw (.int .i64 v1.2), .raw (.int .i64 0), .raw (.int .i64 0)])] [(2, {call := some ([.v (.agg #[.int .i64 a0.1.1, .int .i64 a0.1.2])], [.p (.agg #[.int .i64 v1.1, .int .i64 v1.2])], true)})] [([.v (.agg #[.int .i64 a0.1.1, .int .i64 a0.1.2])] : List Arg) = [.v (.agg #[.int .i64 a0.1.1, .int .i64 a0.1.2])], Meets Try.prog 34 ([.v (.agg #[.int .i64 a0.1.1, .int .i64 a0.1.2])] ++ []) { vals := [.p (.agg #[.int .i64 v1.1, .int .i64 v1.2])] }, List.all [.p (.agg #[.int .i64 v1.1, .int .i64 v1.2])] simpleR = true] (by kernel_rfl) ⟨rfl, (wk_laws_toRat hv1), rfl, trivial⟩) ?_
  replace h := bind_some' h
  obtain ⟨v2, hv2, h⟩ := h
  refine k_sreg (r_go [(2, .box [.raw (.int .i64 0), .raw (.int .i64 0), .raw (.int .i64 0), .raw (.int .i64 0)]), (3, .box [.raw (.int .i64 v1.1), .raw (.int .i64 v1.2), .raw (.int .i64 v2.1), .raw (.int .i64 v2.2)])] [(2, {call := some ([.v (.agg #[.int .i64 a0.2.1, .int .i64 a0.2.2])], [.p (.agg #[.int .i64 v2.1, .int .i64 v2.2])], true)})] [([.v (.agg #[.int .i64 a0.2.1, .int .i64 a0.2.2])] : List Arg) = [.v (.agg #[.int .i64 a0.2.1, .int .i64 a0.2.2])], Meets Try.prog 34 ([.v (.agg #[.int .i64 a0.2.1, .int .i64 a0.2.2])] ++ []) { vals := [.p (.agg #[.int .i64 v2.1, .int .i64 v2.2])] }, List.all [.p (.agg #[.int .i64 v2.1, .int .i64 v2.2])] simpleR = true] (by kernel_rfl) ⟨rfl, (wk_laws_toRat hv2), rfl, trivial⟩) ?_
  refine k_sreg (r_go [(2, .box [.raw (.int .i64 v1.1), .raw (.int .i64 v1.2), .raw (.int .i64 v2.1), .raw (.int .i64 v2.2)])] [] [] (by kernel_rfl) trivial) ?_
  refine k_ret ?_
  obtain rfl := Option.some.inj h
  exact e_ret (ls := [(.p (.agg #[.int .i64 v1.1, .int .i64 v1.2, .int .i64 v2.1, .int .i64 v2.2]), 2)]) (by kernel_rfl) rfl (by kernel_rfl) rfl
theorem wk_laws_toPointS {a0 : (List ((Int × Int) × (Int × Int)))}  {r : (List ((Int × Int) × (Int × Int)))} (h : laws_toPointS a0 = some r) : Meets Try.prog 7 [.d false [.sl none (a0.map (eP (eP eI eI) (eP eI eI)))]] { vals := [.ov false [.sl (some 41) (r.map (eP (eP eI eI) (eP eI eI)))]] } := by
  refine Meets_ofL (by kernel_rfl) Try.func7 rfl (by kernel_rfl) (l0 := [(0, .d false [.sl none (a0.map (eP (eP eI eI) (eP eI eI)))])]) (by kernel_rfl) ?_
  unfold laws_toPointS at h
  refine k_sreg (r_go [(0, .d false [.sl none (a0.map (eP (eP eI eI) (eP eI eI)))])] [] [] (by kernel_rfl) trivial) ?_
  replace h := bind_some' h
  obtain ⟨u1, hu1, h⟩ := h
  refine k_sreg (r_go [(0, .d false [.sl none (a0.map (eP (eP eI eI) (eP eI eI)))]), (3, .ov false [.sl (some 41) ((List.replicate (Int.toNat (a0.length : Int)) ((0, 0), (0, 0))).map (eP (eP eI eI) (eP eI eI)))])] [(1, {n := some a0.length}), (2, {fix := some (7, .ov false [.sl (some 41) ((List.replicate (Int.toNat (a0.length : Int)) ((0, 0), (0, 0))).map (eP (eP eI eI) (eP eI eI)))])})] [(a0.map (eP (eP eI eI) (eP eI eI))).length = a0.length, (a0.length : Int) = (a0.length : Int), 0 ≤ (a0.length : Int), (a0.length : Int) ≤ 1099511627776, (SV.ov false [.sl (some 41) (List.replicate (Int.toNat (a0.length : Int)) [.raw (.int .i64 0), .raw (.int .i64 0), .raw (.int .i64 0), .raw (.int .i64 0)])] : SV) = .ov false [.sl (some 41) ((List.replicate (Int.toNat (a0.length : Int)) ((0, 0), (0, 0))).map (eP (eP eI eI) (eP eI eI)))]] (by kernel_rfl) ⟨(List.length_map ..), rfl, (guardO_some hu1).1, (guardO_some hu1).2, (congrArg (fun z => SV.ov false [.sl (some 41) z]) (rep_fix (eP (eP eI eI) (eP eI eI)) ((0, 0), (0, 0)))), trivial⟩) ?_
  refine k_join (J := fun (x : (List ((Int × Int) × (Int × Int)))) => [(3, .ov false [.sl (some 41) (x.map (eP (eP eI eI) (eP eI eI)))])]) (K := fun x => laws_toPointS_k1 x = some r) (fun x2 h => ?_) ?_
  · unfold laws_toPointS_k1 at h
    refine k_sreg (r_go [(2, .ov false [.sl (some 41) (x2.map (eP (eP eI eI) (eP eI eI)))])] [] [] (by kernel_rfl) trivial) ?_
    refine k_ret ?_
    obtain rfl := Option.some.inj h
    exact e_ret (ls := [(.ov false [.sl (some 41) (x2.map (eP (eP eI eI) (eP eI eI)))], 2)]) (by kernel_rfl) rfl (by kernel_rfl) rfl
  · refine k_sreg (r_go [(0, .d false [.sl none (a0.map (eP (eP eI eI) (eP eI eI)))]), (3, .ov false [.sl (some 41) ((List.replicate (Int.toNat (a0.length : Int)) ((0, 0), (0, 0))).map (eP (eP eI eI) (eP eI eI)))]), (4, .p (.int .i64 0))] [] [] (by kernel_rfl) trivial) ?_
    refine k_block ?_
    obtain ⟨y4, hl_x3, hk_x3⟩ := bind_some' h
    clear h
    refine k_loop (J := fun (x : ((List ((Int × Int) × (Int × Int))) × Int)) => [(0, .d false [.sl none (a0.map (eP (eP eI eI) (eP eI eI)))]), (3, .ov false [.sl (some 41) (x.1.map (eP (eP eI eI) (eP eI eI)))]), (4, .p (.int .i64 x.2))]) hl_x3 (wk_of (by kernel_rfl) (by kernel_rfl)) (fun x3 o_x3 h hy_x3 => ?_)
    unfold laws_toPointS_b1 at h
    refine k_seq ?_
    refine k_sreg (r_go [(0, .d false [.sl none (a0.map (eP (eP eI eI) (eP eI eI)))]), (3, .ov false [.sl (some 41) (x3.1.map (eP (eP eI eI) (eP eI eI)))]), (4, .p (.int .i64 x3.2)), (11, .p (.bool (decide (x3.2 < (a0.length : Int)))))] [(2, {n := some a0.length})] [(a0.map (eP (eP eI eI) (eP eI eI))).length = a0.length] (by kernel_rfl) ⟨(List.length_map ..), trivial⟩) ?_
    refine k_cond (b := (decide (x3.2 < (a0.length : Int)))) (by kernel_rfl) (fun hc5_4 => ?_) (fun hc5_4 => ?_)
    · replace h := ite_t hc5_4 h
      refine k_skip ?_
      refine q_n ?_
      refine k_seq ?_
      refine k_block ?_
      replace h := bind_some' h
      obtain ⟨v6, hv6, h⟩ := h
      replace h := bind_some' h
      obtain ⟨v7, hv7, h⟩ := h
      replace h := bind_some' h
      obtain ⟨v8, hv8, h⟩ := h
      refine k_reg (r_go [(0, .d false [.sl none (a0.map (eP (eP eI eI) (eP eI eI)))]), (3, .ov false [.sl (some 41) ((x3.1.set (Int.toNat x3.2) v7).map (eP (eP eI eI) (eP eI eI)))]), (4, .p (.int .i64 x3.2))] [(4, {row := some [.raw (.int .i64 v6.1.1), .raw (.int .i64 v6.1.2), .raw (.int .i64 v6.2.1), .raw (.int .i64 v6.2.2)]}), (6, {call := some ([.v (.agg #[.int .i64 v6.1.1, .int .i64 v6.1.2, .int .i64 v6.2.1, .int .i64 v6.2.2])], [.p (.agg #[.int .i64 v7.1.1, .int .i64 v7.1.2, .int .i64 v7.2.1, .int .i64 v7.2.2])], true)}), (7, {row := some [.raw (.int .i64 v8.1.1), .raw (.int .i64 v8.1.2), .raw (.int .i64 v8.2.1), .raw (.int .i64 v8.2.2)]}), (8, {row := some [.raw (.int .i64 v8.1.1), .raw (.int .i64 v8.1.2), .raw (.int .i64 v8.2.1), .raw (.int .i64 v8.2.2)], fix := some (3, .ov false [.sl (some 41) ((x3.1.set (Int.toNat x3.2) v7).map (eP (eP eI eI) (eP eI eI)))])})] [0 ≤ x3.2, (a0.map (eP (eP eI eI) (eP eI eI)))[(Int.toNat x3.2)]? = some [.raw (.int .i64 v6.1.1), .raw (.int .i64 v6.1.2), .raw (.int .i64 v6.2.1), .raw (.int .i64 v6.2.2)], ([.v (.agg #[.int .i64 v6.1.1, .int .i64 v6.1.2, .int .i64 v6.2.1, .int .i64 v6.2.2])] : List Arg) = [.v (.agg #[.int .i64 v6.1.1, .int .i64 v6.1.2, .int .i64 v6.2.1, .int .i64 v6.2.2])], Meets Try.prog 19 ([.v (.agg #[.int .i64 v6.1.1, .int .i64 v6.1.2, .int .i64 v6.2.1, .int .i64 v6.2.2])] ++ []) { vals := [.p (.agg #[.int .i64 v7.1.1, .int .i64 v7.1.2, .int .i64 v7.2.1, .int .i64 v7.2.2])] }, List.all [.p (.agg #[.int .i64 v7.1.1, .int .i64 v7.1.2, .int .i64 v7.2.1, .int .i64 v7.2.2])] simpleR = true, 0 ≤ x3.2, (x3.1.map (eP (eP eI eI) (eP eI eI)))[(Int.toNat x3.2)]? = some [.raw (.int .i64 v8.1.1), .raw (.int .i64 v8.1.2), .raw (.int .i64 v8.2.1), .raw (.int .i64 v8.2.2)], getRow [[.sl (some 41) (x3.1.map (eP (eP eI eI) (eP eI eI)))]] [(0, 0), ((Int.toNat x3.2), 0)] = some [.raw (.int .i64 v8.1.1), .raw (.int .i64 v8.1.2), .raw (.int .i64 v8.2.1), .raw (.int .i64 v8.2.2)], (SV.ov false [.sl (some 41) (setL (x3.1.map (eP (eP eI eI) (eP eI eI))) [((Int.toNat x3.2), 0)] [.raw (.int .i64 v7.1.1), .raw (.int .i64 v7.1.2), .raw (.int .i64 v7.2.1), .raw (.int .i64 v7.2.2)])] : SV) = .ov false [.sl (some 41) ((x3.1.set (Int.toNat x3.2) v7).map (eP (eP eI eI) (eP eI eI)))]] (by kernel_rfl) ⟨(idxO_some hv6).1, (map_get (eP (eP eI eI) (eP eI eI)) (idxO_some hv6).2), rfl, (wk_laws_toPoint hv7), rfl, (idxO_some hv8).1, (map_get (eP (eP eI eI) (eP eI eI)) (idxO_some hv8).2), ((gr0 rfl).trans (gre (map_get (eP (eP eI eI) (eP eI eI)) (idxO_some hv8).2))), (congrArg (fun z => SV.ov false [.sl (some 41) z]) (set1 (f := (eP (eP eI eI) (eP eI eI))) (y := v7) (idxO_some hv8).2 rfl)), trivial⟩) ?_
      refine b_n ?_
      refine q_n ?_
      refine k_reg (r_go [(0, .d false [.sl none (a0.map (eP (eP eI eI) (eP eI eI)))]), (3, .ov false [.sl (some 41) ((x3.1.set (Int.toNat x3.2) v7).map (eP (eP eI eI) (eP eI eI)))]), (4, .p (.int .i64 (w64 (x3.2 + 1))))] [] [] (by kernel_rfl) trivial) ?_
      exact lq_n ((x3.1.set (Int.toNat x3.2) v7), (w64 (x3.2 + 1))) (Option.some.inj h).symm (wk_of (by kernel_rfl) (by kernel_rfl))
    · replace h := ite_f hc5_4 h
      refine k_exit ?_
      refine q_x ?_
      refine lq_x ?_
      refine b_x ?_
      have hyy := hy_x3 _ (Option.some.inj h).symm
      subst hyy
      have h := hk_x3
      refine q_n ?_
      exact ⟨x3.1, h, (wk_of (by kernel_rfl) (by kernel_rfl))⟩
theorem wk_spec_l1In {a0 : Int} {a1 : Int} {a2 : Int}  {r : Bool} (h : spec_l1In a0 a1 a2 = some r) : Meets Try.prog 31 [.v (.int .i64 a0), .v (.int .i64 a1), .v (.int .i64 a2)] { vals := [.p (.bool r)] } := by
  refine Meets_ofL (by kernel_rfl) Try.func31 rfl (by kernel_rfl) (l0 := [(0, .p (.int .i64 a0)), (1, .p (.int .i64 a1)), (2, .p (.int .i64 a2))]) (by kernel_rfl) ?_
  unfold spec_l1In at h
  refine k_sreg (r_go [(0, .p (.int .i64 a0)), (1, .p (.int .i64 a1)), (2, .p (.int .i64 a2))] [] [] (by kernel_rfl) trivial) ?_
  refine k_sreg (l1 := [(6, .p (.bool ((decide (a0 ≥ a1)) && (decide (a0 ≤ a2)))))]) ?_ ?_
  · rcases Bool.eq_false_or_eq_true (decide (a0 ≥ a1)) with ha0 | ha0
    · exact RegOk.of_eq (l2 := [(6, .p (.bool ((decide (a0 ≥ a1)) && (decide (a0 ≤ a2)))))]) (r_go [(6, .p (.bool (decide (a0 ≤ a2))))] [(4, {g := some true}), (5, {g := some true}), (6, {g := some true}), (7, {b := some true})] [(decide (a0 ≥ a1)) = true, (decide (a0 ≥ a1)) = true, (decide (a0 ≥ a1)) = true, (decide (a0 ≥ a1)) = true] (by kernel_rfl) ⟨ha0, ha0, ha0, ha0, trivial⟩) (by simp [ha0])
    · exact RegOk.of_eq (l2 := [(6, .p (.bool ((decide (a0 ≥ a1)) && (decide (a0 ≤ a2)))))]) (r_go [(6, .p (.bool false))] [(4, {g := some false}), (5, {g := some false}), (6, {g := some false}), (7, {b := some false})] [(decide (a0 ≥ a1)) = false, (decide (a0 ≥ a1)) = false, (decide (a0 ≥ a1)) = false, (decide (a0 ≥ a1)) = false] (by kernel_rfl) ⟨ha0, ha0, ha0, ha0, trivial⟩) (by simp [ha0])
  · refine k_ret ?_
    obtain rfl := Option.some.inj h
    exact e_ret (ls := [(.p (.bool ((decide (a0 ≥ a1)) && (decide (a0 ≤ a2)))), 6)]) (by kernel_rfl) rfl (by kernel_rfl) rfl
theorem wk_spec_l1Most {a0 : Int} {a1 : Int}  {r : Int} (h : spec_l1Most a0 a1 = some r) : Meets Try.prog 92 [.v (.int .i64 a0), .v (.int .i64 a1)] { vals := [.p (.int .i64 r)] } := by
  refine Meets_ofL (by kernel_rfl) Try.func92 rfl (by kernel_rfl) (l0 := [(0, .p (.int .i64 a0)), (1, .p (.int .i64 a1))]) (by kernel_rfl) ?_
  unfold spec_l1Most at h
  refine k_sreg (r_go [(0, .p (.int .i64 a0)), (1, .p (.int .i64 a1))] [] [] (by kernel_rfl) trivial) ?_
  refine k_seq ?_
  refine k_sreg (r_go [(0, .p (.int .i64 a0)), (1, .p (.int .i64 a1)), (7, .p (.bool (decide (a0 > a1))))] [] [] (by kernel_rfl) trivial) ?_
  refine k_cond (b := (decide (a0 > a1))) (by kernel_rfl) (fun hc2_0 => ?_) (fun hc2_0 => ?_)
  · replace h := ite_t hc2_0 h
    refine k_sreg (r_go [(4, .p (.int .i64 a0))] [] [] (by kernel_rfl) trivial) ?_
    refine k_ret ?_
    refine q_r ?_
    obtain rfl := Option.some.inj h
    exact e_ret (ls := [(.p (.int .i64 a0), 4)]) (by kernel_rfl) rfl (by kernel_rfl) rfl
  · replace h := ite_f hc2_0 h
    refine k_skip ?_
    refine q_n ?_
    refine k_sreg (r_go [(4, .p (.int .i64 a1))] [] [] (by kernel_rfl) trivial) ?_
    refine k_ret ?_
    obtain rfl := Option.some.inj h
    exact e_ret (ls := [(.p (.int .i64 a1), 4)]) (by kernel_rfl) rfl (by kernel_rfl) rfl
theorem wk_spec_l1Abs {a0 : Int}  {r : Int} (h : spec_l1Abs a0 = some r) : Meets Try.prog 78 [.v (.int .i64 a0)] { vals := [.p (.int .i64 r)] } := by
  refine Meets_ofL (by kernel_rfl) Try.func78 rfl (by kernel_rfl) (l0 := [(0, .p (.int .i64 a0))]) (by kernel_rfl) ?_
  unfold spec_l1Abs at h
  refine k_sreg (r_go [(0, .p (.int .i64 a0))] [] [] (by kernel_rfl) trivial) ?_
  replace h := bind_some' h
  obtain ⟨v1, hv1, h⟩ := h
  refine k_sreg (r_go [(2, .p (.int .i64 v1))] [(3, {call := some ([.v (.int .i64 a0), .v (.int .i64 (w64 (0 - a0)))], [.p (.int .i64 v1)], true)})] [([.v (.int .i64 a0), .v (.int .i64 (w64 (0 - a0)))] : List Arg) = [.v (.int .i64 a0), .v (.int .i64 (w64 (0 - a0)))], Meets Try.prog 92 ([.v (.int .i64 a0), .v (.int .i64 (w64 (0 - a0)))] ++ []) { vals := [.p (.int .i64 v1)] }, List.all [.p (.int .i64 v1)] simpleR = true] (by kernel_rfl) ⟨rfl, (wk_spec_l1Most hv1), rfl, trivial⟩) ?_
  refine k_ret ?_
  obtain rfl := Option.some.inj h
  exact e_ret (ls := [(.p (.int .i64 v1), 2)]) (by kernel_rfl) rfl (by kernel_rfl) rfl
theorem wk_spec_raCommon {a0 : Int} {a1 : Int}  {r : Int} (h : spec_raCommon a0 a1 = some r) : Meets Try.prog 77 [.v (.int .i64 a0), .v (.int .i64 a1)] { vals := [.p (.int .i64 r)] } := by
  refine Meets_ofL (by kernel_rfl) Try.func77 rfl (by kernel_rfl) (l0 := [(0, .p (.int .i64 a0)), (1, .p (.int .i64 a1))]) (by kernel_rfl) ?_
  unfold spec_raCommon at h
  refine k_sreg (r_go [(0, .p (.int .i64 a0)), (1, .p (.int .i64 a1))] [] [] (by kernel_rfl) trivial) ?_
  refine k_join (J := fun (x : Int) => [(0, .p (.int .i64 x))]) (K := fun x => spec_raCommon_k1 x = some r) (fun x1 h => ?_) ?_
  · unfold spec_raCommon_k1 at h
    refine k_sreg (r_go [(4, .p (.int .i64 x1))] [] [] (by kernel_rfl) trivial) ?_
    refine k_ret ?_
    obtain rfl := Option.some.inj h
    exact e_ret (ls := [(.p (.int .i64 x1), 4)]) (by kernel_rfl) rfl (by kernel_rfl) rfl
  · refine k_block ?_
    obtain ⟨y3, hl_x2, hk_x2⟩ := bind_some' h
    clear h
    refine k_loop (J := fun (x : (Int × Int)) => [(0, .p (.int .i64 x.1)), (1, .p (.int .i64 x.2))]) hl_x2 (wk_of (by kernel_rfl) (by kernel_rfl)) (fun x2 o_x2 h hy_x2 => ?_)
    unfold spec_raCommon_b1 at h
    refine k_seq ?_
    refine k_sreg (r_go [(0, .p (.int .i64 x2.1)), (1, .p (.int .i64 x2.2)), (7, .p (.bool (decide (x2.2 > 0))))] [] [] (by kernel_rfl) trivial) ?_
    refine k_cond (b := (decide (x2.2 > 0))) (by kernel_rfl) (fun hc5_3 => ?_) (fun hc5_3 => ?_)
    · replace h := ite_t hc5_3 h
      refine k_skip ?_
      refine q_n ?_
      refine k_block ?_
      replace h := bind_some' h
      obtain ⟨u5, hu5, h⟩ := h
      refine k_sreg (r_go [(1, .p (.int .i64 x2.2)), (5, .p (.int .i64 (Int.tmod x2.1 x2.2)))] [] [x2.2 ≠ (0 : Int)] (by kernel_rfl) ⟨(guardO_some hu5), trivial⟩) ?_
      refine k_sreg (r_go [(0, .p (.int .i64 x2.2)), (5, .p (.int .i64 (Int.tmod x2.1 x2.2)))] [] [] (by kernel_rfl) trivial) ?_
      refine k_reg (r_go [(0, .p (.int .i64 x2.2)), (1, .p (.int .i64 (Int.tmod x2.1 x2.2)))] [] [] (by kernel_rfl) trivial) ?_
      refine b_n ?_
      exact lq_n (x2.2, (Int.tmod x2.1 x2.2)) (Option.some.inj h).symm (wk_of (by kernel_rfl) (by kernel_rfl))
    · replace h := ite_f hc5_3 h
      refine k_exit ?_
      refine q_x ?_
      refine lq_x ?_
      refine b_x ?_
      have hyy := hy_x2 _ (Option.some.inj h).symm
      subst hyy
      have h := hk_x2
      refine q_n ?_
      exact ⟨x2.1, h, (wk_of (by kernel_rfl) (by kernel_rfl))⟩
theorem wk_spec_raGood {a0 : (Int × Int)}  {r : Bool} (h : spec_raGood a0 = some r) : Meets Try.prog 61 [.v (.agg #[.int .i64 a0.1, .int .i64 a0.2])] { vals := [.p (.bool r)] } := by
  refine Meets_ofL (by kernel_rfl) Try.func61 rfl (by kernel_rfl) (l0 := [(0, .p (.agg #[.int .i64 a0.1, .int .i64 a0.2]))]) (by kernel_rfl) ?_
  unfold spec_raGood at h
  refine k_sreg (r_go [(1, .box [.raw (.int .i64 a0.1), .raw (.int .i64 a0.2)])] [] [] (by kernel_rfl) trivial) ?_
  replace h := bind_some' h
  obtain ⟨v1, hv1, h⟩ := h
  replace h := bind_some' h
  obtain ⟨w5, hw5, h⟩ := h
  refine k_sreg (l1 := [(2, .p (.bool w5))]) ?_ ?_
  · clear h
    rcases Bool.eq_false_or_eq_true v1 with ha0 | ha0
    · replace hw5 := ite_t ha0 hw5
      replace hw5 := bind_some' hw5
      obtain ⟨v2, hv2, hw5⟩ := hw5
      rcases Bool.eq_false_or_eq_true v2 with ha1 | ha1
      · replace hw5 := ite_t ha1 hw5
        replace hw5 := bind_some' hw5
        obtain ⟨v3, hv3, hw5⟩ := hw5
        replace hw5 := bind_some' hw5
        obtain ⟨v4, hv4, hw5⟩ := hw5
        have hw5 := Option.some.inj hw5
        subst hw5
        exact (r_draw Try_mixed 14 [] [(2, .p (.bool (v4 == 1)))] [(2, {call := some ([.v (.int .i64 a0.2), .v (.int .i64 1), .v (.int .i64 1000000000)], [.p (.bool v1)], true)}), (4, {g := some true}), (5, {g := some true}), (6, {g := some true, call := some ([.v (.int .i64 a0.1), .v (.int .i64 (-1000000000)), .v (.int .i64 1000000000)], [.p (.bool v2)], true)}), (7, {b := some true}), (9, {g := some true}), (10, {g := some true}), (11, {g := some true, call := some ([.v (.int .i64 a0.1)], [.p (.int .i64 v3)], true)}), (12, {g := some true}), (13, {g := some true}), (14, {g := some true, call := some ([.v (.int .i64 v3), .v (.int .i64 a0.2)], [.p (.int .i64 v4)], true)}), (15, {g := some true}), (16, {b := some true})] [([.v (.int .i64 a0.2), .v (.int .i64 1), .v (.int .i64 1000000000)] : List Arg) = [.v (.int .i64 a0.2), .v (.int .i64 1), .v (.int .i64 1000000000)], Meets Try.prog 31 ([.v (.int .i64 a0.2), .v (.int .i64 1), .v (.int .i64 1000000000)] ++ []) { vals := [.p (.bool v1)] }, List.all [.p (.bool v1)] simpleR = true, v1 = true, v1 = true, v1 = true, ([.v (.int .i64 a0.1), .v (.int .i64 (-1000000000)), .v (.int .i64 1000000000)] : List Arg) = [.v (.int .i64 a0.1), .v (.int .i64 (-1000000000)), .v (.int .i64 1000000000)], Meets Try.prog 31 ([.v (.int .i64 a0.1), .v (.int .i64 (-1000000000)), .v (.int .i64 1000000000)] ++ []) { vals := [.p (.bool v2)] }, List.all [.p (.bool v2)] simpleR = true, v1 = true, v2 = true, v2 = true, v2 = true, ([.v (.int .i64 a0.1)] : List Arg) = [.v (.int .i64 a0.1)], Meets Try.prog 78 ([.v (.int .i64 a0.1)] ++ []) { vals := [.p (.int .i64 v3)] }, List.all [.p (.int .i64 v3)] simpleR = true, v2 = true, v2 = true, v2 = true, ([.v (.int .i64 v3), .v (.int .i64 a0.2)] : List Arg) = [.v (.int .i64 v3), .v (.int .i64 a0.2)], Meets Try.prog 77 ([.v (.int .i64 v3), .v (.int .i64 a0.2)] ++ []) { vals := [.p (.int .i64 v4)] }, List.all [.p (.int .i64 v4)] simpleR = true, v2 = true, v2 = true] (by kernel_rfl) ⟨rfl, (wk_spec_l1In hv1), rfl, ha0, ha0, ha0, rfl, (wk_spec_l1In hv2), rfl, ha0, ha1, ha1, ha1, rfl, (wk_spec_l1Abs hv3), rfl, ha1, ha1, ha1, rfl, (wk_spec_raCommon hv4), rfl, ha1, ha1, trivial⟩)
      · replace hw5 := ite_f ha1 hw5
        have hw5 := Option.some.inj hw5
        subst hw5
        exact (r_draw Try_mixed 14 [] [(2, .p (.bool false))] [(2, {call := some ([.v (.int .i64 a0.2), .v (.int .i64 1), .v (.int .i64 1000000000)], [.p (.bool v1)], true)}), (4, {g := some true}), (5, {g := some true}), (6, {g := some true, call := some ([.v (.int .i64 a0.1), .v (.int .i64 (-1000000000)), .v (.int .i64 1000000000)], [.p (.bool v2)], true)}), (7, {b := some true}), (9, {g := some false}), (10, {g := some false}), (11, {g := some false}), (12, {g := some false}), (13, {g := some false}), (14, {g := some false}), (15, {g := some false}), (16, {b := some false})] [([.v (.int .i64 a0.2), .v (.int .i64 1), .v (.int .i64 1000000000)] : List Arg) = [.v (.int .i64 a0.2), .v (.int .i64 1), .v (.int .i64 1000000000)], Meets Try.prog 31 ([.v (.int .i64 a0.2), .v (.int .i64 1), .v (.int .i64 1000000000)] ++ []) { vals := [.p (.bool v1)] }, List.all [.p (.bool v1)] simpleR = true, v1 = true, v1 = true, v1 = true, ([.v (.int .i64 a0.1), .v (.int .i64 (-1000000000)), .v (.int .i64 1000000000)] : List Arg) = [.v (.int .i64 a0.1), .v (.int .i64 (-1000000000)), .v (.int .i64 1000000000)], Meets Try.prog 31 ([.v (.int .i64 a0.1), .v (.int .i64 (-1000000000)), .v (.int .i64 1000000000)] ++ []) { vals := [.p (.bool v2)] }, List.all [.p (.bool v2)] simpleR = true, v1 = true, v2 = false, v2 = false, v2 = false, v2 = false, v2 = false, v2 = false, v2 = false, v2 = false] (by kernel_rfl) ⟨rfl, (wk_spec_l1In hv1), rfl, ha0, ha0, ha0, rfl, (wk_spec_l1In hv2), rfl, ha0, ha1, ha1, ha1, ha1, ha1, ha1, ha1, ha1, trivial⟩)
    · replace hw5 := ite_f ha0 hw5
      have hw5 := Option.some.inj hw5
      subst hw5
      exact (r_draw Try_mixed 14 [] [(2, .p (.bool false))] [(2, {call := some ([.v (.int .i64 a0.2), .v (.int .i64 1), .v (.int .i64 1000000000)], [.p (.bool v1)], true)}), (4, {g := some false}), (5, {g := some false}), (6, {g := some false}), (7, {b := some false}), (9, {g := some false}), (10, {g := some false}), (11, {g := some false}), (12, {g := some false}), (13, {g := some false}), (14, {g := some false}), (15, {g := some false}), (16, {b := some false})] [([.v (.int .i64 a0.2), .v (.int .i64 1), .v (.int .i64 1000000000)] : List Arg) = [.v (.int .i64 a0.2), .v (.int .i64 1), .v (.int .i64 1000000000)], Meets Try.prog 31 ([.v (.int .i64 a0.2), .v (.int .i64 1), .v (.int .i64 1000000000)] ++ []) { vals := [.p (.bool v1)] }, List.all [.p (.bool v1)] simpleR = true, v1 = false, v1 = false, v1 = false, v1 = false, false = false, false = false, false = false, false = false, false = false, false = false, false = false, false = false] (by kernel_rfl) ⟨rfl, (wk_spec_l1In hv1), rfl, ha0, ha0, ha0, ha0, rfl, rfl, rfl, rfl, rfl, rfl, rfl, rfl, trivial⟩)
  · refine k_ret ?_
    obtain rfl := Option.some.inj h
    exact e_ret (ls := [(.p (.bool w5), 2)]) (by kernel_rfl) rfl (by kernel_rfl) rfl
theorem wk_spec_raUnit {a0 : (Int × Int)}  {r : Bool} (h : spec_raUnit a0 = some r) : Meets Try.prog 51 [.v (.agg #[.int .i64 a0.1, .int .i64 a0.2])] { vals := [.p (.bool r)] } := by
  refine Meets_ofL (by kernel_rfl) Try.func51 rfl (by kernel_rfl) (l0 := [(0, .p (.agg #[.int .i64 a0.1, .int .i64 a0.2]))]) (by kernel_rfl) ?_
  unfold spec_raUnit at h
  refine k_sreg (r_go [(1, .box [.raw (.int .i64 a0.1), .raw (.int .i64 a0.2)])] [] [] (by kernel_rfl) trivial) ?_
  replace h := bind_some' h
  obtain ⟨v1, hv1, h⟩ := h
  replace h := bind_some' h
  obtain ⟨w3, hw3, h⟩ := h
  refine k_sreg (l1 := [(2, .p (.bool w3))]) ?_ ?_
  · clear h
    rcases Bool.eq_false_or_eq_true v1 with ha0 | ha0
    · replace hw3 := ite_t ha0 hw3
      replace hw3 := bind_some' hw3
      obtain ⟨v2, hv2, hw3⟩ := hw3
      have hw3 := Option.some.inj hw3
      subst hw3
      exact (r_go [(2, .p (.bool v2))] [(1, {call := some ([.v (.agg #[.int .i64 a0.1, .int .i64 a0.2])], [.p (.bool v1)], true)}), (3, {g := some true}), (4, {g := some true}), (5, {g := some true}), (6, {g := some true}), (7, {g := some true, call := some ([.v (.int .i64 a0.1), .v (.int .i64 0), .v (.int .i64 a0.2)], [.p (.bool v2)], true)}), (8, {b := some true})] [([.v (.agg #[.int .i64 a0.1, .int .i64 a0.2])] : List Arg) = [.v (.agg #[.int .i64 a0.1, .int .i64 a0.2])], Meets Try.prog 61 ([.v (.agg #[.int .i64 a0.1, .int .i64 a0.2])] ++ []) { vals := [.p (.bool v1)] }, List.all [.p (.bool v1)] simpleR = true, v1 = true, v1 = true, v1 = true, v1 = true, v1 = true, ([.v (.int .i64 a0.1), .v (.int .i64 0), .v (.int .i64 a0.2)] : List Arg) = [.v (.int .i64 a0.1), .v (.int .i64 0), .v (.int .i64 a0.2)], Meets Try.prog 31 ([.v (.int .i64 a0.1), .v (.int .i64 0), .v (.int .i64 a0.2)] ++ []) { vals := [.p (.bool v2)] }, List.all [.p (.bool v2)] simpleR = true, v1 = true] (by kernel_rfl) ⟨rfl, (wk_spec_raGood hv1), rfl, ha0, ha0, ha0, ha0, ha0, rfl, (wk_spec_l1In hv2), rfl, ha0, trivial⟩)
    · replace hw3 := ite_f ha0 hw3
      have hw3 := Option.some.inj hw3
      subst hw3
      exact (r_go [(2, .p (.bool false))] [(1, {call := some ([.v (.agg #[.int .i64 a0.1, .int .i64 a0.2])], [.p (.bool v1)], true)}), (3, {g := some false}), (4, {g := some false}), (5, {g := some false}), (6, {g := some false}), (7, {g := some false}), (8, {b := some false})] [([.v (.agg #[.int .i64 a0.1, .int .i64 a0.2])] : List Arg) = [.v (.agg #[.int .i64 a0.1, .int .i64 a0.2])], Meets Try.prog 61 ([.v (.agg #[.int .i64 a0.1, .int .i64 a0.2])] ++ []) { vals := [.p (.bool v1)] }, List.all [.p (.bool v1)] simpleR = true, v1 = false, v1 = false, v1 = false, v1 = false, v1 = false, v1 = false] (by kernel_rfl) ⟨rfl, (wk_spec_raGood hv1), rfl, ha0, ha0, ha0, ha0, ha0, ha0, trivial⟩)
  · refine k_ret ?_
    obtain rfl := Option.some.inj h
    exact e_ret (ls := [(.p (.bool w3), 2)]) (by kernel_rfl) rfl (by kernel_rfl) rfl
theorem wk_spec_imCoord {a0 : (Int × Int)}  {r : Bool} (h : spec_imCoord a0 = some r) : Meets Try.prog 41 [.v (.agg #[.int .i64 a0.1, .int .i64 a0.2])] { vals := [.p (.bool r)] } := by
  refine Meets_ofL (by kernel_rfl) Try.func41 rfl (by kernel_rfl) (l0 := [(0, .p (.agg #[.int .i64 a0.1, .int .i64 a0.2]))]) (by kernel_rfl) ?_
  unfold spec_imCoord at h
  refine k_sreg (r_go [(1, .box [.raw (.int .i64 a0.1), .raw (.int .i64 a0.2)])] [] [] (by kernel_rfl) trivial) ?_
  replace h := bind_some' h
  obtain ⟨v1, hv1, h⟩ := h
  refine k_sreg (l1 := [(2, .p (.bool (v1 && (decide (a0.2 ≤ 100)))))]) ?_ ?_
  · rcases Bool.eq_false_or_eq_true v1 with ha0 | ha0
    · exact RegOk.of_eq (l2 := [(2, .p (.bool (v1 && (decide (a0.2 ≤ 100)))))]) (r_go [(2, .p (.bool (decide (a0.2 ≤ 100))))] [(1, {call := some ([.v (.agg #[.int .i64 a0.1, .int .i64 a0.2])], [.p (.bool v1)], true)}), (3, {g := some true}), (4, {g := some true}), (5, {g := some true}), (6, {b := some true})] [([.v (.agg #[.int .i64 a0.1, .int .i64 a0.2])] : List Arg) = [.v (.agg #[.int .i64 a0.1, .int .i64 a0.2])], Meets Try.prog 51 ([.v (.agg #[.int .i64 a0.1, .int .i64 a0.2])] ++ []) { vals := [.p (.bool v1)] }, List.all [.p (.bool v1)] simpleR = true, v1 = true, v1 = true, v1 = true, v1 = true] (by kernel_rfl) ⟨rfl, (wk_spec_raUnit hv1), rfl, ha0, ha0, ha0, ha0, trivial⟩) (by simp [ha0])
    · exact RegOk.of_eq (l2 := [(2, .p (.bool (v1 && (decide (a0.2 ≤ 100)))))]) (r_go [(2, .p (.bool false))] [(1, {call := some ([.v (.agg #[.int .i64 a0.1, .int .i64 a0.2])], [.p (.bool v1)], true)}), (3, {g := some false}), (4, {g := some false}), (5, {g := some false}), (6, {b := some false})] [([.v (.agg #[.int .i64 a0.1, .int .i64 a0.2])] : List Arg) = [.v (.agg #[.int .i64 a0.1, .int .i64 a0.2])], Meets Try.prog 51 ([.v (.agg #[.int .i64 a0.1, .int .i64 a0.2])] ++ []) { vals := [.p (.bool v1)] }, List.all [.p (.bool v1)] simpleR = true, v1 = false, v1 = false, v1 = false, v1 = false] (by kernel_rfl) ⟨rfl, (wk_spec_raUnit hv1), rfl, ha0, ha0, ha0, ha0, trivial⟩) (by simp [ha0])
  · refine k_ret ?_
    obtain rfl := Option.some.inj h
    exact e_ret (ls := [(.p (.bool (v1 && (decide (a0.2 ≤ 100)))), 2)]) (by kernel_rfl) rfl (by kernel_rfl) rfl
theorem wk_spec_l1Sign {a0 : Int}  {r : Int} (h : spec_l1Sign a0 = some r) : Meets Try.prog 44 [.v (.int .i64 a0)] { vals := [.p (.int .i64 r)] } := by
  refine Meets_ofL (by kernel_rfl) Try.func44 rfl (by kernel_rfl) (l0 := [(0, .p (.int .i64 a0))]) (by kernel_rfl) ?_
  unfold spec_l1Sign at h
  refine k_sreg (r_go [(0, .p (.int .i64 a0))] [] [] (by kernel_rfl) trivial) ?_
  refine k_seq ?_
  refine k_block ?_
  refine k_sreg (r_go [(0, .p (.int .i64 a0)), (3, .p (.bool (decide (a0 > 0))))] [] [] (by kernel_rfl) trivial) ?_
  refine k_cond (b := (decide (a0 > 0))) (by kernel_rfl) (fun hc3_0 => ?_) (fun hc3_0 => ?_)
  · replace h := ite_t hc3_0 h
    refine k_sreg (r_go [(2, .p (.int .i64 1))] [] [] (by kernel_rfl) trivial) ?_
    refine k_ret ?_
    refine b_r ?_
    refine q_r ?_
    obtain rfl := Option.some.inj h
    exact e_ret (ls := [(.p (.int .i64 1), 2)]) (by kernel_rfl) rfl (by kernel_rfl) rfl
  · replace h := ite_f hc3_0 h
    refine k_sreg (r_go [(6, .p (.bool (decide (a0 < 0))))] [] [] (by kernel_rfl) trivial) ?_
    refine k_cond (b := (decide (a0 < 0))) (by kernel_rfl) (fun hc3_1 => ?_) (fun hc3_1 => ?_)
    · replace h := ite_t hc3_1 h
      refine k_sreg (r_go [(2, .p (.int .i64 (-1)))] [] [] (by kernel_rfl) trivial) ?_
      refine k_ret ?_
      refine b_r ?_
      refine q_r ?_
      obtain rfl := Option.some.inj h
      exact e_ret (ls := [(.p (.int .i64 (-1)), 2)]) (by kernel_rfl) rfl (by kernel_rfl) rfl
    · replace h := ite_f hc3_1 h
      refine k_skip ?_
      refine b_n ?_
      refine q_n ?_
      refine k_sreg (r_go [(2, .p (.int .i64 0))] [] [] (by kernel_rfl) trivial) ?_
      refine k_ret ?_
      obtain rfl := Option.some.inj h
      exact e_ret (ls := [(.p (.int .i64 0), 2)]) (by kernel_rfl) rfl (by kernel_rfl) rfl
theorem wk_spec_raCmp {a0 : (Int × Int)} {a1 : (Int × Int)}  {r : Int} (h : spec_raCmp a0 a1 = some r) : Meets Try.prog 32 [.v (.agg #[.int .i64 a0.1, .int .i64 a0.2]), .v (.agg #[.int .i64 a1.1, .int .i64 a1.2])] { vals := [.p (.int .i64 r)] } := by
  refine Meets_ofL (by kernel_rfl) Try.func32 rfl (by kernel_rfl) (l0 := [(0, .p (.agg #[.int .i64 a0.1, .int .i64 a0.2])), (1, .p (.agg #[.int .i64 a1.1, .int .i64 a1.2]))]) (by kernel_rfl) ?_
  unfold spec_raCmp at h
  refine k_sreg (r_go [(2, .box [.raw (.int .i64 a0.1), .raw (.int .i64 a0.2)]), (3, .box [.raw (.int .i64 a1.1), .raw (.int .i64 a1.2)])] [] [] (by kernel_rfl) trivial) ?_
  replace h := bind_some' h
  obtain ⟨v1, hv1, h⟩ := h
  refine k_sreg (r_go [(4, .p (.int .i64 v1))] [(11, {call := some ([.v (.int .i64 (w64 ((w64 (a0.1 * a1.2)) - (w64 (a1.1 * a0.2)))))], [.p (.int .i64 v1)], true)})] [([.v (.int .i64 (w64 ((w64 (a0.1 * a1.2)) - (w64 (a1.1 * a0.2)))))] : List Arg) = [.v (.int .i64 (w64 ((w64 (a0.1 * a1.2)) - (w64 (a1.1 * a0.2)))))], Meets Try.prog 44 ([.v (.int .i64 (w64 ((w64 (a0.1 * a1.2)) - (w64 (a1.1 * a0.2)))))] ++ []) { vals := [.p (.int .i64 v1)] }, List.all [.p (.int .i64 v1)] simpleR = true] (by kernel_rfl) ⟨rfl, (wk_spec_l1Sign hv1), rfl, trivial⟩) ?_
  refine k_ret ?_
  obtain rfl := Option.some.inj h
  exact e_ret (ls := [(.p (.int .i64 v1), 4)]) (by kernel_rfl) rfl (by kernel_rfl) rfl
theorem wk_spec_raInt {a0 : Int}  {r : (Int × Int)} (h : spec_raInt a0 = some r) : Meets Try.prog 42 [.v (.int .i64 a0)] { vals := [.p (.agg #[.int .i64 r.1, .int .i64 r.2])] } := by
  refine Meets_ofL (by kernel_rfl) Try.func42 rfl (by kernel_rfl) (l0 := [(0, .p (.int .i64 a0))]) (by kernel_rfl) ?_
  unfold spec_raInt at h
  refine k_sreg (r_go [(0, .p (.int .i64 a0)), (2, .box [.raw (.int .i64 0), .raw (.int .i64 0)])] [] [] (by kernel_rfl) trivial) ?_
  refine k_sreg (r_go [(2, .box [.raw (.int .i64 a0), .raw (.int .i64 1)])] [] [] (by kernel_rfl) trivial) ?_
  refine k_ret ?_
  obtain rfl := Option.some.inj h
  exact e_ret (ls := [(.p (.agg #[.int .i64 a0, .int .i64 1]), 2)]) (by kernel_rfl) rfl (by kernel_rfl) rfl
theorem wk_spec_imGood {a0 : (List ((Int × Int) × (Int × Int)))}  {r : Bool} (h : spec_imGood a0 = some r) : Meets Try.prog 28 [.d false [.sl none (a0.map (eP (eP eI eI) (eP eI eI)))]] { vals := [.p (.bool r)] } := by
  refine Meets_ofL (by kernel_rfl) Try.func28 rfl (by kernel_rfl) (l0 := [(0, .d false [.sl none (a0.map (eP (eP eI eI) (eP eI eI)))])]) (by kernel_rfl) ?_
  unfold spec_imGood at h
  refine k_sreg (r_go [(0, .d false [.sl none (a0.map (eP (eP eI eI) (eP eI eI)))])] [] [] (by kernel_rfl) trivial) ?_
  refine k_seq ?_
  replace h := bind_some' h
  obtain ⟨v1, hv1, h⟩ := h
  refine k_sreg (r_go [(0, .d false [.sl none (a0.map (eP (eP eI eI) (eP eI eI)))]), (8, .p (.bool (!v1)))] [(1, {n := some a0.length}), (2, {call := some ([.v (.int .i64 (a0.length : Int)), .v (.int .i64 2), .v (.int .i64 12)], [.p (.bool v1)], true)})] [(a0.map (eP (eP eI eI) (eP eI eI))).length = a0.length, ([.v (.int .i64 (a0.length : Int)), .v (.int .i64 2), .v (.int .i64 12)] : List Arg) = [.v (.int .i64 (a0.length : Int)), .v (.int .i64 2), .v (.int .i64 12)], Meets Try.prog 31 ([.v (.int .i64 (a0.length : Int)), .v (.int .i64 2), .v (.int .i64 12)] ++ []) { vals := [.p (.bool v1)] }, List.all [.p (.bool v1)] simpleR = true] (by kernel_rfl) ⟨(List.length_map ..), rfl, (wk_spec_l1In hv1), rfl, trivial⟩) ?_
  refine k_cond (b := (!v1)) (by kernel_rfl) (fun hc2_1 => ?_) (fun hc2_1 => ?_)
  · replace h := ite_t hc2_1 h
    refine k_sreg (r_go [(2, .p (.bool false))] [] [] (by kernel_rfl) trivial) ?_
    refine k_ret ?_
    refine q_r ?_
    obtain rfl := Option.some.inj h
    exact e_ret (ls := [(.p (.bool false), 2)]) (by kernel_rfl) rfl (by kernel_rfl) rfl
  · replace h := ite_f hc2_1 h
    refine k_skip ?_
    refine q_n ?_
    refine k_join (J := fun (x : Unit) => [(0, .d false [.sl none (a0.map (eP (eP eI eI) (eP eI eI)))])]) (K := fun x => spec_imGood_k1 a0 x = some r) (fun x3 h => ?_) ?_
    · unfold spec_imGood_k1 at h
      replace h := bind_some' h
      obtain ⟨v4, hv4, h⟩ := h
      replace h := bind_some' h
      obtain ⟨v5, hv5, h⟩ := h
      replace h := bind_some' h
      obtain ⟨v6, hv6, h⟩ := h
      replace h := bind_some' h
      obtain ⟨w10, hw10, h⟩ := h
      refine k_sreg (l1 := [(2, .p (.bool w10))]) ?_ ?_
      · clear h
        rcases Bool.eq_false_or_eq_true (v6 == 0) with ha1 | ha1
        · replace hw10 := ite_t ha1 hw10
          replace hw10 := bind_some' hw10
          obtain ⟨v7, hv7, hw10⟩ := hw10
          replace hw10 := bind_some' hw10
          obtain ⟨v8, hv8, hw10⟩ := hw10
          replace hw10 := bind_some' hw10
          obtain ⟨v9, hv9, hw10⟩ := hw10
          have hw10 := Option.some.inj hw10
          subst hw10
          exact (r_draw Try_mixed 16 [] [(2, .p (.bool (v9 == 0)))] [(1, {row := some [.raw (.int .i64 v4.1.1), .raw (.int .i64 v4.1.2), .raw (.int .i64 v4.2.1), .raw (.int .i64 v4.2.2)]}), (4, {call := some ([.v (.int .i64 0)], [.p (.agg #[.int .i64 v5.1, .int .i64 v5.2])], true)}), (5, {call := some ([.v (.agg #[.int .i64 v4.1.1, .int .i64 v4.1.2]), .v (.agg #[.int .i64 v5.1, .int .i64 v5.2])], [.p (.int .i64 v6)], true)}), (8, {g := some true}), (9, {g := some true}), (10, {g := some true, n := some a0.length}), (11, {g := some true}), (12, {g := some true, row := some [.raw (.int .i64 v7.1.1), .raw (.int .i64 v7.1.2), .raw (.int .i64 v7.2.1), .raw (.int .i64 v7.2.2)]}), (13, {g := some true}), (14, {g := some true}), (15, {g := some true, call := some ([.v (.int .i64 1)], [.p (.agg #[.int .i64 v8.1, .int .i64 v8.2])], true)}), (16, {g := some true, call := some ([.v (.agg #[.int .i64 v7.1.1, .int .i64 v7.1.2]), .v (.agg #[.int .i64 v8.1, .int .i64 v8.2])], [.p (.int .i64 v9)], true)}), (17, {g := some true}), (18, {b := some true})] [0 ≤ 0, (a0.map (eP (eP eI eI) (eP eI eI)))[(Int.toNat 0)]? = some [.raw (.int .i64 v4.1.1), .raw (.int .i64 v4.1.2), .raw (.int .i64 v4.2.1), .raw (.int .i64 v4.2.2)], ([.v (.int .i64 0)] : List Arg) = [.v (.int .i64 0)], Meets Try.prog 42 ([.v (.int .i64 0)] ++ []) { vals := [.p (.agg #[.int .i64 v5.1, .int .i64 v5.2])] }, List.all [.p (.agg #[.int .i64 v5.1, .int .i64 v5.2])] simpleR = true, ([.v (.agg #[.int .i64 v4.1.1, .int .i64 v4.1.2]), .v (.agg #[.int .i64 v5.1, .int .i64 v5.2])] : List Arg) = [.v (.agg #[.int .i64 v4.1.1, .int .i64 v4.1.2]), .v (.agg #[.int .i64 v5.1, .int .i64 v5.2])], Meets Try.prog 32 ([.v (.agg #[.int .i64 v4.1.1, .int .i64 v4.1.2]), .v (.agg #[.int .i64 v5.1, .int .i64 v5.2])] ++ []) { vals := [.p (.int .i64 v6)] }, List.all [.p (.int .i64 v6)] simpleR = true, (v6 == 0) = true, (v6 == 0) = true, (v6 == 0) = true, (a0.map (eP (eP eI eI) (eP eI eI))).length = a0.length, (v6 == 0) = true, (v6 == 0) = true, 0 ≤ (w64 ((a0.length : Int) - 1)), (a0.map (eP (eP eI eI) (eP eI eI)))[(Int.toNat (w64 ((a0.length : Int) - 1)))]? = some [.raw (.int .i64 v7.1.1), .raw (.int .i64 v7.1.2), .raw (.int .i64 v7.2.1), .raw (.int .i64 v7.2.2)], (v6 == 0) = true, (v6 == 0) = true, (v6 == 0) = true, ([.v (.int .i64 1)] : List Arg) = [.v (.int .i64 1)], Meets Try.prog 42 ([.v (.int .i64 1)] ++ []) { vals := [.p (.agg #[.int .i64 v8.1, .int .i64 v8.2])] }, List.all [.p (.agg #[.int .i64 v8.1, .int .i64 v8.2])] simpleR = true, (v6 == 0) = true, ([.v (.agg #[.int .i64 v7.1.1, .int .i64 v7.1.2]), .v (.agg #[.int .i64 v8.1, .int .i64 v8.2])] : List Arg) = [.v (.agg #[.int .i64 v7.1.1, .int .i64 v7.1.2]), .v (.agg #[.int .i64 v8.1, .int .i64 v8.2])], Meets Try.prog 32 ([.v (.agg #[.int .i64 v7.1.1, .int .i64 v7.1.2]), .v (.agg #[.int .i64 v8.1, .int .i64 v8.2])] ++ []) { vals := [.p (.int .i64 v9)] }, List.all [.p (.int .i64 v9)] simpleR = true, (v6 == 0) = true, (v6 == 0) = true] (by kernel_rfl) ⟨(idxO_some hv4).1, (map_get (eP (eP eI eI) (eP eI eI)) (idxO_some hv4).2), rfl, (wk_spec_raInt hv5), rfl, rfl, (wk_spec_raCmp hv6), rfl, ha1, ha1, ha1, (List.length_map ..), ha1, ha1, (idxO_some hv7).1, (map_get (eP (eP eI eI) (eP eI eI)) (idxO_some hv7).2), ha1, ha1, ha1, rfl, (wk_spec_raInt hv8), rfl, ha1, rfl, (wk_spec_raCmp hv9), rfl, ha1, ha1, trivial⟩)
        · replace hw10 := ite_f ha1 hw10
          have hw10 := Option.some.inj hw10
          subst hw10
          exact (r_draw Try_mixed 16 [] [(2, .p (.bool false))] [(1, {row := some [.raw (.int .i64 v4.1.1), .raw (.int .i64 v4.1.2), .raw (.int .i64 v4.2.1), .raw (.int .i64 v4.2.2)]}), (4, {call := some ([.v (.int .i64 0)], [.p (.agg #[.int .i64 v5.1, .int .i64 v5.2])], true)}), (5, {call := some ([.v (.agg #[.int .i64 v4.1.1, .int .i64 v4.1.2]), .v (.agg #[.int .i64 v5.1, .int .i64 v5.2])], [.p (.int .i64 v6)], true)}), (8, {g := some false}), (9, {g := some false}), (10, {g := some false}), (11, {g := some false}), (12, {g := some false}), (13, {g := some false}), (14, {g := some false}), (15, {g := some false}), (16, {g := some false}), (17, {g := some false}), (18, {b := some false})] [0 ≤ 0, (a0.map (eP (eP eI eI) (eP eI eI)))[(Int.toNat 0)]? = some [.raw (.int .i64 v4.1.1), .raw (.int .i64 v4.1.2), .raw (.int .i64 v4.2.1), .raw (.int .i64 v4.2.2)], ([.v (.int .i64 0)] : List Arg) = [.v (.int .i64 0)], Meets Try.prog 42 ([.v (.int .i64 0)] ++ []) { vals := [.p (.agg #[.int .i64 v5.1, .int .i64 v5.2])] }, List.all [.p (.agg #[.int .i64 v5.1, .int .i64 v5.2])] simpleR = true, ([.v (.agg #[.int .i64 v4.1.1, .int .i64 v4.1.2]), .v (.agg #[.int .i64 v5.1, .int .i64 v5.2])] : List Arg) = [.v (.agg #[.int .i64 v4.1.1, .int .i64 v4.1.2]), .v (.agg #[.int .i64 v5.1, .int .i64 v5.2])], Meets Try.prog 32 ([.v (.agg #[.int .i64 v4.1.1, .int .i64 v4.1.2]), .v (.agg #[.int .i64 v5.1, .int .i64 v5.2])] ++ []) { vals := [.p (.int .i64 v6)] }, List.all [.p (.int .i64 v6)] simpleR = true, (v6 == 0) = false, (v6 == 0) = false, (v6 == 0) = false, (v6 == 0) = false, (v6 == 0) = false, (v6 == 0) = false, (v6 == 0) = false, (v6 == 0) = false, (v6 == 0) = false, (v6 == 0) = false, (v6 == 0) = false] (by kernel_rfl) ⟨(idxO_some hv4).1, (map_get (eP (eP eI eI) (eP eI eI)) (idxO_some hv4).2), rfl, (wk_spec_raInt hv5), rfl, rfl, (wk_spec_raCmp hv6), rfl, ha1, ha1, ha1, ha1, ha1, ha1, ha1, ha1, ha1, ha1, ha1, trivial⟩)
      · refine k_ret ?_
        obtain rfl := Option.some.inj h
        exact e_ret (ls := [(.p (.bool w10), 2)]) (by kernel_rfl) rfl (by kernel_rfl) rfl
    · refine k_sreg (r_go [(0, .d false [.sl none (a0.map (eP (eP eI eI) (eP eI eI)))]), (9, .d false [.sl none (a0.map (eP (eP eI eI) (eP eI eI)))]), (10, .p (.int .i64 (a0.length : Int))), (11, .p (.int .i64 0))] [(1, {n := some a0.length})] [(a0.map (eP (eP eI eI) (eP eI eI))).length = a0.length] (by kernel_rfl) ⟨(List.length_map ..), trivial⟩) ?_
      refine k_block ?_
      obtain ⟨y12, hl_x11, hk_x11⟩ := bind_some' h
      clear h
      refine k_loop (J := fun (x : Int) => [(0, .d false [.sl none (a0.map (eP (eP eI eI) (eP eI eI)))]), (9, .d false [.sl none (a0.map (eP (eP eI eI) (eP eI eI)))]), (10, .p (.int .i64 (a0.length : Int))), (11, .p (.int .i64 x))]) hl_x11 (wk_of (by kernel_rfl) (by kernel_rfl)) (fun x11 o_x11 h hy_x11 => ?_)
      unfold spec_imGood_b1 at h
      refine k_sreg (r_go [(0, .d false [.sl none (a0.map (eP (eP eI eI) (eP eI eI)))]), (9, .d false [.sl none (a0.map (eP (eP eI eI) (eP eI eI)))]), (10, .p (.int .i64 (a0.length : Int))), (11, .p (.int .i64 x11)), (12, .p (.bool (decide (x11 < (a0.length : Int)))))] [] [] (by kernel_rfl) trivial) ?_
      refine k_seq ?_
      refine k_cond (b := (decide (x11 < (a0.length : Int)))) (by kernel_rfl) (fun hc5_12 => ?_) (fun hc5_12 => ?_)
      · replace h := ite_t hc5_12 h
        refine k_skip ?_
        refine q_n ?_
        refine k_seq ?_
        refine k_block ?_
        replace h := bind_some' h
        obtain ⟨v14, hv14, h⟩ := h
        refine k_sreg (r_go [(0, .d false [.sl none (a0.map (eP (eP eI eI) (eP eI eI)))]), (3, .p (.int .i64 x11)), (4, .box [.raw (.int .i64 v14.1.1), .raw (.int .i64 v14.1.2), .raw (.int .i64 v14.2.1), .raw (.int .i64 v14.2.2)]), (9, .d false [.sl none (a0.map (eP (eP eI eI) (eP eI eI)))]), (10, .p (.int .i64 (a0.length : Int))), (11, .p (.int .i64 x11))] [(1, {row := some [.raw (.int .i64 v14.1.1), .raw (.int .i64 v14.1.2), .raw (.int .i64 v14.2.1), .raw (.int .i64 v14.2.2)]})] [0 ≤ x11, (a0.map (eP (eP eI eI) (eP eI eI)))[(Int.toNat x11)]? = some [.raw (.int .i64 v14.1.1), .raw (.int .i64 v14.1.2), .raw (.int .i64 v14.2.1), .raw (.int .i64 v14.2.2)]] (by kernel_rfl) ⟨(idxO_some hv14).1, (map_get (eP (eP eI eI) (eP eI eI)) (idxO_some hv14).2), trivial⟩) ?_
        replace h := bind_some' h
        obtain ⟨v15, hv15, h⟩ := h
        replace h := bind_some' h
        obtain ⟨w19, hw19, h⟩ := h
        refine k_sreg (l1 := [(0, .d false [.sl none (a0.map (eP (eP eI eI) (eP eI eI)))]), (9, .d false [.sl none (a0.map (eP (eP eI eI) (eP eI eI)))]), (10, .p (.int .i64 (a0.length : Int))), (11, .p (.int .i64 x11)), (41, .p (.bool w19))]) ?_ ?_
        · clear h
          rcases Bool.eq_false_or_eq_true (!v15) with ha2 | ha2
          · replace hw19 := ite_t ha2 hw19
            have hw19 := Option.some.inj hw19
            subst hw19
            exact (r_draw Try_mixed 22 [] [(0, .d false [.sl none (a0.map (eP (eP eI eI) (eP eI eI)))]), (9, .d false [.sl none (a0.map (eP (eP eI eI) (eP eI eI)))]), (10, .p (.int .i64 (a0.length : Int))), (11, .p (.int .i64 x11)), (41, .p (.bool true))] [(2, {call := some ([.v (.agg #[.int .i64 v14.1.1, .int .i64 v14.1.2])], [.p (.bool v15)], true)}), (5, {g := some true}), (6, {g := some true}), (7, {g := some true}), (8, {g := some true}), (9, {b := some true}), (11, {g := some true}), (12, {g := some true}), (13, {g := some true}), (24, {g := some true}), (25, {b := some true})] [([.v (.agg #[.int .i64 v14.1.1, .int .i64 v14.1.2])] : List Arg) = [.v (.agg #[.int .i64 v14.1.1, .int .i64 v14.1.2])], Meets Try.prog 41 ([.v (.agg #[.int .i64 v14.1.1, .int .i64 v14.1.2])] ++ []) { vals := [.p (.bool v15)] }, List.all [.p (.bool v15)] simpleR = true, (!v15) = true, (!v15) = true, (!v15) = true, (!v15) = true, (!v15) = true, true = true, true = true, true = true, true = true, true = true] (by kernel_rfl) ⟨rfl, (wk_spec_imCoord hv15), rfl, ha2, ha2, ha2, ha2, ha2, rfl, rfl, rfl, rfl, rfl, trivial⟩)
          · replace hw19 := ite_f ha2 hw19
            replace hw19 := bind_some' hw19
            obtain ⟨v16, hv16, hw19⟩ := hw19
            rcases Bool.eq_false_or_eq_true (!v16) with ha3 | ha3
            · replace hw19 := ite_t ha3 hw19
              have hw19 := Option.some.inj hw19
              subst hw19
              exact (r_draw Try_mixed 22 [] [(0, .d false [.sl none (a0.map (eP (eP eI eI) (eP eI eI)))]), (9, .d false [.sl none (a0.map (eP (eP eI eI) (eP eI eI)))]), (10, .p (.int .i64 (a0.length : Int))), (11, .p (.int .i64 x11)), (41, .p (.bool true))] [(2, {call := some ([.v (.agg #[.int .i64 v14.1.1, .int .i64 v14.1.2])], [.p (.bool v15)], true)}), (5, {g := some false}), (6, {g := some false}), (7, {g := some false, call := some ([.v (.agg #[.int .i64 v14.2.1, .int .i64 v14.2.2])], [.p (.bool v16)], true)}), (8, {g := some false}), (9, {b := some false}), (11, {g := some true}), (12, {g := some true}), (13, {g := some true}), (24, {g := some true}), (25, {b := some true})] [([.v (.agg #[.int .i64 v14.1.1, .int .i64 v14.1.2])] : List Arg) = [.v (.agg #[.int .i64 v14.1.1, .int .i64 v14.1.2])], Meets Try.prog 41 ([.v (.agg #[.int .i64 v14.1.1, .int .i64 v14.1.2])] ++ []) { vals := [.p (.bool v15)] }, List.all [.p (.bool v15)] simpleR = true, (!v15) = false, (!v15) = false, (!v15) = false, ([.v (.agg #[.int .i64 v14.2.1, .int .i64 v14.2.2])] : List Arg) = [.v (.agg #[.int .i64 v14.2.1, .int .i64 v14.2.2])], Meets Try.prog 41 ([.v (.agg #[.int .i64 v14.2.1, .int .i64 v14.2.2])] ++ []) { vals := [.p (.bool v16)] }, List.all [.p (.bool v16)] simpleR = true, (!v15) = false, (!v15) = false, (!v16) = true, (!v16) = true, (!v16) = true, (!v16) = true, (!v16) = true] (by kernel_rfl) ⟨rfl, (wk_spec_imCoord hv15), rfl, ha2, ha2, ha2, rfl, (wk_spec_imCoord hv16), rfl, ha2, ha2, ha3, ha3, ha3, ha3, ha3, trivial⟩)
            · replace hw19 := ite_f ha3 hw19
              rcases Bool.eq_false_or_eq_true (decide (x11 > 0)) with ha4 | ha4
              · replace hw19 := ite_t ha4 hw19
                replace hw19 := bind_some' hw19
                obtain ⟨v17, hv17, hw19⟩ := hw19
                replace hw19 := bind_some' hw19
                obtain ⟨v18, hv18, hw19⟩ := hw19
                have hw19 := Option.some.inj hw19
                subst hw19
                exact (r_draw Try_mixed 22 [] [(0, .d false [.sl none (a0.map (eP (eP eI eI) (eP eI eI)))]), (9, .d false [.sl none (a0.map (eP (eP eI eI) (eP eI eI)))]), (10, .p (.int .i64 (a0.length : Int))), (11, .p (.int .i64 x11)), (41, .p (.bool (decide (v18 ≥ 0))))] [(2, {call := some ([.v (.agg #[.int .i64 v14.1.1, .int .i64 v14.1.2])], [.p (.bool v15)], true)}), (5, {g := some false}), (6, {g := some false}), (7, {g := some false, call := some ([.v (.agg #[.int .i64 v14.2.1, .int .i64 v14.2.2])], [.p (.bool v16)], true)}), (8, {g := some false}), (9, {b := some false}), (11, {g := some false}), (12, {g := some false}), (13, {g := some false}), (14, {g := some true}), (15, {g := some true}), (16, {g := some true}), (17, {g := some true, row := some [.raw (.int .i64 v17.1.1), .raw (.int .i64 v17.1.2), .raw (.int .i64 v17.2.1), .raw (.int .i64 v17.2.2)]}), (18, {g := some true}), (19, {g := some true}), (20, {g := some true}), (21, {g := some true}), (22, {g := some true, call := some ([.v (.agg #[.int .i64 v17.1.1, .int .i64 v17.1.2]), .v (.agg #[.int .i64 v14.1.1, .int .i64 v14.1.2])], [.p (.int .i64 v18)], true)}), (23, {g := some true}), (24, {g := some false, b := some true}), (25, {b := some false})] [([.v (.agg #[.int .i64 v14.1.1, .int .i64 v14.1.2])] : List Arg) = [.v (.agg #[.int .i64 v14.1.1, .int .i64 v14.1.2])], Meets Try.prog 41 ([.v (.agg #[.int .i64 v14.1.1, .int .i64 v14.1.2])] ++ []) { vals := [.p (.bool v15)] }, List.all [.p (.bool v15)] simpleR = true, (!v15) = false, (!v15) = false, (!v15) = false, ([.v (.agg #[.int .i64 v14.2.1, .int .i64 v14.2.2])] : List Arg) = [.v (.agg #[.int .i64 v14.2.1, .int .i64 v14.2.2])], Meets Try.prog 41 ([.v (.agg #[.int .i64 v14.2.1, .int .i64 v14.2.2])] ++ []) { vals := [.p (.bool v16)] }, List.all [.p (.bool v16)] simpleR = true, (!v15) = false, (!v15) = false, (!v16) = false, (!v16) = false, (!v16) = false, (decide (x11 > 0)) = true, (decide (x11 > 0)) = true, (decide (x11 > 0)) = true, (decide (x11 > 0)) = true, 0 ≤ (w64 (x11 - 1)), (a0.map (eP (eP eI eI) (eP eI eI)))[(Int.toNat (w64 (x11 - 1)))]? = some [.raw (.int .i64 v17.1.1), .raw (.int .i64 v17.1.2), .raw (.int .i64 v17.2.1), .raw (.int .i64 v17.2.2)], (decide (x11 > 0)) = true, (decide (x11 > 0)) = true, (decide (x11 > 0)) = true, (decide (x11 > 0)) = true, (decide (x11 > 0)) = true, ([.v (.agg #[.int .i64 v17.1.1, .int .i64 v17.1.2]), .v (.agg #[.int .i64 v14.1.1, .int .i64 v14.1.2])] : List Arg) = [.v (.agg #[.int .i64 v17.1.1, .int .i64 v17.1.2]), .v (.agg #[.int .i64 v14.1.1, .int .i64 v14.1.2])], Meets Try.prog 32 ([.v (.agg #[.int .i64 v17.1.1, .int .i64 v17.1.2]), .v (.agg #[.int .i64 v14.1.1, .int .i64 v14.1.2])] ++ []) { vals := [.p (.int .i64 v18)] }, List.all [.p (.int .i64 v18)] simpleR = true, (decide (x11 > 0)) = true, (!v16) = false, (decide (x11 > 0)) = true, (!v16) = false] (by kernel_rfl) ⟨rfl, (wk_spec_imCoord hv15), rfl, ha2, ha2, ha2, rfl, (wk_spec_imCoord hv16), rfl, ha2, ha2, ha3, ha3, ha3, ha4, ha4, ha4, ha4, (idxO_some hv17).1, (map_get (eP (eP eI eI) (eP eI eI)) (idxO_some hv17).2), ha4, ha4, ha4, ha4, ha4, rfl, (wk_spec_raCmp hv18), rfl, ha4, ha3, ha4, ha3, trivial⟩)
              · replace hw19 := ite_f ha4 hw19
                have hw19 := Option.some.inj hw19
                subst hw19
                exact (r_draw Try_mixed 22 [] [(0, .d false [.sl none (a0.map (eP (eP eI eI) (eP eI eI)))]), (9, .d false [.sl none (a0.map (eP (eP eI eI) (eP eI eI)))]), (10, .p (.int .i64 (a0.length : Int))), (11, .p (.int .i64 x11)), (41, .p (.bool false))] [(2, {call := some ([.v (.agg #[.int .i64 v14.1.1, .int .i64 v14.1.2])], [.p (.bool v15)], true)}), (5, {g := some false}), (6, {g := some false}), (7, {g := some false, call := some ([.v (.agg #[.int .i64 v14.2.1, .int .i64 v14.2.2])], [.p (.bool v16)], true)}), (8, {g := some false}), (9, {b := some false}), (11, {g := some false}), (12, {g := some false}), (13, {g := some false}), (14, {g := some false}), (15, {g := some false}), (16, {g := some false}), (17, {g := some false}), (18, {g := some false}), (19, {g := some false}), (20, {g := some false}), (21, {g := some false}), (22, {g := some false}), (23, {g := some false}), (24, {g := some false, b := some false}), (25, {b := some false})] [([.v (.agg #[.int .i64 v14.1.1, .int .i64 v14.1.2])] : List Arg) = [.v (.agg #[.int .i64 v14.1.1, .int .i64 v14.1.2])], Meets Try.prog 41 ([.v (.agg #[.int .i64 v14.1.1, .int .i64 v14.1.2])] ++ []) { vals := [.p (.bool v15)] }, List.all [.p (.bool v15)] simpleR = true, (!v15) = false, (!v15) = false, (!v15) = false, ([.v (.agg #[.int .i64 v14.2.1, .int .i64 v14.2.2])] : List Arg) = [.v (.agg #[.int .i64 v14.2.1, .int .i64 v14.2.2])], Meets Try.prog 41 ([.v (.agg #[.int .i64 v14.2.1, .int .i64 v14.2.2])] ++ []) { vals := [.p (.bool v16)] }, List.all [.p (.bool v16)] simpleR = true, (!v15) = false, (!v15) = false, (!v16) = false, (!v16) = false, (!v16) = false, (decide (x11 > 0)) = false, (decide (x11 > 0)) = false, (decide (x11 > 0)) = false, (decide (x11 > 0)) = false, (decide (x11 > 0)) = false, (decide (x11 > 0)) = false, (decide (x11 > 0)) = false, (decide (x11 > 0)) = false, (decide (x11 > 0)) = false, (decide (x11 > 0)) = false, (!v16) = false, (decide (x11 > 0)) = false, (!v16) = false] (by kernel_rfl) ⟨rfl, (wk_spec_imCoord hv15), rfl, ha2, ha2, ha2, rfl, (wk_spec_imCoord hv16), rfl, ha2, ha2, ha3, ha3, ha3, ha4, ha4, ha4, ha4, ha4, ha4, ha4, ha4, ha4, ha4, ha3, ha4, ha3, trivial⟩)
        · refine k_cond (b := w19) (by kernel_rfl) (fun hc6_19 => ?_) (fun hc6_19 => ?_)
          · replace h := ite_t hc6_19 h
            refine k_sreg (r_go [(2, .p (.bool false))] [] [] (by kernel_rfl) trivial) ?_
            refine k_ret ?_
            refine b_r ?_
            refine q_r ?_
            refine lq_r ?_
            refine b_r ?_
            refine q_r ?_
            have hyy := hy_x11 _ (Option.some.inj h).symm
            subst hyy
            have h := hk_x11
            dsimp only [Sum.elim] at h
            obtain rfl := Option.some.inj h
            exact e_ret (ls := [(.p (.bool false), 2)]) (by kernel_rfl) rfl (by kernel_rfl) rfl
          · replace h := ite_f hc6_19 h
            refine k_skip ?_
            refine b_n ?_
            refine q_n ?_
            refine k_reg (r_go [(0, .d false [.sl none (a0.map (eP (eP eI eI) (eP eI eI)))]), (9, .d false [.sl none (a0.map (eP (eP eI eI) (eP eI eI)))]), (10, .p (.int .i64 (a0.length : Int))), (11, .p (.int .i64 (w64 (x11 + 1))))] [] [] (by kernel_rfl) trivial) ?_
            exact lq_n (w64 (x11 + 1)) (Option.some.inj h).symm (wk_of (by kernel_rfl) (by kernel_rfl))
      · replace h := ite_f hc5_12 h
        refine k_exit ?_
        refine q_x ?_
        refine lq_x ?_
        refine b_x ?_
        have hyy := hy_x11 _ (Option.some.inj h).symm
        subst hyy
        have h := hk_x11
        dsimp only [Sum.elim] at h
        refine q_n ?_
        exact ⟨(), h, (wk_of (by kernel_rfl) (by kernel_rfl))⟩
theorem wk_spec_raMake {a0 : Int} {a1 : Int}  {r : ((Int × Int) × Bool)} (h : spec_raMake a0 a1 = some r) : Meets Try.prog 79 [.v (.int .i64 a0), .v (.int .i64 a1)] { vals := [.p (.agg #[.int .i64 r.1.1, .int .i64 r.1.2]), .p (.bool r.2)] } := by
  refine Meets_ofL (by kernel_rfl) Try.func79 rfl (by kernel_rfl) (l0 := [(0, .p (.int .i64 a0)), (1, .p (.int .i64 a1))]) (by kernel_rfl) ?_
  unfold spec_raMake at h
  refine k_sreg (r_go [(0, .p (.int .i64 a0)), (1, .p (.int .i64 a1)), (4, .box [.raw (.int .i64 0), .raw (.int .i64 0)])] [] [] (by kernel_rfl) trivial) ?_
  refine k_seq ?_
  refine k_sreg (r_go [(0, .p (.int .i64 a0)), (1, .p (.int .i64 a1)), (4, .box [.raw (.int .i64 0), .raw (.int .i64 0)]), (9, .p (.bool (a1 == 0)))] [] [] (by kernel_rfl) trivial) ?_
  refine k_cond (b := (a1 == 0)) (by kernel_rfl) (fun hc2_0 => ?_) (fun hc2_0 => ?_)
  · replace h := ite_t hc2_0 h
    refine k_sreg (r_go [(4, .box [.raw (.int .i64 0), .raw (.int .i64 0)]), (5, .p (.bool false))] [] [] (by kernel_rfl) trivial) ?_
    refine k_ret ?_
    refine q_r ?_
    obtain rfl := Option.some.inj h
    exact e_ret (ls := [(.p (.agg #[.int .i64 0, .int .i64 0]), 4), (.p (.bool false), 5)]) (by kernel_rfl) rfl (by kernel_rfl) rfl
  · replace h := ite_f hc2_0 h
    refine k_skip ?_
    refine q_n ?_
    replace h := bind_some' h
    obtain ⟨v2, hv2, h⟩ := h
    replace h := bind_some' h
    obtain ⟨v3, hv3, h⟩ := h
    replace h := bind_some' h
    obtain ⟨v4, hv4, h⟩ := h
    refine k_sreg (r_go [(0, .p (.int .i64 a0)), (1, .p (.int .i64 a1)), (4, .box [.raw (.int .i64 0), .raw (.int .i64 0)]), (6, .p (.int .i64 v4))] [(1, {call := some ([.v (.int .i64 a0)], [.p (.int .i64 v2)], true)}), (3, {call := some ([.v (.int .i64 a1)], [.p (.int .i64 v3)], true)}), (4, {call := some ([.v (.int .i64 v2), .v (.int .i64 v3)], [.p (.int .i64 v4)], true)})] [([.v (.int .i64 a0)] : List Arg) = [.v (.int .i64 a0)], Meets Try.prog 78 ([.v (.int .i64 a0)] ++ []) { vals := [.p (.int .i64 v2)] }, List.all [.p (.int .i64 v2)] simpleR = true, ([.v (.int .i64 a1)] : List Arg) = [.v (.int .i64 a1)], Meets Try.prog 78 ([.v (.int .i64 a1)] ++ []) { vals := [.p (.int .i64 v3)] }, List.all [.p (.int .i64 v3)] simpleR = true, ([.v (.int .i64 v2), .v (.int .i64 v3)] : List Arg) = [.v (.int .i64 v2), .v (.int .i64 v3)], Meets Try.prog 77 ([.v (.int .i64 v2), .v (.int .i64 v3)] ++ []) { vals := [.p (.int .i64 v4)] }, List.all [.p (.int .i64 v4)] simpleR = true] (by kernel_rfl) ⟨rfl, (wk_spec_l1Abs hv2), rfl, rfl, (wk_spec_l1Abs hv3), rfl, rfl, (wk_spec_raCommon hv4), rfl, trivial⟩) ?_
    refine k_join (J := fun (x : Int) => [(0, .p (.int .i64 a0)), (1, .p (.int .i64 a1)), (4, .box [.raw (.int .i64 0), .raw (.int .i64 0)]), (6, .p (.int .i64 x))]) (K := fun x => spec_raMake_k1 a0 a1 x = some r) (fun x5 h => ?_) ?_
    · unfold spec_raMake_k1 at h
      replace h := bind_some' h
      obtain ⟨u6, hu6, h⟩ := h
      refine k_sreg (r_draw Try_mixed 8 [] [(4, .box [.raw (.int .i64 0), .raw (.int .i64 0)]), (7, .box [.raw (.int .i64 (w64 (Int.tdiv a0 x5))), .raw (.int .i64 (w64 (Int.tdiv a1 x5)))])] [] [x5 ≠ (0 : Int), x5 ≠ (0 : Int)] (by kernel_rfl) ⟨(guardO_some hu6), (guardO_some hu6), trivial⟩) ?_
      refine k_seq ?_
      replace h := bind_some' h
      obtain ⟨v7, hv7, h⟩ := h
      refine k_sreg (r_go [(4, .box [.raw (.int .i64 0), .raw (.int .i64 0)]), (7, .box [.raw (.int .i64 (w64 (Int.tdiv a0 x5))), .raw (.int .i64 (w64 (Int.tdiv a1 x5)))]), (29, .p (.bool (!v7)))] [(1, {call := some ([.v (.agg #[.int .i64 (w64 (Int.tdiv a0 x5)), .int .i64 (w64 (Int.tdiv a1 x5))])], [.p (.bool v7)], true)})] [([.v (.agg #[.int .i64 (w64 (Int.tdiv a0 x5)), .int .i64 (w64 (Int.tdiv a1 x5))])] : List Arg) = [.v (.agg #[.int .i64 (w64 (Int.tdiv a0 x5)), .int .i64 (w64 (Int.tdiv a1 x5))])], Meets Try.prog 61 ([.v (.agg #[.int .i64 (w64 (Int.tdiv a0 x5)), .int .i64 (w64 (Int.tdiv a1 x5))])] ++ []) { vals := [.p (.bool v7)] }, List.all [.p (.bool v7)] simpleR = true] (by kernel_rfl) ⟨rfl, (wk_spec_raGood hv7), rfl, trivial⟩) ?_
      refine k_cond (b := (!v7)) (by kernel_rfl) (fun hc2_7 => ?_) (fun hc2_7 => ?_)
      · replace h := ite_t hc2_7 h
        refine k_sreg (r_go [(4, .box [.raw (.int .i64 0), .raw (.int .i64 0)]), (5, .p (.bool false))] [] [] (by kernel_rfl) trivial) ?_
        refine k_ret ?_
        refine q_r ?_
        obtain rfl := Option.some.inj h
        exact e_ret (ls := [(.p (.agg #[.int .i64 0, .int .i64 0]), 4), (.p (.bool false), 5)]) (by kernel_rfl) rfl (by kernel_rfl) rfl
      · replace h := ite_f hc2_7 h
        refine k_skip ?_
        refine q_n ?_
        refine k_sreg (r_go [(4, .box [.raw (.int .i64 (w64 (Int.tdiv a0 x5))), .raw (.int .i64 (w64 (Int.tdiv a1 x5)))]), (5, .p (.bool true))] [] [] (by kernel_rfl) trivial) ?_
        refine k_ret ?_
        obtain rfl := Option.some.inj h
        exact e_ret (ls := [(.p (.agg #[.int .i64 (w64 (Int.tdiv a0 x5)), .int .i64 (w64 (Int.tdiv a1 x5))]), 4), (.p (.bool true), 5)]) (by kernel_rfl) rfl (by kernel_rfl) rfl
    · refine k_sreg (r_go [(0, .p (.int .i64 a0)), (1, .p (.int .i64 a1)), (4, .box [.raw (.int .i64 0), .raw (.int .i64 0)]), (6, .p (.int .i64 v4)), (17, .p (.bool (decide (a1 < 0))))] [] [] (by kernel_rfl) trivial) ?_
      refine k_cond (b := (decide (a1 < 0))) (by kernel_rfl) (fun hc2_8 => ?_) (fun hc2_8 => ?_)
      · replace h := ite_t hc2_8 h
        refine k_reg (r_go [(0, .p (.int .i64 a0)), (1, .p (.int .i64 a1)), (4, .box [.raw (.int .i64 0), .raw (.int .i64 0)]), (6, .p (.int .i64 (w64 (0 - v4))))] [] [] (by kernel_rfl) trivial) ?_
        refine q_n ?_
        exact ⟨(w64 (0 - v4)), h, (wk_of (by kernel_rfl) (by kernel_rfl))⟩
      · replace h := ite_f hc2_8 h
        refine k_skip ?_
        refine q_n ?_
        exact ⟨v4, h, (wk_of (by kernel_rfl) (by kernel_rfl))⟩
theorem wk_spec_raSub {a0 : (Int × Int)} {a1 : (Int × Int)}  {r : ((Int × Int) × Bool)} (h : spec_raSub a0 a1 = some r) : Meets Try.prog 62 [.v (.agg #[.int .i64 a0.1, .int .i64 a0.2]), .v (.agg #[.int .i64 a1.1, .int .i64 a1.2])] { vals := [.p (.agg #[.int .i64 r.1.1, .int .i64 r.1.2]), .p (.bool r.2)] } := by
  refine Meets_ofL (by kernel_rfl) Try.func62 rfl (by kernel_rfl) (l0 := [(0, .p (.agg #[.int .i64 a0.1, .int .i64 a0.2])), (1, .p (.agg #[.int .i64 a1.1, .int .i64 a1.2]))]) (by kernel_rfl) ?_
  unfold spec_raSub at h
  refine k_sreg (r_go [(2, .box [.raw (.int .i64 a0.1), .raw (.int .i64 a0.2)]), (3, .box [.raw (.int .i64 a1.1), .raw (.int .i64 a1.2)]), (4, .box [.raw (.int .i64 0), .raw (.int .i64 0)])] [] [] (by kernel_rfl) trivial) ?_
  replace h := bind_some' h
  obtain ⟨v1, hv1, h⟩ := h
  refine k_sreg (r_go [(4, .box [.raw (.int .i64 v1.1.1), .raw (.int .i64 v1.1.2)]), (5, .p (.bool v1.2))] [(16, {call := some ([.v (.int .i64 (w64 ((w64 (a0.1 * a1.2)) - (w64 (a1.1 * a0.2))))), .v (.int .i64 (w64 (a0.2 * a1.2)))], [.p (.agg #[.int .i64 v1.1.1, .int .i64 v1.1.2]), .p (.bool v1.2)], true)})] [([.v (.int .i64 (w64 ((w64 (a0.1 * a1.2)) - (w64 (a1.1 * a0.2))))), .v (.int .i64 (w64 (a0.2 * a1.2)))] : List Arg) = [.v (.int .i64 (w64 ((w64 (a0.1 * a1.2)) - (w64 (a1.1 * a0.2))))), .v (.int .i64 (w64 (a0.2 * a1.2)))], Meets Try.prog 79 ([.v (.int .i64 (w64 ((w64 (a0.1 * a1.2)) - (w64 (a1.1 * a0.2))))), .v (.int .i64 (w64 (a0.2 * a1.2)))] ++ []) { vals := [.p (.agg #[.int .i64 v1.1.1, .int .i64 v1.1.2]), .p (.bool v1.2)] }, List.all [.p (.agg #[.int .i64 v1.1.1, .int .i64 v1.1.2]), .p (.bool v1.2)] simpleR = true] (by kernel_rfl) ⟨rfl, (wk_spec_raMake hv1), rfl, trivial⟩) ?_
  refine k_ret ?_
  obtain rfl := Option.some.inj h
  exact e_ret (ls := [(.p (.agg #[.int .i64 v1.1.1, .int .i64 v1.1.2]), 4), (.p (.bool v1.2), 5)]) (by kernel_rfl) rfl (by kernel_rfl) rfl
theorem wk_spec_raDiv {a0 : (Int × Int)} {a1 : (Int × Int)}  {r : ((Int × Int) × Bool)} (h : spec_raDiv a0 a1 = some r) : Meets Try.prog 63 [.v (.agg #[.int .i64 a0.1, .int .i64 a0.2]), .v (.agg #[.int .i64 a1.1, .int .i64 a1.2])] { vals := [.p (.agg #[.int .i64 r.1.1, .int .i64 r.1.2]), .p (.bool r.2)] } := by
  refine Meets_ofL (by kernel_rfl) Try.func63 rfl (by kernel_rfl) (l0 := [(0, .p (.agg #[.int .i64 a0.1, .int .i64 a0.2])), (1, .p (.agg #[.int .i64 a1.1, .int .i64 a1.2]))]) (by kernel_rfl) ?_
  unfold spec_raDiv at h
  refine k_sreg (r_go [(2, .box [.raw (.int .i64 a0.1), .raw (.int .i64 a0.2)]), (3, .box [.raw (.int .i64 a1.1), .raw (.int .i64 a1.2)]), (4, .box [.raw (.int .i64 0), .raw (.int .i64 0)])] [] [] (by kernel_rfl) trivial) ?_
  refine k_seq ?_
  refine k_sreg (r_go [(2, .box [.raw (.int .i64 a0.1), .raw (.int .i64 a0.2)]), (3, .box [.raw (.int .i64 a1.1), .raw (.int .i64 a1.2)]), (4, .box [.raw (.int .i64 0), .raw (.int .i64 0)]), (8, .p (.bool (a1.1 == 0)))] [] [] (by kernel_rfl) trivial) ?_
  refine k_cond (b := (a1.1 == 0)) (by kernel_rfl) (fun hc2_0 => ?_) (fun hc2_0 => ?_)
  · replace h := ite_t hc2_0 h
    refine k_sreg (r_go [(4, .box [.raw (.int .i64 0), .raw (.int .i64 0)]), (5, .p (.bool false))] [] [] (by kernel_rfl) trivial) ?_
    refine k_ret ?_
    refine q_r ?_
    obtain rfl := Option.some.inj h
    exact e_ret (ls := [(.p (.agg #[.int .i64 0, .int .i64 0]), 4), (.p (.bool false), 5)]) (by kernel_rfl) rfl (by kernel_rfl) rfl
  · replace h := ite_f hc2_0 h
    refine k_skip ?_
    refine q_n ?_
    replace h := bind_some' h
    obtain ⟨v2, hv2, h⟩ := h
    refine k_sreg (r_go [(4, .box [.raw (.int .i64 v2.1.1), .raw (.int .i64 v2.1.2)]), (5, .p (.bool v2.2))] [(10, {call := some ([.v (.int .i64 (w64 (a0.1 * a1.2))), .v (.int .i64 (w64 (a0.2 * a1.1)))], [.p (.agg #[.int .i64 v2.1.1, .int .i64 v2.1.2]), .p (.bool v2.2)], true)})] [([.v (.int .i64 (w64 (a0.1 * a1.2))), .v (.int .i64 (w64 (a0.2 * a1.1)))] : List Arg) = [.v (.int .i64 (w64 (a0.1 * a1.2))), .v (.int .i64 (w64 (a0.2 * a1.1)))], Meets Try.prog 79 ([.v (.int .i64 (w64 (a0.1 * a1.2))), .v (.int .i64 (w64 (a0.2 * a1.1)))] ++ []) { vals := [.p (.agg #[.int .i64 v2.1.1, .int .i64 v2.1.2]), .p (.bool v2.2)] }, List.all [.p (.agg #[.int .i64 v2.1.1, .int .i64 v2.1.2]), .p (.bool v2.2)] simpleR = true] (by kernel_rfl) ⟨rfl, (wk_spec_raMake hv2), rfl, trivial⟩) ?_
    refine k_ret ?_
    obtain rfl := Option.some.inj h
    exact e_ret (ls := [(.p (.agg #[.int .i64 v2.1.1, .int .i64 v2.1.2]), 4), (.p (.bool v2.2), 5)]) (by kernel_rfl) rfl (by kernel_rfl) rfl
theorem wk_spec_imSlope {a0 : ((Int × Int) × (Int × Int))} {a1 : ((Int × Int) × (Int × Int))}  {r : (Int × Int)} (h : spec_imSlope a0 a1 = some r) : Meets Try.prog 52 [.v (.agg #[.int .i64 a0.1.1, .int .i64 a0.1.2, .int .i64 a0.2.1, .int .i64 a0.2.2]), .v (.agg #[.int .i64 a1.1.1, .int .i64 a1.1.2, .int .i64 a1.2.1, .int .i64 a1.2.2])] { vals := [.p (.agg #[.int .i64 r.1, .int .i64 r.2])] } := by
  refine Meets_ofL (by kernel_rfl) Try.func52 rfl (by kernel_rfl) (l0 := [(0, .p (.agg #[.int .i64 a0.1.1, .int .i64 a0.1.2, .int .i64 a0.2.1, .int .i64 a0.2.2])), (1, .p (.agg #[.int .i64 a1.1.1, .int .i64 a1.1.2, .int .i64 a1.2.1, .int .i64 a1.2.2]))]) (by kernel_rfl) ?_
  unfold spec_imSlope at h
  refine k_sreg (r_go [(2, .box [.raw (.int .i64 a0.1.1), .raw (.int .i64 a0.1.2), .raw (.int .i64 a0.2.1), .raw (.int .i64 a0.2.2)]), (3, .box [.raw (.int .i64 a1.1.1), .raw (.int .i64 a1.1.2), .raw (.int .i64 a1.2.1), .raw (.int .i64 a1.2.2)]), (4, .box [.raw (.int .i64 0), .raw (.int .i64 0)])] [] [] (by kernel_rfl) trivial) ?_
  replace h := bind_some' h
  obtain ⟨v1, hv1, h⟩ := h
  refine k_sreg (r_go [(2, .box [.raw (.int .i64 a0.1.1), .raw (.int .i64 a0.1.2), .raw (.int .i64 a0.2.1), .raw (.int .i64 a0.2.2)]), (3, .box [.raw (.int .i64 a1.1.1), .raw (.int .i64 a1.1.2), .raw (.int .i64 a1.2.1), .raw (.int .i64 a1.2.2)]), (4, .box [.raw (.int .i64 0), .raw (.int .i64 0)]), (5, .box [.raw (.int .i64 v1.1.1), .raw (.int .i64 v1.1.2)])] [(4, {call := some ([.v (.agg #[.int .i64 a1.2.1, .int .i64 a1.2.2]), .v (.agg #[.int .i64 a0.2.1, .int .i64 a0.2.2])], [.p (.agg #[.int .i64 v1.1.1, .int .i64 v1.1.2]), .p (.bool v1.2)], true)})] [([.v (.agg #[.int .i64 a1.2.1, .int .i64 a1.2.2]), .v (.agg #[.int .i64 a0.2.1, .int .i64 a0.2.2])] : List Arg) = [.v (.agg #[.int .i64 a1.2.1, .int .i64 a1.2.2]), .v (.agg #[.int .i64 a0.2.1, .int .i64 a0.2.2])], Meets Try.prog 62 ([.v (.agg #[.int .i64 a1.2.1, .int .i64 a1.2.2]), .v (.agg #[.int .i64 a0.2.1, .int .i64 a0.2.2])] ++ []) { vals := [.p (.agg #[.int .i64 v1.1.1, .int .i64 v1.1.2]), .p (.bool v1.2)] }, List.all [.p (.agg #[.int .i64 v1.1.1, .int .i64 v1.1.2]), .p (.bool v1.2)] simpleR = true] (by kernel_rfl) ⟨rfl, (wk_spec_raSub hv1), rfl, trivial⟩) ?_
  replace h := bind_some' h
  obtain ⟨v2, hv2, h⟩ := h
  refine k_sreg (r_go [(4, .box [.raw (.int .i64 0), .raw (.int .i64 0)]), (5, .box [.raw (.int .i64 v1.1.1), .raw (.int .i64 v1.1.2)]), (7, .box [.raw (.int .i64 v2.1.1), .raw (.int .i64 v2.1.2)])] [(4, {call := some ([.v (.agg #[.int .i64 a1.1.1, .int .i64 a1.1.2]), .v (.agg #[.int .i64 a0.1.1, .int .i64 a0.1.2])], [.p (.agg #[.int .i64 v2.1.1, .int .i64 v2.1.2]), .p (.bool v2.2)], true)})] [([.v (.agg #[.int .i64 a1.1.1, .int .i64 a1.1.2]), .v (.agg #[.int .i64 a0.1.1, .int .i64 a0.1.2])] : List Arg) = [.v (.agg #[.int .i64 a1.1.1, .int .i64 a1.1.2]), .v (.agg #[.int .i64 a0.1.1, .int .i64 a0.1.2])], Meets Try.prog 62 ([.v (.agg #[.int .i64 a1.1.1, .int .i64 a1.1.2]), .v (.agg #[.int .i64 a0.1.1, .int .i64 a0.1.2])] ++ []) { vals := [.p (.agg #[.int .i64 v2.1.1, .int .i64 v2.1.2]), .p (.bool v2.2)] }, List.all [.p (.agg #[.int .i64 v2.1.1, .int .i64 v2.1.2]), .p (.bool v2.2)] simpleR = true] (by kernel_rfl) ⟨rfl, (wk_spec_raSub hv2), rfl, trivial⟩) ?_
  replace h := bind_some' h
  obtain ⟨v3, hv3, h⟩ := h
  refine k_sreg (r_go [(4, .box [.raw (.int .i64 0), .raw (.int .i64 0)]), (9, .box [.raw (.int .i64 v3.1.1), .raw (.int .i64 v3.1.2)])] [(2, {call := some ([.v (.agg #[.int .i64 v1.1.1, .int .i64 v1.1.2]), .v (.agg #[.int .i64 v2.1.1, .int .i64 v2.1.2])], [.p (.agg #[.int .i64 v3.1.1, .int .i64 v3.1.2]), .p (.bool v3.2)], true)})] [([.v (.agg #[.int .i64 v1.1.1, .int .i64 v1.1.2]), .v (.agg #[.int .i64 v2.1.1, .int .i64 v2.1.2])] : List Arg) = [.v (.agg #[.int .i64 v1.1.1, .int .i64 v1.1.2]), .v (.agg #[.int .i64 v2.1.1, .int .i64 v2.1.2])], Meets Try.prog 63 ([.v (.agg #[.int .i64 v1.1.1, .int .i64 v1.1.2]), .v (.agg #[.int .i64 v2.1.1, .int .i64 v2.1.2])] ++ []) { vals := [.p (.agg #[.int .i64 v3.1.1, .int .i64 v3.1.2]), .p (.bool v3.2)] }, List.all [.p (.agg #[.int .i64 v3.1.1, .int .i64 v3.1.2]), .p (.bool v3.2)] simpleR = true] (by kernel_rfl) ⟨rfl, (wk_spec_raDiv hv3), rfl, trivial⟩) ?_
  refine k_sreg (r_go [(4, .box [.raw (.int .i64 v3.1.1), .raw (.int .i64 v3.1.2)])] [] [] (by kernel_rfl) trivial) ?_
  refine k_ret ?_
  obtain rfl := Option.some.inj h
  exact e_ret (ls := [(.p (.agg #[.int .i64 v3.1.1, .int .i64 v3.1.2]), 4)]) (by kernel_rfl) rfl (by kernel_rfl) rfl
theorem wk_spec_imSlopes {a0 : (List ((Int × Int) × (Int × Int)))}  {r : (List (Int × Int))} (h : spec_imSlopes a0 = some r) : Meets Try.prog 43 [.d false [.sl none (a0.map (eP (eP eI eI) (eP eI eI)))]] { vals := [.ov false [.sl (some 39) (r.map (eP eI eI))]] } := by
  refine Meets_ofL (by kernel_rfl) Try.func43 rfl (by kernel_rfl) (l0 := [(0, .d false [.sl none (a0.map (eP (eP eI eI) (eP eI eI)))])]) (by kernel_rfl) ?_
  unfold spec_imSlopes at h
  refine k_sreg (r_go [(0, .d false [.sl none (a0.map (eP (eP eI eI) (eP eI eI)))])] [] [] (by kernel_rfl) trivial) ?_
  refine k_sreg (r_go [(0, .d false [.sl none (a0.map (eP (eP eI eI) (eP eI eI)))]), (3, .ov false [.sl (some 39) []])] [] [] (by kernel_rfl) trivial) ?_
  refine k_join (J := fun (x : (List (Int × Int))) => [(3, .ov false [.sl (some 39) (x.map (eP eI eI))])]) (K := fun x => spec_imSlopes_k1 x = some r) (fun x1 h => ?_) ?_
  · unfold spec_imSlopes_k1 at h
    refine k_sreg (r_go [(2, .ov false [.sl (some 39) (x1.map (eP eI eI))])] [] [] (by kernel_rfl) trivial) ?_
    refine k_ret ?_
    obtain rfl := Option.some.inj h
    exact e_ret (ls := [(.ov false [.sl (some 39) (x1.map (eP eI eI))], 2)]) (by kernel_rfl) rfl (by kernel_rfl) rfl
  · refine k_sreg (r_go [(0, .d false [.sl none (a0.map (eP (eP eI eI) (eP eI eI)))]), (3, .ov false [.sl (some 39) []]), (4, .p (.int .i64 1))] [] [] (by kernel_rfl) trivial) ?_
    refine k_block ?_
    obtain ⟨y3, hl_x2, hk_x2⟩ := bind_some' h
    clear h
    refine k_loop (J := fun (x : ((List (Int × Int)) × Int)) => [(0, .d false [.sl none (a0.map (eP (eP eI eI) (eP eI eI)))]), (3, .ov false [.sl (some 39) (x.1.map (eP eI eI))]), (4, .p (.int .i64 x.2))]) hl_x2 (wk_of (by kernel_rfl) (by kernel_rfl)) (fun x2 o_x2 h hy_x2 => ?_)
    unfold spec_imSlopes_b1 at h
    refine k_seq ?_
    refine k_sreg (r_go [(0, .d false [.sl none (a0.map (eP (eP eI eI) (eP eI eI)))]), (3, .ov false [.sl (some 39) (x2.1.map (eP eI eI))]), (4, .p (.int .i64 x2.2)), (8, .p (.bool (decide (x2.2 < (a0.length : Int)))))] [(2, {n := some a0.length})] [(a0.map (eP (eP eI eI) (eP eI eI))).length = a0.length] (by kernel_rfl) ⟨(List.length_map ..), trivial⟩) ?_
    refine k_cond (b := (decide (x2.2 < (a0.length : Int)))) (by kernel_rfl) (fun hc5_3 => ?_) (fun hc5_3 => ?_)
    · replace h := ite_t hc5_3 h
      refine k_skip ?_
      refine q_n ?_
      refine k_seq ?_
      refine k_block ?_
      replace h := bind_some' h
      obtain ⟨v5, hv5, h⟩ := h
      replace h := bind_some' h
      obtain ⟨v6, hv6, h⟩ := h
      replace h := bind_some' h
      obtain ⟨v7, hv7, h⟩ := h
      replace h := bind_some' h
      obtain ⟨u8, hu8, h⟩ := h
      refine k_reg (r_draw Try_mixed 12 [] [(0, .d false [.sl none (a0.map (eP (eP eI eI) (eP eI eI)))]), (3, .ov false [.sl (some 39) ((x2.1 ++ [v7]).map (eP eI eI))]), (4, .p (.int .i64 x2.2))] [(4, {row := some [.raw (.int .i64 v5.1.1), .raw (.int .i64 v5.1.2), .raw (.int .i64 v5.2.1), .raw (.int .i64 v5.2.2)]}), (8, {row := some [.raw (.int .i64 v6.1.1), .raw (.int .i64 v6.1.2), .raw (.int .i64 v6.2.1), .raw (.int .i64 v6.2.2)]}), (10, {call := some ([.v (.agg #[.int .i64 v5.1.1, .int .i64 v5.1.2, .int .i64 v5.2.1, .int .i64 v5.2.2]), .v (.agg #[.int .i64 v6.1.1, .int .i64 v6.1.2, .int .i64 v6.2.1, .int .i64 v6.2.2])], [.p (.agg #[.int .i64 v7.1, .int .i64 v7.2])], true)}), (12, {fix := some (23, .ov false [.sl (some 39) ((x2.1 ++ [v7]).map (eP eI eI))])})] [0 ≤ (w64 (x2.2 - 1)), (a0.map (eP (eP eI eI) (eP eI eI)))[(Int.toNat (w64 (x2.2 - 1)))]? = some [.raw (.int .i64 v5.1.1), .raw (.int .i64 v5.1.2), .raw (.int .i64 v5.2.1), .raw (.int .i64 v5.2.2)], 0 ≤ x2.2, (a0.map (eP (eP eI eI) (eP eI eI)))[(Int.toNat x2.2)]? = some [.raw (.int .i64 v6.1.1), .raw (.int .i64 v6.1.2), .raw (.int .i64 v6.2.1), .raw (.int .i64 v6.2.2)], ([.v (.agg #[.int .i64 v5.1.1, .int .i64 v5.1.2, .int .i64 v5.2.1, .int .i64 v5.2.2]), .v (.agg #[.int .i64 v6.1.1, .int .i64 v6.1.2, .int .i64 v6.2.1, .int .i64 v6.2.2])] : List Arg) = [.v (.agg #[.int .i64 v5.1.1, .int .i64 v5.1.2, .int .i64 v5.2.1, .int .i64 v5.2.2]), .v (.agg #[.int .i64 v6.1.1, .int .i64 v6.1.2, .int .i64 v6.2.1, .int .i64 v6.2.2])], Meets Try.prog 52 ([.v (.agg #[.int .i64 v5.1.1, .int .i64 v5.1.2, .int .i64 v5.2.1, .int .i64 v5.2.2]), .v (.agg #[.int .i64 v6.1.1, .int .i64 v6.1.2, .int .i64 v6.2.1, .int .i64 v6.2.2])] ++ []) { vals := [.p (.agg #[.int .i64 v7.1, .int .i64 v7.2])] }, List.all [.p (.agg #[.int .i64 v7.1, .int .i64 v7.2])] simpleR = true, List.length ((x2.1.map (eP eI eI)) : List (List C)) + List.length ((([v7]).map (eP eI eI)) : List (List C)) ≤ 1099511627776, ∀ row ∈ ((([v7]).map (eP eI eI)) : List (List C)), row.length = 2, (SV.ov false [.sl (some 39) ((x2.1.map (eP eI eI)) ++ (([v7]).map (eP eI eI)))] : SV) = .ov false [.sl (some 39) ((x2.1 ++ [v7]).map (eP eI eI))]] (by kernel_rfl) ⟨(idxO_some hv5).1, (map_get (eP (eP eI eI) (eP eI eI)) (idxO_some hv5).2), (idxO_some hv6).1, (map_get (eP (eP eI eI) (eP eI eI)) (idxO_some hv6).2), rfl, (wk_spec_imSlope hv7), rfl, (by have hg := (guardO_some hu8); simpa using hg), (rows_len fun _ => rfl), (congrArg (fun z => SV.ov false [.sl (some 39) z]) (List.map_append ..).symm), trivial⟩) ?_
      refine b_n ?_
      refine q_n ?_
      refine k_reg (r_go [(0, .d false [.sl none (a0.map (eP (eP eI eI) (eP eI eI)))]), (3, .ov false [.sl (some 39) ((x2.1 ++ [v7]).map (eP eI eI))]), (4, .p (.int .i64 (w64 (x2.2 + 1))))] [] [] (by kernel_rfl) trivial) ?_
      exact lq_n ((x2.1 ++ [v7]), (w64 (x2.2 + 1))) (Option.some.inj h).symm (wk_of (by kernel_rfl) (by kernel_rfl))
    · replace h := ite_f hc5_3 h
      refine k_exit ?_
      refine q_x ?_
      refine lq_x ?_
      refine b_x ?_
      have hyy := hy_x2 _ (Option.some.inj h).symm
      subst hyy
      have h := hk_x2
      refine q_n ?_
      exact ⟨x2.1, h, (wk_of (by kernel_rfl) (by kernel_rfl))⟩
theorem wk_spec_lpStrict {a0 : (List ((Int × Int) × (Int × Int)))}  {r : Bool} (h : spec_lpStrict a0 = some r) : Meets Try.prog 29 [.d false [.sl none (a0.map (eP (eP eI eI) (eP eI eI)))]] { vals := [.p (.bool r)] } := by
  refine Meets_ofL (by kernel_rfl) Try.func29 rfl (by kernel_rfl) (l0 := [(0, .d false [.sl none (a0.map (eP (eP eI eI) (eP eI eI)))])]) (by kernel_rfl) ?_
  unfold spec_lpStrict at h
  refine k_sreg (r_go [(0, .d false [.sl none (a0.map (eP (eP eI eI) (eP eI eI)))])] [] [] (by kernel_rfl) trivial) ?_
  refine k_join (J := fun (x : Unit) => []) (K := fun x => spec_lpStrict_k1 x = some r) (fun x1 h => ?_) ?_
  · unfold spec_lpStrict_k1 at h
    refine k_sreg (r_go [(2, .p (.bool true))] [] [] (by kernel_rfl) trivial) ?_
    refine k_ret ?_
    obtain rfl := Option.some.inj h
    exact e_ret (ls := [(.p (.bool true), 2)]) (by kernel_rfl) rfl (by kernel_rfl) rfl
  · replace h := bind_some' h
    obtain ⟨v2, hv2, h⟩ := h
    refine k_sreg (r_go [(6, .ov false [.sl (some 39) (v2.map (eP eI eI))]), (7, .p (.int .i64 (v2.length : Int))), (8, .p (.int .i64 0))] [(1, {call := some ([.d false [.sl none (a0.map (eP (eP eI eI) (eP eI eI)))]], [.ov false [.sl (some 39) (v2.map (eP eI eI))]], true)}), (2, {n := some v2.length})] [([.d false [.sl none (a0.map (eP (eP eI eI) (eP eI eI)))]] : List Arg) = [.d false [.sl none (a0.map (eP (eP eI eI) (eP eI eI)))]], Meets Try.prog 43 ([.d false [.sl none (a0.map (eP (eP eI eI) (eP eI eI)))]] ++ []) { vals := [.ov false [.sl (some 39) (v2.map (eP eI eI))]] }, List.all [.ov false [.sl (some 39) (v2.map (eP eI eI))]] simpleR = true, (v2.map (eP eI eI)).length = v2.length] (by kernel_rfl) ⟨rfl, (wk_spec_imSlopes hv2), (sa_o (wnR1 (wnL_enc (wn_P wn_I wn_I)) rfl) rfl), (List.length_map ..), trivial⟩) ?_
    refine k_block ?_
    obtain ⟨y4, hl_x3, hk_x3⟩ := bind_some' h
    clear h
    refine k_loop (J := fun (x : Int) => [(6, .ov false [.sl (some 39) (v2.map (eP eI eI))]), (7, .p (.int .i64 (v2.length : Int))), (8, .p (.int .i64 x))]) hl_x3 (wk_of (by kernel_rfl) (by kernel_rfl)) (fun x3 o_x3 h hy_x3 => ?_)
    unfold spec_lpStrict_b1 at h
    refine k_sreg (r_go [(6, .ov false [.sl (some 39) (v2.map (eP eI eI))]), (7, .p (.int .i64 (v2.length : Int))), (8, .p (.int .i64 x3)), (9, .p (.bool (decide (x3 < (v2.length : Int)))))] [] [] (by kernel_rfl) trivial) ?_
    refine k_seq ?_
    refine k_cond (b := (decide (x3 < (v2.length : Int)))) (by kernel_rfl) (fun hc5_4 => ?_) (fun hc5_4 => ?_)
    · replace h := ite_t hc5_4 h
      refine k_skip ?_
      refine q_n ?_
      refine k_seq ?_
      refine k_block ?_
      replace h := bind_some' h
      obtain ⟨v6, hv6, h⟩ := h
      refine k_sreg (r_go [(4, .box [.raw (.int .i64 v6.1), .raw (.int .i64 v6.2)]), (6, .ov false [.sl (some 39) (v2.map (eP eI eI))]), (7, .p (.int .i64 (v2.length : Int))), (8, .p (.int .i64 x3))] [(0, {row := some [.raw (.int .i64 v6.1), .raw (.int .i64 v6.2)]}), (1, {row := some [.raw (.int .i64 v6.1), .raw (.int .i64 v6.2)]})] [0 ≤ x3, (v2.map (eP eI eI))[(Int.toNat x3)]? = some [.raw (.int .i64 v6.1), .raw (.int .i64 v6.2)], getRow [[.sl (some 39) (v2.map (eP eI eI))]] [(0, 0), ((Int.toNat x3), 0)] = some [.raw (.int .i64 v6.1), .raw (.int .i64 v6.2)]] (by kernel_rfl) ⟨(idxO_some hv6).1, (map_get (eP eI eI) (idxO_some hv6).2), ((gr0 rfl).trans (gre (map_get (eP eI eI) (idxO_some hv6).2))), trivial⟩) ?_
      refine k_sreg (r_go [(6, .ov false [.sl (some 39) (v2.map (eP eI eI))]), (7, .p (.int .i64 (v2.length : Int))), (8, .p (.int .i64 x3)), (14, .p (.bool (v6.1 == 0)))] [] [] (by kernel_rfl) trivial) ?_
      refine k_cond (b := (v6.1 == 0)) (by kernel_rfl) (fun hc6_6 => ?_) (fun hc6_6 => ?_)
      · replace h := ite_t hc6_6 h
        refine k_sreg (r_go [(2, .p (.bool false))] [] [] (by kernel_rfl) trivial) ?_
        refine k_ret ?_
        refine b_r ?_
        refine q_r ?_
        refine lq_r ?_
        refine b_r ?_
        refine q_r ?_
        have hyy := hy_x3 _ (Option.some.inj h).symm
        subst hyy
        have h := hk_x3
        dsimp only [Sum.elim] at h
        obtain rfl := Option.some.inj h
        exact e_ret (ls := [(.p (.bool false), 2)]) (by kernel_rfl) rfl (by kernel_rfl) rfl
      · replace h := ite_f hc6_6 h
        refine k_skip ?_
        refine b_n ?_
        refine q_n ?_
        refine k_reg (r_go [(6, .ov false [.sl (some 39) (v2.map (eP eI eI))]), (7, .p (.int .i64 (v2.length : Int))), (8, .p (.int .i64 (w64 (x3 + 1))))] [] [] (by kernel_rfl) trivial) ?_
        exact lq_n (w64 (x3 + 1)) (Option.some.inj h).symm (wk_of (by kernel_rfl) (by kernel_rfl))
    · replace h := ite_f hc5_4 h
      refine k_exit ?_
      refine q_x ?_
      refine lq_x ?_
      refine b_x ?_
      have hyy := hy_x3 _ (Option.some.inj h).symm
      subst hyy
      have h := hk_x3
      dsimp only [Sum.elim] at h
      refine q_n ?_
      exact ⟨(), h, (wk_of (by kernel_rfl) (by kernel_rfl))⟩
theorem wk_spec_imLaps {a0 : (List ((Int × Int) × (Int × Int)))}  {r : (List (List Int))} (h : spec_imLaps a0 = some r) : Meets Try.prog 30 [.d false [.sl none (a0.map (eP (eP eI eI) (eP eI eI)))]] { vals := [.ov false [.sl (some 62) (r.map (eO 3 eI))]] } := by
  refine Meets_ofL (by kernel_rfl) Try.func30 rfl (by kernel_rfl) (l0 := [(0, .d false [.sl none (a0.map (eP (eP eI eI) (eP eI eI)))])]) (by kernel_rfl) ?_
  unfold spec_imLaps at h
  refine k_sreg (r_go [(0, .d false [.sl none (a0.map (eP (eP eI eI) (eP eI eI)))])] [] [] (by kernel_rfl) trivial) ?_
  refine k_sreg (r_go [(0, .d false [.sl none (a0.map (eP (eP eI eI) (eP eI eI)))]), (3, .ov false [.sl (some 62) []])] [] [] (by kernel_rfl) trivial) ?_
  refine k_join (J := fun (x : (List (List Int))) => [(3, .ov false [.sl (some 62) (x.map (eO 3 eI))])]) (K := fun x => spec_imLaps_k1 x = some r) (fun x1 h => ?_) ?_
  · unfold spec_imLaps_k1 at h
    refine k_sreg (r_go [(2, .ov false [.sl (some 62) (x1.map (eO 3 eI))])] [] [] (by kernel_rfl) trivial) ?_
    refine k_ret ?_
    obtain rfl := Option.some.inj h
    exact e_ret (ls := [(.ov false [.sl (some 62) (x1.map (eO 3 eI))], 2)]) (by kernel_rfl) rfl (by kernel_rfl) rfl
  · replace h := bind_some' h
    obtain ⟨v2, hv2, h⟩ := h
    refine k_sreg (r_go [(3, .ov false [.sl (some 62) []]), (9, .ov false [.sl (some 39) (v2.map (eP eI eI))]), (10, .p (.int .i64 (v2.length : Int))), (11, .p (.int .i64 0))] [(1, {call := some ([.d false [.sl none (a0.map (eP (eP eI eI) (eP eI eI)))]], [.ov false [.sl (some 39) (v2.map (eP eI eI))]], true)}), (2, {n := some v2.length})] [([.d false [.sl none (a0.map (eP (eP eI eI) (eP eI eI)))]] : List Arg) = [.d false [.sl none (a0.map (eP (eP eI eI) (eP eI eI)))]], Meets Try.prog 43 ([.d false [.sl none (a0.map (eP (eP eI eI) (eP eI eI)))]] ++ []) { vals := [.ov false [.sl (some 39) (v2.map (eP eI eI))]] }, List.all [.ov false [.sl (some 39) (v2.map (eP eI eI))]] simpleR = true, (v2.map (eP eI eI)).length = v2.length] (by kernel_rfl) ⟨rfl, (wk_spec_imSlopes hv2), (sa_o (wnR1 (wnL_enc (wn_P wn_I wn_I)) rfl) rfl), (List.length_map ..), trivial⟩) ?_
    refine k_block ?_
    obtain ⟨y4, hl_x3, hk_x3⟩ := bind_some' h
    clear h
    refine k_loop (J := fun (x : ((List (List Int)) × Int)) => [(3, .ov false [.sl (some 62) (x.1.map (eO 3 eI))]), (9, .ov false [.sl (some 39) (v2.map (eP eI eI))]), (10, .p (.int .i64 (v2.length : Int))), (11, .p (.int .i64 x.2))]) hl_x3 (wk_of (by kernel_rfl) (by kernel_rfl)) (fun x3 o_x3 h hy_x3 => ?_)
    unfold spec_imLaps_b1 at h
    refine k_sreg (r_go [(3, .ov false [.sl (some 62) (x3.1.map (eO 3 eI))]), (9, .ov false [.sl (some 39) (v2.map (eP eI eI))]), (10, .p (.int .i64 (v2.length : Int))), (11, .p (.int .i64 x3.2)), (12, .p (.bool (decide (x3.2 < (v2.length : Int)))))] [] [] (by kernel_rfl) trivial) ?_
    refine k_seq ?_
    refine k_cond (b := (decide (x3.2 < (v2.length : Int)))) (by kernel_rfl) (fun hc5_4 => ?_) (fun hc5_4 => ?_)
    · replace h := ite_t hc5_4 h
      refine k_skip ?_
      refine q_n ?_
      refine k_seq ?_
      refine k_block ?_
      replace h := bind_some' h
      obtain ⟨v6, hv6, h⟩ := h
      refine k_sreg (r_go [(3, .ov false [.sl (some 62) (x3.1.map (eO 3 eI))]), (4, .p (.int .i64 x3.2)), (5, .box [.raw (.int .i64 v6.1), .raw (.int .i64 v6.2)]), (9, .ov false [.sl (some 39) (v2.map (eP eI eI))]), (10, .p (.int .i64 (v2.length : Int))), (11, .p (.int .i64 x3.2))] [(1, {row := some [.raw (.int .i64 v6.1), .raw (.int .i64 v6.2)]}), (2, {row := some [.raw (.int .i64 v6.1), .raw (.int .i64 v6.2)]})] [0 ≤ x3.2, (v2.map (eP eI eI))[(Int.toNat x3.2)]? = some [.raw (.int .i64 v6.1), .raw (.int .i64 v6.2)], getRow [[.sl (some 39) (v2.map (eP eI eI))]] [(0, 0), ((Int.toNat x3.2), 0)] = some [.raw (.int .i64 v6.1), .raw (.int .i64 v6.2)]] (by kernel_rfl) ⟨(idxO_some hv6).1, (map_get (eP eI eI) (idxO_some hv6).2), ((gr0 rfl).trans (gre (map_get (eP eI eI) (idxO_some hv6).2))), trivial⟩) ?_
      replace h := bind_some' h
      obtain ⟨v7, hv7, h⟩ := h
      refine k_sreg (r_go [(3, .ov false [.sl (some 62) (x3.1.map (eO 3 eI))]), (4, .p (.int .i64 x3.2)), (6, .p (.int .i64 v7)), (9, .ov false [.sl (some 39) (v2.map (eP eI eI))]), (10, .p (.int .i64 (v2.length : Int))), (11, .p (.int .i64 x3.2))] [(2, {call := some ([.v (.int .i64 v6.1)], [.p (.int .i64 v7)], true)})] [([.v (.int .i64 v6.1)] : List Arg) = [.v (.int .i64 v6.1)], Meets Try.prog 44 ([.v (.int .i64 v6.1)] ++ []) { vals := [.p (.int .i64 v7)] }, List.all [.p (.int .i64 v7)] simpleR = true] (by kernel_rfl) ⟨rfl, (wk_spec_l1Sign hv7), rfl, trivial⟩) ?_
      refine k_seq ?_
      refine k_sreg (r_go [(3, .ov false [.sl (some 62) (x3.1.map (eO 3 eI))]), (4, .p (.int .i64 x3.2)), (6, .p (.int .i64 v7)), (7, .p (.int .i64 (x3.1.length : Int))), (9, .ov false [.sl (some 39) (v2.map (eP eI eI))]), (10, .p (.int .i64 (v2.length : Int))), (11, .p (.int .i64 x3.2))] [(1, {n := some x3.1.length})] [(x3.1.map (eO 3 eI)).length = x3.1.length] (by kernel_rfl) ⟨(List.length_map ..), trivial⟩) ?_
      replace h := bind_some' h
      obtain ⟨w10, hw10, h⟩ := h
      refine k_sreg (l1 := [(3, .ov false [.sl (some 62) (x3.1.map (eO 3 eI))]), (4, .p (.int .i64 x3.2)), (6, .p (.int .i64 v7)), (7, .p (.int .i64 (x3.1.length : Int))), (9, .ov false [.sl (some 39) (v2.map (eP eI eI))]), (10, .p (.int .i64 (v2.length : Int))), (11, .p (.int .i64 x3.2)), (33, .p (.bool w10))]) ?_ ?_
      · clear h
        rcases Bool.eq_false_or_eq_true (decide ((x3.1.length : Int) > 0)) with ha1 | ha1
        · replace hw10 := ite_t ha1 hw10
          replace hw10 := bind_some' hw10
          obtain ⟨v8, hv8, hw10⟩ := hw10
          replace hw10 := bind_some' hw10
          obtain ⟨v9, hv9, hw10⟩ := hw10
          have hw10 := Option.some.inj hw10
          subst hw10
          exact (r_go [(3, .ov false [.sl (some 62) (x3.1.map (eO 3 eI))]), (4, .p (.int .i64 x3.2)), (6, .p (.int .i64 v7)), (7, .p (.int .i64 (x3.1.length : Int))), (9, .ov false [.sl (some 39) (v2.map (eP eI eI))]), (10, .p (.int .i64 (v2.length : Int))), (11, .p (.int .i64 x3.2)), (33, .p (.bool (v9 == v7)))] [(3, {g := some true}), (4, {g := some true}), (5, {g := some true}), (6, {g := some true, row := some [.sl (some 3) (v8.map eI)]}), (7, {g := some true, row := some [.sl (some 3) (v8.map eI)]}), (8, {g := some true, deep := some [.sl (some 3) (v8.map eI)], row := some [.raw (.int .i64 v9)]}), (9, {g := some true, row := some [.raw (.int .i64 v9)]}), (10, {g := some true}), (11, {g := some true}), (12, {b := some true})] [(decide ((x3.1.length : Int) > 0)) = true, (decide ((x3.1.length : Int) > 0)) = true, (decide ((x3.1.length : Int) > 0)) = true, (decide ((x3.1.length : Int) > 0)) = true, 0 ≤ (w64 ((x3.1.length : Int) - 1)), (x3.1.map (eO 3 eI))[(Int.toNat (w64 ((x3.1.length : Int) - 1)))]? = some [.sl (some 3) (v8.map eI)], (decide ((x3.1.length : Int) > 0)) = true, frR [.sl (some 3) (v8.map eI)] = false, getRow [[.sl (some 62) (x3.1.map (eO 3 eI))]] [(0, 0), ((Int.toNat (w64 ((x3.1.length : Int) - 1))), 0)] = some [.sl (some 3) (v8.map eI)], (decide ((x3.1.length : Int) > 0)) = true, 0 ≤ 2, (v8.map eI)[(Int.toNat 2)]? = some [.raw (.int .i64 v9)], getRow [[.sl (some 62) (x3.1.map (eO 3 eI))]] [(0, 0), ((Int.toNat (w64 ((x3.1.length : Int) - 1))), 0)] = some [.sl (some 3) (v8.map eI)], (decide ((x3.1.length : Int) > 0)) = true, getRow [[.sl (some 62) (x3.1.map (eO 3 eI))]] [(0, 0), ((Int.toNat (w64 ((x3.1.length : Int) - 1))), 0), ((Int.toNat 2), 0)] = some [.raw (.int .i64 v9)], (decide ((x3.1.length : Int) > 0)) = true, (decide ((x3.1.length : Int) > 0)) = true, (decide ((x3.1.length : Int) > 0)) = true] (by kernel_rfl) ⟨ha1, ha1, ha1, ha1, (idxO_some hv8).1, (map_get (eO 3 eI) (idxO_some hv8).2), ha1, rfl, ((gr0 rfl).trans (gre (map_get (eO 3 eI) (idxO_some hv8).2))), ha1, (idxO_some hv9).1, (map_get eI (idxO_some hv9).2), ((gr0 rfl).trans (gre (map_get (eO 3 eI) (idxO_some hv8).2))), ha1, ((gr0 rfl).trans ((grs (map_get (eO 3 eI) (idxO_some hv8).2) rfl).trans (gre (map_get eI (idxO_some hv9).2)))), ha1, ha1, ha1, trivial⟩)
        · replace hw10 := ite_f ha1 hw10
          have hw10 := Option.some.inj hw10
          subst hw10
          exact (r_go [(3, .ov false [.sl (some 62) (x3.1.map (eO 3 eI))]), (4, .p (.int .i64 x3.2)), (6, .p (.int .i64 v7)), (7, .p (.int .i64 (x3.1.length : Int))), (9, .ov false [.sl (some 39) (v2.map (eP eI eI))]), (10, .p (.int .i64 (v2.length : Int))), (11, .p (.int .i64 x3.2)), (33, .p (.bool false))] [(3, {g := some false}), (4, {g := some false}), (5, {g := some false}), (6, {g := some false}), (7, {g := some false}), (8, {g := some false}), (9, {g := some false}), (10, {g := some false}), (11, {g := some false}), (12, {b := some false})] [(decide ((x3.1.length : Int) > 0)) = false, (decide ((x3.1.length : Int) > 0)) = false, (decide ((x3.1.length : Int) > 0)) = false, (decide ((x3.1.length : Int) > 0)) = false, (decide ((x3.1.length : Int) > 0)) = false, (decide ((x3.1.length : Int) > 0)) = false, (decide ((x3.1.length : Int) > 0)) = false, (decide ((x3.1.length : Int) > 0)) = false, (decide ((x3.1.length : Int) > 0)) = false, (decide ((x3.1.length : Int) > 0)) = false] (by kernel_rfl) ⟨ha1, ha1, ha1, ha1, ha1, ha1, ha1, ha1, ha1, ha1, trivial⟩)
      · refine k_cond (b := w10) (by kernel_rfl) (fun hc7_10 => ?_) (fun hc7_10 => ?_)
        · replace h := ite_t hc7_10 h
          replace h := bind_some' h
          obtain ⟨v12, hv12, h⟩ := h
          replace h := bind_some' h
          obtain ⟨v13, hv13, h⟩ := h
          refine k_sreg (r_go [(3, .ov false [.sl (some 62) ((x3.1.set (Int.toNat (w64 ((x3.1.length : Int) - 1))) (v12.set (Int.toNat 1) (w64 (x3.2 + 1)))).map (eO 3 eI))]), (9, .ov false [.sl (some 39) (v2.map (eP eI eI))]), (10, .p (.int .i64 (v2.length : Int))), (11, .p (.int .i64 x3.2))] [(3, {row := some [.sl (some 3) (v12.map eI)]}), (4, {row := some [.sl (some 3) (v12.map eI)]}), (7, {deep := some [.sl (some 3) (v12.map eI)], row := some [.raw (.int .i64 v13)]}), (8, {row := some [.raw (.int .i64 v13)], fix := some (3, .ov false [.sl (some 62) ((x3.1.set (Int.toNat (w64 ((x3.1.length : Int) - 1))) (v12.set (Int.toNat 1) (w64 (x3.2 + 1)))).map (eO 3 eI))])})] [0 ≤ (w64 ((x3.1.length : Int) - 1)), (x3.1.map (eO 3 eI))[(Int.toNat (w64 ((x3.1.length : Int) - 1)))]? = some [.sl (some 3) (v12.map eI)], frR [.sl (some 3) (v12.map eI)] = false, getRow [[.sl (some 62) (x3.1.map (eO 3 eI))]] [(0, 0), ((Int.toNat (w64 ((x3.1.length : Int) - 1))), 0)] = some [.sl (some 3) (v12.map eI)], 0 ≤ 1, (v12.map eI)[(Int.toNat 1)]? = some [.raw (.int .i64 v13)], getRow [[.sl (some 62) (x3.1.map (eO 3 eI))]] [(0, 0), ((Int.toNat (w64 ((x3.1.length : Int) - 1))), 0)] = some [.sl (some 3) (v12.map eI)], getRow [[.sl (some 62) (x3.1.map (eO 3 eI))]] [(0, 0), ((Int.toNat (w64 ((x3.1.length : Int) - 1))), 0), ((Int.toNat 1), 0)] = some [.raw (.int .i64 v13)], (SV.ov false [.sl (some 62) (setL (x3.1.map (eO 3 eI)) [((Int.toNat (w64 ((x3.1.length : Int) - 1))), 0), ((Int.toNat 1), 0)] [.raw (.int .i64 (w64 (x3.2 + 1)))])] : SV) = .ov false [.sl (some 62) ((x3.1.set (Int.toNat (w64 ((x3.1.length : Int) - 1))) (v12.set (Int.toNat 1) (w64 (x3.2 + 1)))).map (eO 3 eI))]] (by kernel_rfl) ⟨(idxO_some hv12).1, (map_get (eO 3 eI) (idxO_some hv12).2), rfl, ((gr0 rfl).trans (gre (map_get (eO 3 eI) (idxO_some hv12).2))), (idxO_some hv13).1, (map_get eI (idxO_some hv13).2), ((gr0 rfl).trans (gre (map_get (eO 3 eI) (idxO_some hv12).2))), ((gr0 rfl).trans ((grs (map_get (eO 3 eI) (idxO_some hv12).2) rfl).trans (gre (map_get eI (idxO_some hv13).2)))), (congrArg (fun z => SV.ov false [.sl (some 62) z]) (set2 (f := (eO 3 eI)) (y := (v12.set (Int.toNat 1) (w64 (x3.2 + 1)))) (idxO_some hv12).2 rfl (set1 (f := eI) (y := (w64 (x3.2 + 1))) (idxO_some hv13).2 rfl) rfl)), trivial⟩) ?_
          refine k_exit ?_
          refine q_x ?_
          refine b_x ?_
          refine q_n ?_
          refine k_reg (r_go [(3, .ov false [.sl (some 62) ((x3.1.set (Int.toNat (w64 ((x3.1.length : Int) - 1))) (v12.set (Int.toNat 1) (w64 (x3.2 + 1)))).map (eO 3 eI))]), (9, .ov false [.sl (some 39) (v2.map (eP eI eI))]), (10, .p (.int .i64 (v2.length : Int))), (11, .p (.int .i64 (w64 (x3.2 + 1))))] [] [] (by kernel_rfl) trivial) ?_
          exact lq_n ((x3.1.set (Int.toNat (w64 ((x3.1.length : Int) - 1))) (v12.set (Int.toNat 1) (w64 (x3.2 + 1)))), (w64 (x3.2 + 1))) (Option.some.inj h).symm (wk_of (by kernel_rfl) (by kernel_rfl))
        · replace h := ite_f hc7_10 h
          refine k_skip ?_
          refine q_n ?_
          replace h := bind_some' h
          obtain ⟨u14, hu14, h⟩ := h
          refine k_reg (r_go [(3, .ov false [.sl (some 62) ((x3.1 ++ [[x3.2, (w64 (x3.2 + 1)), v7]]).map (eO 3 eI))]), (9, .ov false [.sl (some 39) (v2.map (eP eI eI))]), (10, .p (.int .i64 (v2.length : Int))), (11, .p (.int .i64 x3.2))] [(7, {fix := some (49, .ov false [.sl (some 62) ((x3.1 ++ [[x3.2, (w64 (x3.2 + 1)), v7]]).map (eO 3 eI))])})] [List.length ((x3.1.map (eO 3 eI)) : List (List C)) + List.length ((([[x3.2, (w64 (x3.2 + 1)), v7]]).map (eO 3 eI)) : List (List C)) ≤ 1099511627776, ∀ row ∈ ((([[x3.2, (w64 (x3.2 + 1)), v7]]).map (eO 3 eI)) : List (List C)), row.length = 1, (SV.ov false [.sl (some 62) ((x3.1.map (eO 3 eI)) ++ (([[x3.2, (w64 (x3.2 + 1)), v7]]).map (eO 3 eI)))] : SV) = .ov false [.sl (some 62) ((x3.1 ++ [[x3.2, (w64 (x3.2 + 1)), v7]]).map (eO 3 eI))]] (by kernel_rfl) ⟨(by have hg := (guardO_some hu14); simpa using hg), (rows_len fun _ => rfl), (congrArg (fun z => SV.ov false [.sl (some 62) z]) (List.map_append ..).symm), trivial⟩) ?_
          refine b_n ?_
          refine q_n ?_
          refine k_reg (r_go [(3, .ov false [.sl (some 62) ((x3.1 ++ [[x3.2, (w64 (x3.2 + 1)), v7]]).map (eO 3 eI))]), (9, .ov false [.sl (some 39) (v2.map (eP eI eI))]), (10, .p (.int .i64 (v2.length : Int))), (11, .p (.int .i64 (w64 (x3.2 + 1))))] [] [] (by kernel_rfl) trivial) ?_
          exact lq_n ((x3.1 ++ [[x3.2, (w64 (x3.2 + 1)), v7]]), (w64 (x3.2 + 1))) (Option.some.inj h).symm (wk_of (by kernel_rfl) (by kernel_rfl))
    · replace h := ite_f hc5_4 h
      refine k_exit ?_
      refine q_x ?_
      refine lq_x ?_
      refine b_x ?_
      have hyy := hy_x3 _ (Option.some.inj h).symm
      subst hyy
      have h := hk_x3
      refine q_n ?_
      exact ⟨x3.1, h, (wk_of (by kernel_rfl) (by kernel_rfl))⟩
theorem wk_spec_knLaps {a0 : (List ((Int × Int) × (Int × Int)))}  {r : Bool} (h : spec_knLaps a0 = some r) : Meets Try.prog 16 [.d false [.sl none (a0.map (eP (eP eI eI) (eP eI eI)))]] { vals := [.p (.bool r)] } := by
  refine Meets_ofL (by kernel_rfl) Try.func16 rfl (by kernel_rfl) (l0 := [(0, .d false [.sl none (a0.map (eP (eP eI eI) (eP eI eI)))])]) (by kernel_rfl) ?_
  unfold spec_knLaps at h
  refine k_sreg (r_go [(0, .d false [.sl none (a0.map (eP (eP eI eI) (eP eI eI)))])] [] [] (by kernel_rfl) trivial) ?_
  refine k_seq ?_
  replace h := bind_some' h
  obtain ⟨v1, hv1, h⟩ := h
  replace h := bind_some' h
  obtain ⟨w3, hw3, h⟩ := h
  refine k_sreg (l1 := [(0, .d false [.sl none (a0.map (eP (eP eI eI) (eP eI eI)))]), (11, .p (.bool w3))]) ?_ ?_
  · clear h
    rcases Bool.eq_false_or_eq_true (!v1) with ha0 | ha0
    · replace hw3 := ite_t ha0 hw3
      have hw3 := Option.some.inj hw3
      subst hw3
      exact (r_go [(0, .d false [.sl none (a0.map (eP (eP eI eI) (eP eI eI)))]), (11, .p (.bool true))] [(1, {call := some ([.d false [.sl none (a0.map (eP (eP eI eI) (eP eI eI)))]], [.p (.bool v1)], true)}), (4, {g := some true}), (5, {g := some true}), (6, {g := some true}), (7, {b := some true})] [([.d false [.sl none (a0.map (eP (eP eI eI) (eP eI eI)))]] : List Arg) = [.d false [.sl none (a0.map (eP (eP eI eI) (eP eI eI)))]], Meets Try.prog 28 ([.d false [.sl none (a0.map (eP (eP eI eI) (eP eI eI)))]] ++ []) { vals := [.p (.bool v1)] }, List.all [.p (.bool v1)] simpleR = true, (!v1) = true, (!v1) = true, (!v1) = true, (!v1) = true] (by kernel_rfl) ⟨rfl, (wk_spec_imGood hv1), rfl, ha0, ha0, ha0, ha0, trivial⟩)
    · replace hw3 := ite_f ha0 hw3
      replace hw3 := bind_some' hw3
      obtain ⟨v2, hv2, hw3⟩ := hw3
      have hw3 := Option.some.inj hw3
      subst hw3
      exact (r_go [(0, .d false [.sl none (a0.map (eP (eP eI eI) (eP eI eI)))]), (11, .p (.bool (!v2)))] [(1, {call := some ([.d false [.sl none (a0.map (eP (eP eI eI) (eP eI eI)))]], [.p (.bool v1)], true)}), (4, {g := some false}), (5, {g := some false, call := some ([.d false [.sl none (a0.map (eP (eP eI eI) (eP eI eI)))]], [.p (.bool v2)], true)}), (6, {g := some false}), (7, {b := some false})] [([.d false [.sl none (a0.map (eP (eP eI eI) (eP eI eI)))]] : List Arg) = [.d false [.sl none (a0.map (eP (eP eI eI) (eP eI eI)))]], Meets Try.prog 28 ([.d false [.sl none (a0.map (eP (eP eI eI) (eP eI eI)))]] ++ []) { vals := [.p (.bool v1)] }, List.all [.p (.bool v1)] simpleR = true, (!v1) = false, (!v1) = false, ([.d false [.sl none (a0.map (eP (eP eI eI) (eP eI eI)))]] : List Arg) = [.d false [.sl none (a0.map (eP (eP eI eI) (eP eI eI)))]], Meets Try.prog 29 ([.d false [.sl none (a0.map (eP (eP eI eI) (eP eI eI)))]] ++ []) { vals := [.p (.bool v2)] }, List.all [.p (.bool v2)] simpleR = true, (!v1) = false, (!v1) = false] (by kernel_rfl) ⟨rfl, (wk_spec_imGood hv1), rfl, ha0, ha0, rfl, (wk_spec_lpStrict hv2), rfl, ha0, ha0, trivial⟩)
  · refine k_cond (b := w3) (by kernel_rfl) (fun hc2_3 => ?_) (fun hc2_3 => ?_)
    · replace h := ite_t hc2_3 h
      refine k_sreg (r_go [(2, .p (.bool false))] [] [] (by kernel_rfl) trivial) ?_
      refine k_ret ?_
      refine q_r ?_
      obtain rfl := Option.some.inj h
      exact e_ret (ls := [(.p (.bool false), 2)]) (by kernel_rfl) rfl (by kernel_rfl) rfl
    · replace h := ite_f hc2_3 h
      refine k_skip ?_
      refine q_n ?_
      replace h := bind_some' h
      obtain ⟨v5, hv5, h⟩ := h
      refine k_sreg (r_go [(3, .ov false [.sl (some 62) (v5.map (eO 3 eI))])] [(1, {call := some ([.d false [.sl none (a0.map (eP (eP eI eI) (eP eI eI)))]], [.ov false [.sl (some 62) (v5.map (eO 3 eI))]], true)})] [([.d false [.sl none (a0.map (eP (eP eI eI) (eP eI eI)))]] : List Arg) = [.d false [.sl none (a0.map (eP (eP eI eI) (eP eI eI)))]], Meets Try.prog 30 ([.d false [.sl none (a0.map (eP (eP eI eI) (eP eI eI)))]] ++ []) { vals := [.ov false [.sl (some 62) (v5.map (eO 3 eI))]] }, List.all [.ov false [.sl (some 62) (v5.map (eO 3 eI))]] simpleR = true] (by kernel_rfl) ⟨rfl, (wk_spec_imLaps hv5), (sa_o (wnR1 (wnL_enc (wn_O wn_I)) rfl) rfl), trivial⟩) ?_
      replace h := bind_some' h
      obtain ⟨w8, hw8, h⟩ := h
      refine k_sreg (l1 := [(2, .p (.bool w8))]) ?_ ?_
      · clear h
        rcases Bool.eq_false_or_eq_true ((v5.length : Int) == 2) with ha1 | ha1
        · replace hw8 := ite_t ha1 hw8
          replace hw8 := bind_some' hw8
          obtain ⟨v6, hv6, hw8⟩ := hw8
          replace hw8 := bind_some' hw8
          obtain ⟨v7, hv7, hw8⟩ := hw8
          have hw8 := Option.some.inj hw8
          subst hw8
          exact (r_go [(2, .p (.bool (v7 == 1)))] [(1, {n := some v5.length}), (4, {g := some true}), (5, {g := some true, row := some [.sl (some 3) (v6.map eI)]}), (6, {g := some true, row := some [.sl (some 3) (v6.map eI)]}), (7, {g := some true, deep := some [.sl (some 3) (v6.map eI)], row := some [.raw (.int .i64 v7)]}), (8, {g := some true, row := some [.raw (.int .i64 v7)]}), (9, {g := some true}), (10, {b := some true})] [(v5.map (eO 3 eI)).length = v5.length, ((v5.length : Int) == 2) = true, ((v5.length : Int) == 2) = true, 0 ≤ 0, (v5.map (eO 3 eI))[(Int.toNat 0)]? = some [.sl (some 3) (v6.map eI)], ((v5.length : Int) == 2) = true, frR [.sl (some 3) (v6.map eI)] = false, getRow [[.sl (some 62) (v5.map (eO 3 eI))]] [(0, 0), ((Int.toNat 0), 0)] = some [.sl (some 3) (v6.map eI)], ((v5.length : Int) == 2) = true, 0 ≤ 2, (v6.map eI)[(Int.toNat 2)]? = some [.raw (.int .i64 v7)], getRow [[.sl (some 62) (v5.map (eO 3 eI))]] [(0, 0), ((Int.toNat 0), 0)] = some [.sl (some 3) (v6.map eI)], ((v5.length : Int) == 2) = true, getRow [[.sl (some 62) (v5.map (eO 3 eI))]] [(0, 0), ((Int.toNat 0), 0), ((Int.toNat 2), 0)] = some [.raw (.int .i64 v7)], ((v5.length : Int) == 2) = true, ((v5.length : Int) == 2) = true] (by kernel_rfl) ⟨(List.length_map ..), ha1, ha1, (idxO_some hv6).1, (map_get (eO 3 eI) (idxO_some hv6).2), ha1, rfl, ((gr0 rfl).trans (gre (map_get (eO 3 eI) (idxO_some hv6).2))), ha1, (idxO_some hv7).1, (map_get eI (idxO_some hv7).2), ((gr0 rfl).trans (gre (map_get (eO 3 eI) (idxO_some hv6).2))), ha1, ((gr0 rfl).trans ((grs (map_get (eO 3 eI) (idxO_some hv6).2) rfl).trans (gre (map_get eI (idxO_some hv7).2)))), ha1, ha1, trivial⟩)
        · replace hw8 := ite_f ha1 hw8
          have hw8 := Option.some.inj hw8
          subst hw8
          exact (r_go [(2, .p (.bool false))] [(1, {n := some v5.length}), (4, {g := some false}), (5, {g := some false}), (6, {g := some false}), (7, {g := some false}), (8, {g := some false}), (9, {g := some false}), (10, {b := some false})] [(v5.map (eO 3 eI)).length = v5.length, ((v5.length : Int) == 2) = false, ((v5.length : Int) == 2) = false, ((v5.length : Int) == 2) = false, ((v5.length : Int) == 2) = false, ((v5.length : Int) == 2) = false, ((v5.length : Int) == 2) = false, ((v5.length : Int) == 2) = false] (by kernel_rfl) ⟨(List.length_map ..), ha1, ha1, ha1, ha1, ha1, ha1, ha1, trivial⟩)
      · refine k_ret ?_
        obtain rfl := Option.some.inj h
        exact e_ret (ls := [(.p (.bool w8), 2)]) (by kernel_rfl) rfl (by kernel_rfl) rfl
theorem wk_spec_knLength {a0 : Int}  {r : Bool} (h : spec_knLength a0 = some r) : Meets Try.prog 17 [.v (.int .i64 a0)] { vals := [.p (.bool r)] } := by
  refine Meets_ofL (by kernel_rfl) Try.func17 rfl (by kernel_rfl) (l0 := [(0, .p (.int .i64 a0))]) (by kernel_rfl) ?_
  unfold spec_knLength at h
  refine k_sreg (r_go [(0, .p (.int .i64 a0))] [] [] (by kernel_rfl) trivial) ?_
  replace h := bind_some' h
  obtain ⟨v1, hv1, h⟩ := h
  refine k_sreg (r_go [(2, .p (.bool v1))] [(1, {call := some ([.v (.int .i64 a0), .v (.int .i64 1), .v (.int .i64 30)], [.p (.bool v1)], true)})] [([.v (.int .i64 a0), .v (.int .i64 1), .v (.int .i64 30)] : List Arg) = [.v (.int .i64 a0), .v (.int .i64 1), .v (.int .i64 30)], Meets Try.prog 31 ([.v (.int .i64 a0), .v (.int .i64 1), .v (.int .i64 30)] ++ []) { vals := [.p (.bool v1)] }, List.all [.p (.bool v1)] simpleR = true] (by kernel_rfl) ⟨rfl, (wk_spec_l1In hv1), rfl, trivial⟩) ?_
  refine k_ret ?_
  obtain rfl := Option.some.inj h
  exact e_ret (ls := [(.p (.bool v1), 2)]) (by kernel_rfl) rfl (by kernel_rfl) rfl
theorem wk_spec_lpTurns {a0 : (List ((Int × Int) × (Int × Int)))}  {r : (List (Int × Int))} (h : spec_lpTurns a0 = some r) : Meets Try.prog 45 [.d false [.sl none (a0.map (eP (eP eI eI) (eP eI eI)))]] { vals := [.ov false [.sl (some 39) (r.map (eP eI eI))]] } := by
  refine Meets_ofL (by kernel_rfl) Try.func45 rfl (by kernel_rfl) (l0 := [(0, .d false [.sl none (a0.map (eP (eP eI eI) (eP eI eI)))])]) (by kernel_rfl) ?_
  unfold spec_lpTurns at h
  refine k_sreg (r_go [(0, .d false [.sl none (a0.map (eP (eP eI eI) (eP eI eI)))])] [] [] (by kernel_rfl) trivial) ?_
  refine k_sreg (r_go [(0, .d false [.sl none (a0.map (eP (eP eI eI) (eP eI eI)))]), (3, .ov false [.sl (some 39) []])] [] [] (by kernel_rfl) trivial) ?_
  refine k_join (J := fun (x : (List (Int × Int))) => [(3, .ov false [.sl (some 39) (x.map (eP eI eI))])]) (K := fun x => spec_lpTurns_k1 x = some r) (fun x1 h => ?_) ?_
  · unfold spec_lpTurns_k1 at h
    refine k_sreg (r_go [(2, .ov false [.sl (some 39) (x1.map (eP eI eI))])] [] [] (by kernel_rfl) trivial) ?_
    refine k_ret ?_
    obtain rfl := Option.some.inj h
    exact e_ret (ls := [(.ov false [.sl (some 39) (x1.map (eP eI eI))], 2)]) (by kernel_rfl) rfl (by kernel_rfl) rfl
  · replace h := bind_some' h
    obtain ⟨v2, hv2, h⟩ := h
    replace h := bind_some' h
    obtain ⟨u3, hu3, h⟩ := h
    refine k_sreg (r_go [(0, .d false [.sl none (a0.map (eP (eP eI eI) (eP eI eI)))]), (3, .ov false [.sl (some 39) []]), (8, .d false [.sl none ((v2.drop (Int.toNat 1)).map (eF eI))]), (9, .p (.int .i64 ((v2.drop (Int.toNat 1)).length : Int))), (10, .p (.int .i64 0))] [(1, {call := some ([.d false [.sl none (a0.map (eP (eP eI eI) (eP eI eI)))]], [.ov false [.sl (some 62) (v2.map (eO 3 eI))]], true)}), (2, {pre := some (7, .d false [.sl none (v2.map (eF eI))]), fix := some (8, .d false [.sl none ((v2.drop (Int.toNat 1)).map (eF eI))])}), (3, {n := some (v2.drop (Int.toNat 1)).length})] [([.d false [.sl none (a0.map (eP (eP eI eI) (eP eI eI)))]] : List Arg) = [.d false [.sl none (a0.map (eP (eP eI eI) (eP eI eI)))]], Meets Try.prog 30 ([.d false [.sl none (a0.map (eP (eP eI eI) (eP eI eI)))]] ++ []) { vals := [.ov false [.sl (some 62) (v2.map (eO 3 eI))]] }, List.all [.ov false [.sl (some 62) (v2.map (eO 3 eI))]] simpleR = true, (SV.d false (eraR [.sl (some 62) (v2.map (eO 3 eI))]) : SV) = .d false [.sl none (v2.map (eF eI))], (Int.toNat 1) ≤ (v2.map (eF eI)).length, (v2.map (eF eI)).length ≤ (v2.map (eF eI)).length, ∀ row ∈ (v2.map (eF eI)), row.length = 1, (0 : Int) ≤ 1, (SV.d false [.sl none (((v2.map (eF eI)).take (v2.map (eF eI)).length).drop (Int.toNat 1))] : SV) = .d false [.sl none ((v2.drop (Int.toNat 1)).map (eF eI))], ((v2.drop (Int.toNat 1)).map (eF eI)).length = (v2.drop (Int.toNat 1)).length] (by kernel_rfl) ⟨rfl, (wk_spec_imLaps hv2), (sa_o (wnR1 (wnL_enc (wn_O wn_I)) rfl) rfl), (congrArg (fun z => SV.d false z) (erc_sl (eraL_enc (era_O er_I)) rfl)), (by have hg := (guardO_some hu3); first | (simp only [List.length_map]; omega) | omega), (Nat.le_refl _), (rows_len fun _ => rfl), (by have hg := (guardO_some hu3); omega), (congrArg (fun z => SV.d false [.sl none z]) sl_lo), (List.length_map ..), trivial⟩) ?_
    refine k_block ?_
    obtain ⟨y5, hl_x4, hk_x4⟩ := bind_some' h
    clear h
    refine k_loop (J := fun (x : ((List (Int × Int)) × Int)) => [(0, .d false [.sl none (a0.map (eP (eP eI eI) (eP eI eI)))]), (3, .ov false [.sl (some 39) (x.1.map (eP eI eI))]), (8, .d false [.sl none ((v2.drop (Int.toNat 1)).map (eF eI))]), (9, .p (.int .i64 ((v2.drop (Int.toNat 1)).length : Int))), (10, .p (.int .i64 x.2))]) hl_x4 (wk_of (by kernel_rfl) (by kernel_rfl)) (fun x4 o_x4 h hy_x4 => ?_)
    unfold spec_lpTurns_b1 at h
    refine k_sreg (r_go [(0, .d false [.sl none (a0.map (eP (eP eI eI) (eP eI eI)))]), (3, .ov false [.sl (some 39) (x4.1.map (eP eI eI))]), (8, .d false [.sl none ((v2.drop (Int.toNat 1)).map (eF eI))]), (9, .p (.int .i64 ((v2.drop (Int.toNat 1)).length : Int))), (10, .p (.int .i64 x4.2)), (11, .p (.bool (decide (x4.2 < ((v2.drop (Int.toNat 1)).length : Int)))))] [] [] (by kernel_rfl) trivial) ?_
    refine k_seq ?_
    refine k_cond (b := (decide (x4.2 < ((v2.drop (Int.toNat 1)).length : Int)))) (by kernel_rfl) (fun hc5_5 => ?_) (fun hc5_5 => ?_)
    · replace h := ite_t hc5_5 h
      refine k_skip ?_
      refine q_n ?_
      refine k_seq ?_
      refine k_block ?_
      replace h := bind_some' h
      obtain ⟨v7, hv7, h⟩ := h
      refine k_sreg (r_go [(0, .d false [.sl none (a0.map (eP (eP eI eI) (eP eI eI)))]), (3, .ov false [.sl (some 39) (x4.1.map (eP eI eI))]), (5, .d false [.sl none (v7.map eI)]), (8, .d false [.sl none ((v2.drop (Int.toNat 1)).map (eF eI))]), (9, .p (.int .i64 ((v2.drop (Int.toNat 1)).length : Int))), (10, .p (.int .i64 x4.2))] [(0, {row := some [.sl none (v7.map eI)]})] [0 ≤ x4.2, ((v2.drop (Int.toNat 1)).map (eF eI))[(Int.toNat x4.2)]? = some [.sl none (v7.map eI)]] (by kernel_rfl) ⟨(idxO_some hv7).1, (map_get (eF eI) (idxO_some hv7).2), trivial⟩) ?_
      replace h := bind_some' h
      obtain ⟨v8, hv8, h⟩ := h
      replace h := bind_some' h
      obtain ⟨v9, hv9, h⟩ := h
      replace h := bind_some' h
      obtain ⟨u10, hu10, h⟩ := h
      refine k_reg (r_go [(0, .d false [.sl none (a0.map (eP (eP eI eI) (eP eI eI)))]), (3, .ov false [.sl (some 39) ((x4.1 ++ [v9.1]).map (eP eI eI))]), (8, .d false [.sl none ((v2.drop (Int.toNat 1)).map (eF eI))]), (9, .p (.int .i64 ((v2.drop (Int.toNat 1)).length : Int))), (10, .p (.int .i64 x4.2))] [(3, {row := some [.raw (.int .i64 v8)]}), (5, {row := some [.raw (.int .i64 v9.1.1), .raw (.int .i64 v9.1.2), .raw (.int .i64 v9.2.1), .raw (.int .i64 v9.2.2)]}), (9, {fix := some (23, .ov false [.sl (some 39) ((x4.1 ++ [v9.1]).map (eP eI eI))])})] [0 ≤ 0, (v7.map eI)[(Int.toNat 0)]? = some [.raw (.int .i64 v8)], 0 ≤ v8, (a0.map (eP (eP eI eI) (eP eI eI)))[(Int.toNat v8)]? = some [.raw (.int .i64 v9.1.1), .raw (.int .i64 v9.1.2), .raw (.int .i64 v9.2.1), .raw (.int .i64 v9.2.2)], List.length ((x4.1.map (eP eI eI)) : List (List C)) + List.length ((([v9.1]).map (eP eI eI)) : List (List C)) ≤ 1099511627776, ∀ row ∈ ((([v9.1]).map (eP eI eI)) : List (List C)), row.length = 2, (SV.ov false [.sl (some 39) ((x4.1.map (eP eI eI)) ++ (([v9.1]).map (eP eI eI)))] : SV) = .ov false [.sl (some 39) ((x4.1 ++ [v9.1]).map (eP eI eI))]] (by kernel_rfl) ⟨(idxO_some hv8).1, (map_get eI (idxO_some hv8).2), (idxO_some hv9).1, (map_get (eP (eP eI eI) (eP eI eI)) (idxO_some hv9).2), (by have hg := (guardO_some hu10); simpa using hg), (rows_len fun _ => rfl), (congrArg (fun z => SV.ov false [.sl (some 39) z]) (List.map_append ..).symm), trivial⟩) ?_
      refine b_n ?_
      refine q_n ?_
      refine k_reg (r_go [(0, .d false [.sl none (a0.map (eP (eP eI eI) (eP eI eI)))]), (3, .ov false [.sl (some 39) ((x4.1 ++ [v9.1]).map (eP eI eI))]), (8, .d false [.sl none ((v2.drop (Int.toNat 1)).map (eF eI))]), (9, .p (.int .i64 ((v2.drop (Int.toNat 1)).length : Int))), (10, .p (.int .i64 (w64 (x4.2 + 1))))] [] [] (by kernel_rfl) trivial) ?_
      exact lq_n ((x4.1 ++ [v9.1]), (w64 (x4.2 + 1))) (Option.some.inj h).symm (wk_of (by kernel_rfl) (by kernel_rfl))
    · replace h := ite_f hc5_5 h
      refine k_exit ?_
      refine q_x ?_
      refine lq_x ?_
      refine b_x ?_
      have hyy := hy_x4 _ (Option.some.inj h).symm
      subst hyy
      have h := hk_x4
      refine q_n ?_
      exact ⟨x4.1, h, (wk_of (by kernel_rfl) (by kernel_rfl))⟩
theorem wk_spec_knCentre {a0 : (List ((Int × Int) × (Int × Int)))}  {r : (Int × Int)} (h : spec_knCentre a0 = some r) : Meets Try.prog 33 [.d false [.sl none (a0.map (eP (eP eI eI) (eP eI eI)))]] { vals := [.p (.agg #[.int .i64 r.1, .int .i64 r.2])] } := by
  refine Meets_ofL (by kernel_rfl) Try.func33 rfl (by kernel_rfl) (l0 := [(0, .d false [.sl none (a0.map (eP (eP eI eI) (eP eI eI)))])]) (by kernel_rfl) ?_
  unfold spec_knCentre at h
  refine k_sreg (r_go [(0, .d false [.sl none (a0.map (eP (eP eI eI) (eP eI eI)))]), (2, .box [.raw (.int .i64 0), .raw (.int .i64 0)])] [] [] (by kernel_rfl) trivial) ?_
  replace h := bind_some' h
  obtain ⟨v1, hv1, h⟩ := h
  replace h := bind_some' h
  obtain ⟨v2, hv2, h⟩ := h
  refine k_sreg (r_go [(2, .box [.raw (.int .i64 v2.1), .raw (.int .i64 v2.2)])] [(1, {call := some ([.d false [.sl none (a0.map (eP (eP eI eI) (eP eI eI)))]], [.ov false [.sl (some 39) (v1.map (eP eI eI))]], true)}), (2, {row := some [.raw (.int .i64 v2.1), .raw (.int .i64 v2.2)]}), (3, {row := some [.raw (.int .i64 v2.1), .raw (.int .i64 v2.2)]})] [([.d false [.sl none (a0.map (eP (eP eI eI) (eP eI eI)))]] : List Arg) = [.d false [.sl none (a0.map (eP (eP eI eI) (eP eI eI)))]], Meets Try.prog 45 ([.d false [.sl none (a0.map (eP (eP eI eI) (eP eI eI)))]] ++ []) { vals := [.ov false [.sl (some 39) (v1.map (eP eI eI))]] }, List.all [.ov false [.sl (some 39) (v1.map (eP eI eI))]] simpleR = true, 0 ≤ 0, (v1.map (eP eI eI))[(Int.toNat 0)]? = some [.raw (.int .i64 v2.1), .raw (.int .i64 v2.2)], getRow [[.sl (some 39) (v1.map (eP eI eI))]] [(0, 0), ((Int.toNat 0), 0)] = some [.raw (.int .i64 v2.1), .raw (.int .i64 v2.2)]] (by kernel_rfl) ⟨rfl, (wk_spec_lpTurns hv1), (sa_o (wnR1 (wnL_enc (wn_P wn_I wn_I)) rfl) rfl), (idxO_some hv2).1, (map_get (eP eI eI) (idxO_some hv2).2), ((gr0 rfl).trans (gre (map_get (eP eI eI) (idxO_some hv2).2))), trivial⟩) ?_
  refine k_ret ?_
  obtain rfl := Option.some.inj h
  exact e_ret (ls := [(.p (.agg #[.int .i64 v2.1, .int .i64 v2.2]), 2)]) (by kernel_rfl) rfl (by kernel_rfl) rfl
theorem wk_spec_imPiece {a0 : (List ((Int × Int) × (Int × Int)))} {a1 : (Int × Int)}  {r : Int} (h : spec_imPiece a0 a1 = some r) : Meets Try.prog 59 [.d false [.sl none (a0.map (eP (eP eI eI) (eP eI eI)))], .v (.agg #[.int .i64 a1.1, .int .i64 a1.2])] { vals := [.p (.int .i64 r)] } := by
  refine Meets_ofL (by kernel_rfl) Try.func59 rfl (by kernel_rfl) (l0 := [(0, .d false [.sl none (a0.map (eP (eP eI eI) (eP eI eI)))]), (1, .p (.agg #[.int .i64 a1.1, .int .i64 a1.2]))]) (by kernel_rfl) ?_
  unfold spec_imPiece at h
  refine k_sreg (r_go [(0, .d false [.sl none (a0.map (eP (eP eI eI) (eP eI eI)))]), (3, .box [.raw (.int .i64 a1.1), .raw (.int .i64 a1.2)])] [] [] (by kernel_rfl) trivial) ?_
  refine k_sreg (r_go [(0, .d false [.sl none (a0.map (eP (eP eI eI) (eP eI eI)))]), (3, .box [.raw (.int .i64 a1.1), .raw (.int .i64 a1.2)]), (5, .p (.int .i64 0))] [] [] (by kernel_rfl) trivial) ?_
  refine k_join (J := fun (x : Int) => [(5, .p (.int .i64 x))]) (K := fun x => spec_imPiece_k1 x = some r) (fun x1 h => ?_) ?_
  · unfold spec_imPiece_k1 at h
    refine k_sreg (r_go [(4, .p (.int .i64 x1))] [] [] (by kernel_rfl) trivial) ?_
    refine k_ret ?_
    obtain rfl := Option.some.inj h
    exact e_ret (ls := [(.p (.int .i64 x1), 4)]) (by kernel_rfl) rfl (by kernel_rfl) rfl
  · refine k_block ?_
    obtain ⟨y3, hl_x2, hk_x2⟩ := bind_some' h
    clear h
    refine k_loop (J := fun (x : Int) => [(0, .d false [.sl none (a0.map (eP (eP eI eI) (eP eI eI)))]), (3, .box [.raw (.int .i64 a1.1), .raw (.int .i64 a1.2)]), (5, .p (.int .i64 x))]) hl_x2 (wk_of (by kernel_rfl) (by kernel_rfl)) (fun x2 o_x2 h hy_x2 => ?_)
    unfold spec_imPiece_b1 at h
    refine k_seq ?_
    replace h := bind_some' h
    obtain ⟨w6, hw6, h⟩ := h
    refine k_sreg (l1 := [(0, .d false [.sl none (a0.map (eP (eP eI eI) (eP eI eI)))]), (3, .box [.raw (.int .i64 a1.1), .raw (.int .i64 a1.2)]), (5, .p (.int .i64 x2)), (21, .p (.bool w6))]) ?_ ?_
    · clear h
      rcases Bool.eq_false_or_eq_true (decide ((w64 (x2 + 2)) < (a0.length : Int))) with ha0 | ha0
      · replace hw6 := ite_t ha0 hw6
        replace hw6 := bind_some' hw6
        obtain ⟨v4, hv4, hw6⟩ := hw6
        replace hw6 := bind_some' hw6
        obtain ⟨v5, hv5, hw6⟩ := hw6
        have hw6 := Option.some.inj hw6
        subst hw6
        exact (r_draw Try_mixed 13 [] [(0, .d false [.sl none (a0.map (eP (eP eI eI) (eP eI eI)))]), (3, .box [.raw (.int .i64 a1.1), .raw (.int .i64 a1.2)]), (5, .p (.int .i64 x2)), (21, .p (.bool (decide (v5 < 0))))] [(3, {n := some a0.length}), (6, {g := some true}), (7, {g := some true}), (8, {g := some true}), (9, {g := some true, row := some [.raw (.int .i64 v4.1.1), .raw (.int .i64 v4.1.2), .raw (.int .i64 v4.2.1), .raw (.int .i64 v4.2.2)]}), (10, {g := some true}), (11, {g := some true}), (12, {g := some true}), (13, {g := some true, call := some ([.v (.agg #[.int .i64 v4.1.1, .int .i64 v4.1.2]), .v (.agg #[.int .i64 a1.1, .int .i64 a1.2])], [.p (.int .i64 v5)], true)}), (14, {g := some true}), (15, {b := some true})] [(a0.map (eP (eP eI eI) (eP eI eI))).length = a0.length, (decide ((w64 (x2 + 2)) < (a0.length : Int))) = true, (decide ((w64 (x2 + 2)) < (a0.length : Int))) = true, (decide ((w64 (x2 + 2)) < (a0.length : Int))) = true, (decide ((w64 (x2 + 2)) < (a0.length : Int))) = true, 0 ≤ (w64 (x2 + 1)), (a0.map (eP (eP eI eI) (eP eI eI)))[(Int.toNat (w64 (x2 + 1)))]? = some [.raw (.int .i64 v4.1.1), .raw (.int .i64 v4.1.2), .raw (.int .i64 v4.2.1), .raw (.int .i64 v4.2.2)], (decide ((w64 (x2 + 2)) < (a0.length : Int))) = true, (decide ((w64 (x2 + 2)) < (a0.length : Int))) = true, (decide ((w64 (x2 + 2)) < (a0.length : Int))) = true, (decide ((w64 (x2 + 2)) < (a0.length : Int))) = true, ([.v (.agg #[.int .i64 v4.1.1, .int .i64 v4.1.2]), .v (.agg #[.int .i64 a1.1, .int .i64 a1.2])] : List Arg) = [.v (.agg #[.int .i64 v4.1.1, .int .i64 v4.1.2]), .v (.agg #[.int .i64 a1.1, .int .i64 a1.2])], Meets Try.prog 32 ([.v (.agg #[.int .i64 v4.1.1, .int .i64 v4.1.2]), .v (.agg #[.int .i64 a1.1, .int .i64 a1.2])] ++ []) { vals := [.p (.int .i64 v5)] }, List.all [.p (.int .i64 v5)] simpleR = true, (decide ((w64 (x2 + 2)) < (a0.length : Int))) = true, (decide ((w64 (x2 + 2)) < (a0.length : Int))) = true] (by kernel_rfl) ⟨(List.length_map ..), ha0, ha0, ha0, ha0, (idxO_some hv4).1, (map_get (eP (eP eI eI) (eP eI eI)) (idxO_some hv4).2), ha0, ha0, ha0, ha0, rfl, (wk_spec_raCmp hv5), rfl, ha0, ha0, trivial⟩)
      · replace hw6 := ite_f ha0 hw6
        have hw6 := Option.some.inj hw6
        subst hw6
        exact (r_draw Try_mixed 13 [] [(0, .d false [.sl none (a0.map (eP (eP eI eI) (eP eI eI)))]), (3, .box [.raw (.int .i64 a1.1), .raw (.int .i64 a1.2)]), (5, .p (.int .i64 x2)), (21, .p (.bool false))] [(3, {n := some a0.length}), (6, {g := some false}), (7, {g := some false}), (8, {g := some false}), (9, {g := some false}), (10, {g := some false}), (11, {g := some false}), (12, {g := some false}), (13, {g := some false}), (14, {g := some false}), (15, {b := some false})] [(a0.map (eP (eP eI eI) (eP eI eI))).length = a0.length, (decide ((w64 (x2 + 2)) < (a0.length : Int))) = false, (decide ((w64 (x2 + 2)) < (a0.length : Int))) = false, (decide ((w64 (x2 + 2)) < (a0.length : Int))) = false, (decide ((w64 (x2 + 2)) < (a0.length : Int))) = false, (decide ((w64 (x2 + 2)) < (a0.length : Int))) = false, (decide ((w64 (x2 + 2)) < (a0.length : Int))) = false, (decide ((w64 (x2 + 2)) < (a0.length : Int))) = false, (decide ((w64 (x2 + 2)) < (a0.length : Int))) = false, (decide ((w64 (x2 + 2)) < (a0.length : Int))) = false, (decide ((w64 (x2 + 2)) < (a0.length : Int))) = false] (by kernel_rfl) ⟨(List.length_map ..), ha0, ha0, ha0, ha0, ha0, ha0, ha0, ha0, ha0, ha0, trivial⟩)
    · refine k_cond (b := w6) (by kernel_rfl) (fun hc5_6 => ?_) (fun hc5_6 => ?_)
      · replace h := ite_t hc5_6 h
        refine k_skip ?_
        refine q_n ?_
        refine k_block ?_
        refine k_reg (r_go [(0, .d false [.sl none (a0.map (eP (eP eI eI) (eP eI eI)))]), (3, .box [.raw (.int .i64 a1.1), .raw (.int .i64 a1.2)]), (5, .p (.int .i64 (w64 (x2 + 1))))] [] [] (by kernel_rfl) trivial) ?_
        refine b_n ?_
        exact lq_n (w64 (x2 + 1)) (Option.some.inj h).symm (wk_of (by kernel_rfl) (by kernel_rfl))
      · replace h := ite_f hc5_6 h
        refine k_exit ?_
        refine q_x ?_
        refine lq_x ?_
        refine b_x ?_
        have hyy := hy_x2 _ (Option.some.inj h).symm
        subst hyy
        have h := hk_x2
        refine q_n ?_
        exact ⟨x2, h, (wk_of (by kernel_rfl) (by kernel_rfl))⟩
theorem wk_spec_raMul {a0 : (Int × Int)} {a1 : (Int × Int)}  {r : ((Int × Int) × Bool)} (h : spec_raMul a0 a1 = some r) : Meets Try.prog 75 [.v (.agg #[.int .i64 a0.1, .int .i64 a0.2]), .v (.agg #[.int .i64 a1.1, .int .i64 a1.2])] { vals := [.p (.agg #[.int .i64 r.1.1, .int .i64 r.1.2]), .p (.bool r.2)] } := by
  refine Meets_ofL (by kernel_rfl) Try.func75 rfl (by kernel_rfl) (l0 := [(0, .p (.agg #[.int .i64 a0.1, .int .i64 a0.2])), (1, .p (.agg #[.int .i64 a1.1, .int .i64 a1.2]))]) (by kernel_rfl) ?_
  unfold spec_raMul at h
  refine k_sreg (r_go [(2, .box [.raw (.int .i64 a0.1), .raw (.int .i64 a0.2)]), (3, .box [.raw (.int .i64 a1.1), .raw (.int .i64 a1.2)]), (4, .box [.raw (.int .i64 0), .raw (.int .i64 0)])] [] [] (by kernel_rfl) trivial) ?_
  replace h := bind_some' h
  obtain ⟨v1, hv1, h⟩ := h
  refine k_sreg (r_go [(4, .box [.raw (.int .i64 v1.1.1), .raw (.int .i64 v1.1.2)]), (5, .p (.bool v1.2))] [(10, {call := some ([.v (.int .i64 (w64 (a0.1 * a1.1))), .v (.int .i64 (w64 (a0.2 * a1.2)))], [.p (.agg #[.int .i64 v1.1.1, .int .i64 v1.1.2]), .p (.bool v1.2)], true)})] [([.v (.int .i64 (w64 (a0.1 * a1.1))), .v (.int .i64 (w64 (a0.2 * a1.2)))] : List Arg) = [.v (.int .i64 (w64 (a0.1 * a1.1))), .v (.int .i64 (w64 (a0.2 * a1.2)))], Meets Try.prog 79 ([.v (.int .i64 (w64 (a0.1 * a1.1))), .v (.int .i64 (w64 (a0.2 * a1.2)))] ++ []) { vals := [.p (.agg #[.int .i64 v1.1.1, .int .i64 v1.1.2]), .p (.bool v1.2)] }, List.all [.p (.agg #[.int .i64 v1.1.1, .int .i64 v1.1.2]), .p (.bool v1.2)] simpleR = true] (by kernel_rfl) ⟨rfl, (wk_spec_raMake hv1), rfl, trivial⟩) ?_
  refine k_ret ?_
  obtain rfl := Option.some.inj h
  exact e_ret (ls := [(.p (.agg #[.int .i64 v1.1.1, .int .i64 v1.1.2]), 4), (.p (.bool v1.2), 5)]) (by kernel_rfl) rfl (by kernel_rfl) rfl
theorem wk_spec_raAdd {a0 : (Int × Int)} {a1 : (Int × Int)}  {r : ((Int × Int) × Bool)} (h : spec_raAdd a0 a1 = some r) : Meets Try.prog 76 [.v (.agg #[.int .i64 a0.1, .int .i64 a0.2]), .v (.agg #[.int .i64 a1.1, .int .i64 a1.2])] { vals := [.p (.agg #[.int .i64 r.1.1, .int .i64 r.1.2]), .p (.bool r.2)] } := by
  refine Meets_ofL (by kernel_rfl) Try.func76 rfl (by kernel_rfl) (l0 := [(0, .p (.agg #[.int .i64 a0.1, .int .i64 a0.2])), (1, .p (.agg #[.int .i64 a1.1, .int .i64 a1.2]))]) (by kernel_rfl) ?_
  unfold spec_raAdd at h
  refine k_sreg (r_go [(2, .box [.raw (.int .i64 a0.1), .raw (.int .i64 a0.2)]), (3, .box [.raw (.int .i64 a1.1), .raw (.int .i64 a1.2)]), (4, .box [.raw (.int .i64 0), .raw (.int .i64 0)])] [] [] (by kernel_rfl) trivial) ?_
  replace h := bind_some' h
  obtain ⟨v1, hv1, h⟩ := h
  refine k_sreg (r_go [(4, .box [.raw (.int .i64 v1.1.1), .raw (.int .i64 v1.1.2)]), (5, .p (.bool v1.2))] [(16, {call := some ([.v (.int .i64 (w64 ((w64 (a0.1 * a1.2)) + (w64 (a1.1 * a0.2))))), .v (.int .i64 (w64 (a0.2 * a1.2)))], [.p (.agg #[.int .i64 v1.1.1, .int .i64 v1.1.2]), .p (.bool v1.2)], true)})] [([.v (.int .i64 (w64 ((w64 (a0.1 * a1.2)) + (w64 (a1.1 * a0.2))))), .v (.int .i64 (w64 (a0.2 * a1.2)))] : List Arg) = [.v (.int .i64 (w64 ((w64 (a0.1 * a1.2)) + (w64 (a1.1 * a0.2))))), .v (.int .i64 (w64 (a0.2 * a1.2)))], Meets Try.prog 79 ([.v (.int .i64 (w64 ((w64 (a0.1 * a1.2)) + (w64 (a1.1 * a0.2))))), .v (.int .i64 (w64 (a0.2 * a1.2)))] ++ []) { vals := [.p (.agg #[.int .i64 v1.1.1, .int .i64 v1.1.2]), .p (.bool v1.2)] }, List.all [.p (.agg #[.int .i64 v1.1.1, .int .i64 v1.1.2]), .p (.bool v1.2)] simpleR = true] (by kernel_rfl) ⟨rfl, (wk_spec_raMake hv1), rfl, trivial⟩) ?_
  refine k_ret ?_
  obtain rfl := Option.some.inj h
  exact e_ret (ls := [(.p (.agg #[.int .i64 v1.1.1, .int .i64 v1.1.2]), 4), (.p (.bool v1.2), 5)]) (by kernel_rfl) rfl (by kernel_rfl) rfl
theorem wk_spec_imOn {a0 : ((Int × Int) × (Int × Int))} {a1 : ((Int × Int) × (Int × Int))} {a2 : (Int × Int)}  {r : ((Int × Int) × Bool)} (h : spec_imOn a0 a1 a2 = some r) : Meets Try.prog 60 [.v (.agg #[.int .i64 a0.1.1, .int .i64 a0.1.2, .int .i64 a0.2.1, .int .i64 a0.2.2]), .v (.agg #[.int .i64 a1.1.1, .int .i64 a1.1.2, .int .i64 a1.2.1, .int .i64 a1.2.2]), .v (.agg #[.int .i64 a2.1, .int .i64 a2.2])] { vals := [.p (.agg #[.int .i64 r.1.1, .int .i64 r.1.2]), .p (.bool r.2)] } := by
  refine Meets_ofL (by kernel_rfl) Try.func60 rfl (by kernel_rfl) (l0 := [(0, .p (.agg #[.int .i64 a0.1.1, .int .i64 a0.1.2, .int .i64 a0.2.1, .int .i64 a0.2.2])), (1, .p (.agg #[.int .i64 a1.1.1, .int .i64 a1.1.2, .int .i64 a1.2.1, .int .i64 a1.2.2])), (2, .p (.agg #[.int .i64 a2.1, .int .i64 a2.2]))]) (by kernel_rfl) ?_
  unfold spec_imOn at h
  refine k_sreg (r_go [(3, .box [.raw (.int .i64 a0.1.1), .raw (.int .i64 a0.1.2), .raw (.int .i64 a0.2.1), .raw (.int .i64 a0.2.2)]), (4, .box [.raw (.int .i64 a1.1.1), .raw (.int .i64 a1.1.2), .raw (.int .i64 a1.2.1), .raw (.int .i64 a1.2.2)]), (5, .box [.raw (.int .i64 a2.1), .raw (.int .i64 a2.2)]), (6, .box [.raw (.int .i64 0), .raw (.int .i64 0)])] [] [] (by kernel_rfl) trivial) ?_
  replace h := bind_some' h
  obtain ⟨v1, hv1, h⟩ := h
  refine k_sreg (r_go [(3, .box [.raw (.int .i64 a0.1.1), .raw (.int .i64 a0.1.2), .raw (.int .i64 a0.2.1), .raw (.int .i64 a0.2.2)]), (4, .box [.raw (.int .i64 a1.1.1), .raw (.int .i64 a1.1.2), .raw (.int .i64 a1.2.1), .raw (.int .i64 a1.2.2)]), (6, .box [.raw (.int .i64 0), .raw (.int .i64 0)]), (8, .box [.raw (.int .i64 v1.1.1), .raw (.int .i64 v1.1.2)]), (9, .p (.bool v1.2))] [(3, {call := some ([.v (.agg #[.int .i64 a2.1, .int .i64 a2.2]), .v (.agg #[.int .i64 a0.1.1, .int .i64 a0.1.2])], [.p (.agg #[.int .i64 v1.1.1, .int .i64 v1.1.2]), .p (.bool v1.2)], true)})] [([.v (.agg #[.int .i64 a2.1, .int .i64 a2.2]), .v (.agg #[.int .i64 a0.1.1, .int .i64 a0.1.2])] : List Arg) = [.v (.agg #[.int .i64 a2.1, .int .i64 a2.2]), .v (.agg #[.int .i64 a0.1.1, .int .i64 a0.1.2])], Meets Try.prog 62 ([.v (.agg #[.int .i64 a2.1, .int .i64 a2.2]), .v (.agg #[.int .i64 a0.1.1, .int .i64 a0.1.2])] ++ []) { vals := [.p (.agg #[.int .i64 v1.1.1, .int .i64 v1.1.2]), .p (.bool v1.2)] }, List.all [.p (.agg #[.int .i64 v1.1.1, .int .i64 v1.1.2]), .p (.bool v1.2)] simpleR = true] (by kernel_rfl) ⟨rfl, (wk_spec_raSub hv1), rfl, trivial⟩) ?_
  replace h := bind_some' h
  obtain ⟨v2, hv2, h⟩ := h
  replace h := bind_some' h
  obtain ⟨v3, hv3, h⟩ := h
  refine k_sreg (r_draw Try_mixed 10 [(9, 10)] [(3, .box [.raw (.int .i64 a0.1.1), .raw (.int .i64 a0.1.2), .raw (.int .i64 a0.2.1), .raw (.int .i64 a0.2.2)]), (6, .box [.raw (.int .i64 0), .raw (.int .i64 0)]), (9, .p (.bool v1.2)), (10, .box [.raw (.int .i64 v3.1.1), .raw (.int .i64 v3.1.2)]), (11, .p (.bool v3.2))] [(3, {call := some ([.v (.agg #[.int .i64 a0.1.1, .int .i64 a0.1.2, .int .i64 a0.2.1, .int .i64 a0.2.2]), .v (.agg #[.int .i64 a1.1.1, .int .i64 a1.1.2, .int .i64 a1.2.1, .int .i64 a1.2.2])], [.p (.agg #[.int .i64 v2.1, .int .i64 v2.2])], true)}), (4, {call := some ([.v (.agg #[.int .i64 v1.1.1, .int .i64 v1.1.2]), .v (.agg #[.int .i64 v2.1, .int .i64 v2.2])], [.p (.agg #[.int .i64 v3.1.1, .int .i64 v3.1.2]), .p (.bool v3.2)], true)})] [([.v (.agg #[.int .i64 a0.1.1, .int .i64 a0.1.2, .int .i64 a0.2.1, .int .i64 a0.2.2]), .v (.agg #[.int .i64 a1.1.1, .int .i64 a1.1.2, .int .i64 a1.2.1, .int .i64 a1.2.2])] : List Arg) = [.v (.agg #[.int .i64 a0.1.1, .int .i64 a0.1.2, .int .i64 a0.2.1, .int .i64 a0.2.2]), .v (.agg #[.int .i64 a1.1.1, .int .i64 a1.1.2, .int .i64 a1.2.1, .int .i64 a1.2.2])], Meets Try.prog 52 ([.v (.agg #[.int .i64 a0.1.1, .int .i64 a0.1.2, .int .i64 a0.2.1, .int .i64 a0.2.2]), .v (.agg #[.int .i64 a1.1.1, .int .i64 a1.1.2, .int .i64 a1.2.1, .int .i64 a1.2.2])] ++ []) { vals := [.p (.agg #[.int .i64 v2.1, .int .i64 v2.2])] }, List.all [.p (.agg #[.int .i64 v2.1, .int .i64 v2.2])] simpleR = true, ([.v (.agg #[.int .i64 v1.1.1, .int .i64 v1.1.2]), .v (.agg #[.int .i64 v2.1, .int .i64 v2.2])] : List Arg) = [.v (.agg #[.int .i64 v1.1.1, .int .i64 v1.1.2]), .v (.agg #[.int .i64 v2.1, .int .i64 v2.2])], Meets Try.prog 75 ([.v (.agg #[.int .i64 v1.1.1, .int .i64 v1.1.2]), .v (.agg #[.int .i64 v2.1, .int .i64 v2.2])] ++ []) { vals := [.p (.agg #[.int .i64 v3.1.1, .int .i64 v3.1.2]), .p (.bool v3.2)] }, List.all [.p (.agg #[.int .i64 v3.1.1, .int .i64 v3.1.2]), .p (.bool v3.2)] simpleR = true] (by kernel_rfl) ⟨rfl, (wk_spec_imSlope hv2), rfl, rfl, (wk_spec_raMul hv3), rfl, trivial⟩) ?_
  refine k_seq ?_
  refine k_sreg (l1 := [(3, .box [.raw (.int .i64 a0.1.1), .raw (.int .i64 a0.1.2), .raw (.int .i64 a0.2.1), .raw (.int .i64 a0.2.2)]), (6, .box [.raw (.int .i64 0), .raw (.int .i64 0)]), (10, .box [.raw (.int .i64 v3.1.1), .raw (.int .i64 v3.1.2)]), (32, .p (.bool ((!v1.2) || (!v3.2))))]) ?_ ?_
  · rcases Bool.eq_false_or_eq_true (!v1.2) with ha0 | ha0
    · exact RegOk.of_eq (l2 := [(3, .box [.raw (.int .i64 a0.1.1), .raw (.int .i64 a0.1.2), .raw (.int .i64 a0.2.1), .raw (.int .i64 a0.2.2)]), (6, .box [.raw (.int .i64 0), .raw (.int .i64 0)]), (10, .box [.raw (.int .i64 v3.1.1), .raw (.int .i64 v3.1.2)]), (32, .p (.bool ((!v1.2) || (!v3.2))))]) (r_go [(3, .box [.raw (.int .i64 a0.1.1), .raw (.int .i64 a0.1.2), .raw (.int .i64 a0.2.1), .raw (.int .i64 a0.2.2)]), (6, .box [.raw (.int .i64 0), .raw (.int .i64 0)]), (10, .box [.raw (.int .i64 v3.1.1), .raw (.int .i64 v3.1.2)]), (32, .p (.bool true))] [(3, {g := some true}), (4, {g := some true}), (5, {b := some true})] [(!v1.2) = true, (!v1.2) = true, (!v1.2) = true] (by kernel_rfl) ⟨ha0, ha0, ha0, trivial⟩) (by simp [ha0])
    · exact RegOk.of_eq (l2 := [(3, .box [.raw (.int .i64 a0.1.1), .raw (.int .i64 a0.1.2), .raw (.int .i64 a0.2.1), .raw (.int .i64 a0.2.2)]), (6, .box [.raw (.int .i64 0), .raw (.int .i64 0)]), (10, .box [.raw (.int .i64 v3.1.1), .raw (.int .i64 v3.1.2)]), (32, .p (.bool ((!v1.2) || (!v3.2))))]) (r_go [(3, .box [.raw (.int .i64 a0.1.1), .raw (.int .i64 a0.1.2), .raw (.int .i64 a0.2.1), .raw (.int .i64 a0.2.2)]), (6, .box [.raw (.int .i64 0), .raw (.int .i64 0)]), (10, .box [.raw (.int .i64 v3.1.1), .raw (.int .i64 v3.1.2)]), (32, .p (.bool (!v3.2)))] [(3, {g := some false}), (4, {g := some false}), (5, {b := some false})] [(!v1.2) = false, (!v1.2) = false, (!v1.2) = false] (by kernel_rfl) ⟨ha0, ha0, ha0, trivial⟩) (by simp [ha0])
  · refine k_cond (b := ((!v1.2) || (!v3.2))) (by kernel_rfl) (fun hc2_3 => ?_) (fun hc2_3 => ?_)
    · replace h := ite_t hc2_3 h
      refine k_sreg (r_go [(6, .box [.raw (.int .i64 0), .raw (.int .i64 0)]), (7, .p (.bool false))] [] [] (by kernel_rfl) trivial) ?_
      refine k_ret ?_
      refine q_r ?_
      obtain rfl := Option.some.inj h
      exact e_ret (ls := [(.p (.agg #[.int .i64 0, .int .i64 0]), 6), (.p (.bool false), 7)]) (by kernel_rfl) rfl (by kernel_rfl) rfl
    · replace h := ite_f hc2_3 h
      refine k_skip ?_
      refine q_n ?_
      replace h := bind_some' h
      obtain ⟨v5, hv5, h⟩ := h
      refine k_sreg (r_go [(6, .box [.raw (.int .i64 v5.1.1), .raw (.int .i64 v5.1.2)]), (7, .p (.bool v5.2))] [(3, {call := some ([.v (.agg #[.int .i64 a0.2.1, .int .i64 a0.2.2]), .v (.agg #[.int .i64 v3.1.1, .int .i64 v3.1.2])], [.p (.agg #[.int .i64 v5.1.1, .int .i64 v5.1.2]), .p (.bool v5.2)], true)})] [([.v (.agg #[.int .i64 a0.2.1, .int .i64 a0.2.2]), .v (.agg #[.int .i64 v3.1.1, .int .i64 v3.1.2])] : List Arg) = [.v (.agg #[.int .i64 a0.2.1, .int .i64 a0.2.2]), .v (.agg #[.int .i64 v3.1.1, .int .i64 v3.1.2])], Meets Try.prog 76 ([.v (.agg #[.int .i64 a0.2.1, .int .i64 a0.2.2]), .v (.agg #[.int .i64 v3.1.1, .int .i64 v3.1.2])] ++ []) { vals := [.p (.agg #[.int .i64 v5.1.1, .int .i64 v5.1.2]), .p (.bool v5.2)] }, List.all [.p (.agg #[.int .i64 v5.1.1, .int .i64 v5.1.2]), .p (.bool v5.2)] simpleR = true] (by kernel_rfl) ⟨rfl, (wk_spec_raAdd hv5), rfl, trivial⟩) ?_
      refine k_ret ?_
      obtain rfl := Option.some.inj h
      exact e_ret (ls := [(.p (.agg #[.int .i64 v5.1.1, .int .i64 v5.1.2]), 6), (.p (.bool v5.2), 7)]) (by kernel_rfl) rfl (by kernel_rfl) rfl
theorem wk_spec_imAt {a0 : (List ((Int × Int) × (Int × Int)))} {a1 : (Int × Int)}  {r : ((Int × Int) × Bool)} (h : spec_imAt a0 a1 = some r) : Meets Try.prog 50 [.d false [.sl none (a0.map (eP (eP eI eI) (eP eI eI)))], .v (.agg #[.int .i64 a1.1, .int .i64 a1.2])] { vals := [.p (.agg #[.int .i64 r.1.1, .int .i64 r.1.2]), .p (.bool r.2)] } := by
  refine Meets_ofL (by kernel_rfl) Try.func50 rfl (by kernel_rfl) (l0 := [(0, .d false [.sl none (a0.map (eP (eP eI eI) (eP eI eI)))]), (1, .p (.agg #[.int .i64 a1.1, .int .i64 a1.2]))]) (by kernel_rfl) ?_
  unfold spec_imAt at h
  refine k_sreg (r_go [(0, .d false [.sl none (a0.map (eP (eP eI eI) (eP eI eI)))]), (3, .box [.raw (.int .i64 a1.1), .raw (.int .i64 a1.2)]), (4, .box [.raw (.int .i64 0), .raw (.int .i64 0)])] [] [] (by kernel_rfl) trivial) ?_
  replace h := bind_some' h
  obtain ⟨v1, hv1, h⟩ := h
  refine k_sreg (r_go [(0, .d false [.sl none (a0.map (eP (eP eI eI) (eP eI eI)))]), (3, .box [.raw (.int .i64 a1.1), .raw (.int .i64 a1.2)]), (4, .box [.raw (.int .i64 0), .raw (.int .i64 0)]), (6, .p (.int .i64 v1))] [(2, {call := some ([.d false [.sl none (a0.map (eP (eP eI eI) (eP eI eI)))], .v (.agg #[.int .i64 a1.1, .int .i64 a1.2])], [.p (.int .i64 v1)], true)})] [([.d false [.sl none (a0.map (eP (eP eI eI) (eP eI eI)))], .v (.agg #[.int .i64 a1.1, .int .i64 a1.2])] : List Arg) = [.d false [.sl none (a0.map (eP (eP eI eI) (eP eI eI)))], .v (.agg #[.int .i64 a1.1, .int .i64 a1.2])], Meets Try.prog 59 ([.d false [.sl none (a0.map (eP (eP eI eI) (eP eI eI)))], .v (.agg #[.int .i64 a1.1, .int .i64 a1.2])] ++ []) { vals := [.p (.int .i64 v1)] }, List.all [.p (.int .i64 v1)] simpleR = true] (by kernel_rfl) ⟨rfl, (wk_spec_imPiece hv1), rfl, trivial⟩) ?_
  replace h := bind_some' h
  obtain ⟨v2, hv2, h⟩ := h
  replace h := bind_some' h
  obtain ⟨v3, hv3, h⟩ := h
  replace h := bind_some' h
  obtain ⟨v4, hv4, h⟩ := h
  refine k_sreg (r_draw Try_mixed 13 [] [(4, .box [.raw (.int .i64 v4.1.1), .raw (.int .i64 v4.1.2)]), (5, .p (.bool v4.2))] [(2, {row := some [.raw (.int .i64 v2.1.1), .raw (.int .i64 v2.1.2), .raw (.int .i64 v2.2.1), .raw (.int .i64 v2.2.2)]}), (7, {row := some [.raw (.int .i64 v3.1.1), .raw (.int .i64 v3.1.2), .raw (.int .i64 v3.2.1), .raw (.int .i64 v3.2.2)]}), (10, {call := some ([.v (.agg #[.int .i64 v2.1.1, .int .i64 v2.1.2, .int .i64 v2.2.1, .int .i64 v2.2.2]), .v (.agg #[.int .i64 v3.1.1, .int .i64 v3.1.2, .int .i64 v3.2.1, .int .i64 v3.2.2]), .v (.agg #[.int .i64 a1.1, .int .i64 a1.2])], [.p (.agg #[.int .i64 v4.1.1, .int .i64 v4.1.2]), .p (.bool v4.2)], true)})] [0 ≤ v1, (a0.map (eP (eP eI eI) (eP eI eI)))[(Int.toNat v1)]? = some [.raw (.int .i64 v2.1.1), .raw (.int .i64 v2.1.2), .raw (.int .i64 v2.2.1), .raw (.int .i64 v2.2.2)], 0 ≤ (w64 (v1 + 1)), (a0.map (eP (eP eI eI) (eP eI eI)))[(Int.toNat (w64 (v1 + 1)))]? = some [.raw (.int .i64 v3.1.1), .raw (.int .i64 v3.1.2), .raw (.int .i64 v3.2.1), .raw (.int .i64 v3.2.2)], ([.v (.agg #[.int .i64 v2.1.1, .int .i64 v2.1.2, .int .i64 v2.2.1, .int .i64 v2.2.2]), .v (.agg #[.int .i64 v3.1.1, .int .i64 v3.1.2, .int .i64 v3.2.1, .int .i64 v3.2.2]), .v (.agg #[.int .i64 a1.1, .int .i64 a1.2])] : List Arg) = [.v (.agg #[.int .i64 v2.1.1, .int .i64 v2.1.2, .int .i64 v2.2.1, .int .i64 v2.2.2]), .v (.agg #[.int .i64 v3.1.1, .int .i64 v3.1.2, .int .i64 v3.2.1, .int .i64 v3.2.2]), .v (.agg #[.int .i64 a1.1, .int .i64 a1.2])], Meets Try.prog 60 ([.v (.agg #[.int .i64 v2.1.1, .int .i64 v2.1.2, .int .i64 v2.2.1, .int .i64 v2.2.2]), .v (.agg #[.int .i64 v3.1.1, .int .i64 v3.1.2, .int .i64 v3.2.1, .int .i64 v3.2.2]), .v (.agg #[.int .i64 a1.1, .int .i64 a1.2])] ++ []) { vals := [.p (.agg #[.int .i64 v4.1.1, .int .i64 v4.1.2]), .p (.bool v4.2)] }, List.all [.p (.agg #[.int .i64 v4.1.1, .int .i64 v4.1.2]), .p (.bool v4.2)] simpleR = true] (by kernel_rfl) ⟨(idxO_some hv2).1, (map_get (eP (eP eI eI) (eP eI eI)) (idxO_some hv2).2), (idxO_some hv3).1, (map_get (eP (eP eI eI) (eP eI eI)) (idxO_some hv3).2), rfl, (wk_spec_imOn hv4), rfl, trivial⟩) ?_
  refine k_ret ?_
  obtain rfl := Option.some.inj h
  exact e_ret (ls := [(.p (.agg #[.int .i64 v4.1.1, .int .i64 v4.1.2]), 4), (.p (.bool v4.2), 5)]) (by kernel_rfl) rfl (by kernel_rfl) rfl
theorem wk_spec_orRun {a0 : (List ((Int × Int) × (Int × Int)))} {a1 : (Int × Int)} {a2 : Int}  {r : (List (Int × Int))} (h : spec_orRun a0 a1 a2 = some r) : Meets Try.prog 40 [.d false [.sl none (a0.map (eP (eP eI eI) (eP eI eI)))], .v (.agg #[.int .i64 a1.1, .int .i64 a1.2]), .v (.int .i64 a2)] { vals := [.ov false [.sl (some 39) (r.map (eP eI eI))]] } := by
  refine Meets_ofL (by kernel_rfl) Try.func40 rfl (by kernel_rfl) (l0 := [(0, .d false [.sl none (a0.map (eP (eP eI eI) (eP eI eI)))]), (1, .p (.agg #[.int .i64 a1.1, .int .i64 a1.2])), (2, .p (.int .i64 a2))]) (by kernel_rfl) ?_
  unfold spec_orRun at h
  refine k_sreg (r_go [(0, .d false [.sl none (a0.map (eP (eP eI eI) (eP eI eI)))]), (2, .p (.int .i64 a2)), (4, .box [.raw (.int .i64 a1.1), .raw (.int .i64 a1.2)])] [] [] (by kernel_rfl) trivial) ?_
  refine k_sreg (r_go [(0, .d false [.sl none (a0.map (eP (eP eI eI) (eP eI eI)))]), (2, .p (.int .i64 a2)), (7, .ov false [.sl (some 39) (([a1]).map (eP eI eI))])] [] [] (by kernel_rfl) trivial) ?_
  refine k_join (J := fun (x : (List (Int × Int))) => [(7, .ov false [.sl (some 39) (x.map (eP eI eI))])]) (K := fun x => spec_orRun_k1 x = some r) (fun x1 h => ?_) ?_
  · unfold spec_orRun_k1 at h
    refine k_sreg (r_go [(6, .ov false [.sl (some 39) (x1.map (eP eI eI))])] [] [] (by kernel_rfl) trivial) ?_
    refine k_ret ?_
    obtain rfl := Option.some.inj h
    exact e_ret (ls := [(.ov false [.sl (some 39) (x1.map (eP eI eI))], 6)]) (by kernel_rfl) rfl (by kernel_rfl) rfl
  · refine k_block ?_
    obtain ⟨y3, hl_x2, hk_x2⟩ := bind_some' h
    clear h
    refine k_loop (J := fun (x : (List (Int × Int))) => [(0, .d false [.sl none (a0.map (eP (eP eI eI) (eP eI eI)))]), (2, .p (.int .i64 a2)), (7, .ov false [.sl (some 39) (x.map (eP eI eI))])]) hl_x2 (wk_of (by kernel_rfl) (by kernel_rfl)) (fun x2 o_x2 h hy_x2 => ?_)
    unfold spec_orRun_b1 at h
    refine k_seq ?_
    refine k_sreg (r_go [(0, .d false [.sl none (a0.map (eP (eP eI eI) (eP eI eI)))]), (2, .p (.int .i64 a2)), (7, .ov false [.sl (some 39) (x2.map (eP eI eI))]), (15, .p (.bool (decide ((x2.length : Int) ≤ a2))))] [(1, {n := some x2.length})] [(x2.map (eP eI eI)).length = x2.length] (by kernel_rfl) ⟨(List.length_map ..), trivial⟩) ?_
    refine k_cond (b := (decide ((x2.length : Int) ≤ a2))) (by kernel_rfl) (fun hc5_3 => ?_) (fun hc5_3 => ?_)
    · replace h := ite_t hc5_3 h
      refine k_skip ?_
      refine q_n ?_
      refine k_block ?_
      replace h := bind_some' h
      obtain ⟨v5, hv5, h⟩ := h
      replace h := bind_some' h
      obtain ⟨v6, hv6, h⟩ := h
      refine k_sreg (r_go [(0, .d false [.sl none (a0.map (eP (eP eI eI) (eP eI eI)))]), (2, .p (.int .i64 a2)), (7, .ov false [.sl (some 39) (x2.map (eP eI eI))]), (8, .box [.raw (.int .i64 v6.1.1), .raw (.int .i64 v6.1.2)]), (9, .p (.bool v6.2))] [(3, {n := some x2.length}), (5, {row := some [.raw (.int .i64 v5.1), .raw (.int .i64 v5.2)]}), (6, {row := some [.raw (.int .i64 v5.1), .raw (.int .i64 v5.2)]}), (7, {call := some ([.d false [.sl none (a0.map (eP (eP eI eI) (eP eI eI)))], .v (.agg #[.int .i64 v5.1, .int .i64 v5.2])], [.p (.agg #[.int .i64 v6.1.1, .int .i64 v6.1.2]), .p (.bool v6.2)], true)})] [(x2.map (eP eI eI)).length = x2.length, 0 ≤ (w64 ((x2.length : Int) - 1)), (x2.map (eP eI eI))[(Int.toNat (w64 ((x2.length : Int) - 1)))]? = some [.raw (.int .i64 v5.1), .raw (.int .i64 v5.2)], getRow [[.sl (some 39) (x2.map (eP eI eI))]] [(0, 0), ((Int.toNat (w64 ((x2.length : Int) - 1))), 0)] = some [.raw (.int .i64 v5.1), .raw (.int .i64 v5.2)], ([.d false [.sl none (a0.map (eP (eP eI eI) (eP eI eI)))], .v (.agg #[.int .i64 v5.1, .int .i64 v5.2])] : List Arg) = [.d false [.sl none (a0.map (eP (eP eI eI) (eP eI eI)))], .v (.agg #[.int .i64 v5.1, .int .i64 v5.2])], Meets Try.prog 50 ([.d false [.sl none (a0.map (eP (eP eI eI) (eP eI eI)))], .v (.agg #[.int .i64 v5.1, .int .i64 v5.2])] ++ []) { vals := [.p (.agg #[.int .i64 v6.1.1, .int .i64 v6.1.2]), .p (.bool v6.2)] }, List.all [.p (.agg #[.int .i64 v6.1.1, .int .i64 v6.1.2]), .p (.bool v6.2)] simpleR = true] (by kernel_rfl) ⟨(List.length_map ..), (idxO_some hv5).1, (map_get (eP eI eI) (idxO_some hv5).2), ((gr0 rfl).trans (gre (map_get (eP eI eI) (idxO_some hv5).2))), rfl, (wk_spec_imAt hv6), rfl, trivial⟩) ?_
      refine k_seq ?_
      refine k_sreg (r_go [(0, .d false [.sl none (a0.map (eP (eP eI eI) (eP eI eI)))]), (2, .p (.int .i64 a2)), (7, .ov false [.sl (some 39) (x2.map (eP eI eI))]), (8, .box [.raw (.int .i64 v6.1.1), .raw (.int .i64 v6.1.2)]), (28, .p (.bool (!v6.2)))] [] [] (by kernel_rfl) trivial) ?_
      refine k_cond (b := (!v6.2)) (by kernel_rfl) (fun hc6_6 => ?_) (fun hc6_6 => ?_)
      · replace h := ite_t hc6_6 h
        refine k_sreg (r_go [(6, .ov false [.sl (some 39) (x2.map (eP eI eI))])] [] [] (by kernel_rfl) trivial) ?_
        refine k_ret ?_
        refine q_r ?_
        refine b_r ?_
        refine lq_r ?_
        refine b_r ?_
        refine q_r ?_
        have hyy := hy_x2 _ (Option.some.inj h).symm
        subst hyy
        have h := hk_x2
        dsimp only [Sum.elim] at h
        obtain rfl := Option.some.inj h
        exact e_ret (ls := [(.ov false [.sl (some 39) (x2.map (eP eI eI))], 6)]) (by kernel_rfl) rfl (by kernel_rfl) rfl
      · replace h := ite_f hc6_6 h
        refine k_skip ?_
        refine q_n ?_
        replace h := bind_some' h
        obtain ⟨u8, hu8, h⟩ := h
        refine k_reg (r_go [(0, .d false [.sl none (a0.map (eP (eP eI eI) (eP eI eI)))]), (2, .p (.int .i64 a2)), (7, .ov false [.sl (some 39) ((x2 ++ [v6.1]).map (eP eI eI))])] [(3, {fix := some (33, .ov false [.sl (some 39) ((x2 ++ [v6.1]).map (eP eI eI))])})] [List.length ((x2.map (eP eI eI)) : List (List C)) + List.length ((([v6.1]).map (eP eI eI)) : List (List C)) ≤ 1099511627776, ∀ row ∈ ((([v6.1]).map (eP eI eI)) : List (List C)), row.length = 2, (SV.ov false [.sl (some 39) ((x2.map (eP eI eI)) ++ (([v6.1]).map (eP eI eI)))] : SV) = .ov false [.sl (some 39) ((x2 ++ [v6.1]).map (eP eI eI))]] (by kernel_rfl) ⟨(by have hg := (guardO_some hu8); simpa using hg), (rows_len fun _ => rfl), (congrArg (fun z => SV.ov false [.sl (some 39) z]) (List.map_append ..).symm), trivial⟩) ?_
        refine b_n ?_
        exact lq_n (x2 ++ [v6.1]) (Option.some.inj h).symm (wk_of (by kernel_rfl) (by kernel_rfl))
    · replace h := ite_f hc5_3 h
      refine k_exit ?_
      refine q_x ?_
      refine lq_x ?_
      refine b_x ?_
      have hyy := hy_x2 _ (Option.some.inj h).symm
      subst hyy
      have h := hk_x2
      dsimp only [Sum.elim] at h
      refine q_n ?_
      exact ⟨x2, h, (wk_of (by kernel_rfl) (by kernel_rfl))⟩
theorem wk_spec_knValues {a0 : (List ((Int × Int) × (Int × Int)))} {a1 : Int}  {r : ((List (Int × Int)) × Bool)} (h : spec_knValues a0 a1 = some r) : Meets Try.prog 25 [.d false [.sl none (a0.map (eP (eP eI eI) (eP eI eI)))], .v (.int .i64 a1)] { vals := [.d false [.sl none (r.1.map (eP eI eI))], .p (.bool r.2)] } := by
  refine Meets_ofL (by kernel_rfl) Try.func25 rfl (by kernel_rfl) (l0 := [(0, .d false [.sl none (a0.map (eP (eP eI eI) (eP eI eI)))]), (1, .p (.int .i64 a1))]) (by kernel_rfl) ?_
  unfold spec_knValues at h
  refine k_sreg (r_go [(0, .d false [.sl none (a0.map (eP (eP eI eI) (eP eI eI)))]), (1, .p (.int .i64 a1))] [(1, {pre := some (4, .d false [.sl none []])})] [(SV.d false (eraR [.sl (some 39) []]) : SV) = .d false [.sl none []]] (by kernel_rfl) ⟨(congrArg (fun z => SV.d false z) (erc_sl rfl rfl)), trivial⟩) ?_
  replace h := bind_some' h
  obtain ⟨v1, hv1, h⟩ := h
  replace h := bind_some' h
  obtain ⟨v2, hv2, h⟩ := h
  refine k_sreg (r_go [(1, .p (.int .i64 a1)), (6, .d false [.sl none (v2.map (eP eI eI))])] [(2, {call := some ([.d false [.sl none (a0.map (eP (eP eI eI) (eP eI eI)))]], [.p (.agg #[.int .i64 v1.1, .int .i64 v1.2])], true)}), (4, {call := some ([.d false [.sl none (a0.map (eP (eP eI eI) (eP eI eI)))], .v (.agg #[.int .i64 v1.1, .int .i64 v1.2]), .v (.int .i64 a1)], [.ov false [.sl (some 39) (v2.map (eP eI eI))]], true)}), (5, {pre := some (11, .d false [.sl none (v2.map (eP eI eI))])})] [([.d false [.sl none (a0.map (eP (eP eI eI) (eP eI eI)))]] : List Arg) = [.d false [.sl none (a0.map (eP (eP eI eI) (eP eI eI)))]], Meets Try.prog 33 ([.d false [.sl none (a0.map (eP (eP eI eI) (eP eI eI)))]] ++ []) { vals := [.p (.agg #[.int .i64 v1.1, .int .i64 v1.2])] }, List.all [.p (.agg #[.int .i64 v1.1, .int .i64 v1.2])] simpleR = true, ([.d false [.sl none (a0.map (eP (eP eI eI) (eP eI eI)))], .v (.agg #[.int .i64 v1.1, .int .i64 v1.2]), .v (.int .i64 a1)] : List Arg) = [.d false [.sl none (a0.map (eP (eP eI eI) (eP eI eI)))], .v (.agg #[.int .i64 v1.1, .int .i64 v1.2]), .v (.int .i64 a1)], Meets Try.prog 40 ([.d false [.sl none (a0.map (eP (eP eI eI) (eP eI eI)))], .v (.agg #[.int .i64 v1.1, .int .i64 v1.2]), .v (.int .i64 a1)] ++ []) { vals := [.ov false [.sl (some 39) (v2.map (eP eI eI))]] }, List.all [.ov false [.sl (some 39) (v2.map (eP eI eI))]] simpleR = true, (SV.d false (eraR [.sl (some 39) (v2.map (eP eI eI))]) : SV) = .d false [.sl none (v2.map (eP eI eI))]] (by kernel_rfl) ⟨rfl, (wk_spec_knCentre hv1), rfl, rfl, (wk_spec_orRun hv2), (sa_o (wnR1 (wnL_enc (wn_P wn_I wn_I)) rfl) rfl), (congrArg (fun z => SV.d false z) (erc_sl (eraL_enc (era_P er_I er_I)) rfl)), trivial⟩) ?_
  refine k_seq ?_
  refine k_sreg (r_go [(6, .d false [.sl none (v2.map (eP eI eI))]), (15, .p (.bool (decide ((v2.length : Int) ≤ a1))))] [(1, {n := some v2.length})] [(v2.map (eP eI eI)).length = v2.length] (by kernel_rfl) ⟨(List.length_map ..), trivial⟩) ?_
  refine k_cond (b := (decide ((v2.length : Int) ≤ a1))) (by kernel_rfl) (fun hc2_2 => ?_) (fun hc2_2 => ?_)
  · replace h := ite_t hc2_2 h
    refine k_sreg (r_go [(4, .d false [.sl none []]), (5, .p (.bool false))] [(1, {pre := some (4, .d false [.sl none []])})] [(SV.d false (eraR [.sl (some 39) []]) : SV) = .d false [.sl none []]] (by kernel_rfl) ⟨(congrArg (fun z => SV.d false z) (erc_sl rfl rfl)), trivial⟩) ?_
    refine k_ret ?_
    refine q_r ?_
    obtain rfl := Option.some.inj h
    exact e_ret (ls := [(.d false [.sl none []], 4), (.p (.bool false), 5)]) (by kernel_rfl) rfl (by kernel_rfl) rfl
  · replace h := ite_f hc2_2 h
    refine k_skip ?_
    refine q_n ?_
    replace h := bind_some' h
    obtain ⟨u4, hu4, h⟩ := h
    refine k_sreg (r_go [(4, .d false [.sl none ((v2.drop (Int.toNat 1)).map (eP eI eI))]), (5, .p (.bool true))] [(1, {fix := some (17, .d false [.sl none ((v2.drop (Int.toNat 1)).map (eP eI eI))])})] [(Int.toNat 1) ≤ (v2.map (eP eI eI)).length, (v2.map (eP eI eI)).length ≤ (v2.map (eP eI eI)).length, ∀ row ∈ (v2.map (eP eI eI)), row.length = 2, (0 : Int) ≤ 1, (SV.d false [.sl none (((v2.map (eP eI eI)).take (v2.map (eP eI eI)).length).drop (Int.toNat 1))] : SV) = .d false [.sl none ((v2.drop (Int.toNat 1)).map (eP eI eI))]] (by kernel_rfl) ⟨(by have hg := (guardO_some hu4); first | (simp only [List.length_map]; omega) | omega), (Nat.le_refl _), (rows_len fun _ => rfl), (by have hg := (guardO_some hu4); omega), (congrArg (fun z => SV.d false [.sl none z]) sl_lo), trivial⟩) ?_
    refine k_ret ?_
    obtain rfl := Option.some.inj h
    exact e_ret (ls := [(.d false [.sl none ((v2.drop (Int.toNat 1)).map (eP eI eI))], 4), (.p (.bool true), 5)]) (by kernel_rfl) rfl (by kernel_rfl) rfl
theorem wk_spec_TurningValues {a0 : (List ((Int × Int) × (Int × Int)))} {a1 : Int}  {r : ((List (Int × Int)) × Bool)} (h : spec_TurningValues a0 a1 = some r) : Meets Try.prog 10 [.d false [.sl none (a0.map (eP (eP eI eI) (eP eI eI)))], .v (.int .i64 a1)] { vals := [.d false [.sl none (r.1.map (eP eI eI))], .p (.bool r.2)] } := by
  refine Meets_ofL (by kernel_rfl) Try.func10 rfl (by kernel_rfl) (l0 := [(0, .d false [.sl none (a0.map (eP (eP eI eI) (eP eI eI)))]), (1, .p (.int .i64 a1))]) (by kernel_rfl) ?_
  unfold spec_TurningValues at h
  refine k_sreg (r_go [(0, .d false [.sl none (a0.map (eP (eP eI eI) (eP eI eI)))]), (1, .p (.int .i64 a1))] [(1, {pre := some (4, .d false [.sl none []])})] [(SV.d false (eraR [.sl (some 39) []]) : SV) = .d false [.sl none []]] (by kernel_rfl) ⟨(congrArg (fun z => SV.d false z) (erc_sl rfl rfl)), trivial⟩) ?_
  refine k_seq ?_
  replace h := bind_some' h
  obtain ⟨v1, hv1, h⟩ := h
  replace h := bind_some' h
  obtain ⟨w3, hw3, h⟩ := h
  refine k_sreg (l1 := [(0, .d false [.sl none (a0.map (eP (eP eI eI) (eP eI eI)))]), (1, .p (.int .i64 a1)), (13, .p (.bool w3))]) ?_ ?_
  · clear h
    rcases Bool.eq_false_or_eq_true (!v1) with ha0 | ha0
    · replace hw3 := ite_t ha0 hw3
      have hw3 := Option.some.inj hw3
      subst hw3
      exact (r_go [(0, .d false [.sl none (a0.map (eP (eP eI eI) (eP eI eI)))]), (1, .p (.int .i64 a1)), (13, .p (.bool true))] [(1, {call := some ([.d false [.sl none (a0.map (eP (eP eI eI) (eP eI eI)))]], [.p (.bool v1)], true)}), (4, {g := some true}), (5, {g := some true}), (6, {g := some true}), (7, {b := some true})] [([.d false [.sl none (a0.map (eP (eP eI eI) (eP eI eI)))]] : List Arg) = [.d false [.sl none (a0.map (eP (eP eI eI) (eP eI eI)))]], Meets Try.prog 16 ([.d false [.sl none (a0.map (eP (eP eI eI) (eP eI eI)))]] ++ []) { vals := [.p (.bool v1)] }, List.all [.p (.bool v1)] simpleR = true, (!v1) = true, (!v1) = true, (!v1) = true, (!v1) = true] (by kernel_rfl) ⟨rfl, (wk_spec_knLaps hv1), rfl, ha0, ha0, ha0, ha0, trivial⟩)
    · replace hw3 := ite_f ha0 hw3
      replace hw3 := bind_some' hw3
      obtain ⟨v2, hv2, hw3⟩ := hw3
      have hw3 := Option.some.inj hw3
      subst hw3
      exact (r_go [(0, .d false [.sl none (a0.map (eP (eP eI eI) (eP eI eI)))]), (1, .p (.int .i64 a1)), (13, .p (.bool (!v2)))] [(1, {call := some ([.d false [.sl none (a0.map (eP (eP eI eI) (eP eI eI)))]], [.p (.bool v1)], true)}), (4, {g := some false}), (5, {g := some false, call := some ([.v (.int .i64 a1)], [.p (.bool v2)], true)}), (6, {g := some false}), (7, {b := some false})] [([.d false [.sl none (a0.map (eP (eP eI eI) (eP eI eI)))]] : List Arg) = [.d false [.sl none (a0.map (eP (eP eI eI) (eP eI eI)))]], Meets Try.prog 16 ([.d false [.sl none (a0.map (eP (eP eI eI) (eP eI eI)))]] ++ []) { vals := [.p (.bool v1)] }, List.all [.p (.bool v1)] simpleR = true, (!v1) = false, (!v1) = false, ([.v (.int .i64 a1)] : List Arg) = [.v (.int .i64 a1)], Meets Try.prog 17 ([.v (.int .i64 a1)] ++ []) { vals := [.p (.bool v2)] }, List.all [.p (.bool v2)] simpleR = true, (!v1) = false, (!v1) = false] (by kernel_rfl) ⟨rfl, (wk_spec_knLaps hv1), rfl, ha0, ha0, rfl, (wk_spec_knLength hv2), rfl, ha0, ha0, trivial⟩)
  · refine k_cond (b := w3) (by kernel_rfl) (fun hc2_3 => ?_) (fun hc2_3 => ?_)
    · replace h := ite_t hc2_3 h
      refine k_sreg (r_go [(4, .d false [.sl none []]), (5, .p (.bool false))] [(1, {pre := some (4, .d false [.sl none []])})] [(SV.d false (eraR [.sl (some 39) []]) : SV) = .d false [.sl none []]] (by kernel_rfl) ⟨(congrArg (fun z => SV.d false z) (erc_sl rfl rfl)), trivial⟩) ?_
      refine k_ret ?_
      refine q_r ?_
      obtain rfl := Option.some.inj h
      exact e_ret (ls := [(.d false [.sl none []], 4), (.p (.bool false), 5)]) (by kernel_rfl) rfl (by kernel_rfl) rfl
    · replace h := ite_f hc2_3 h
      refine k_skip ?_
      refine q_n ?_
      replace h := bind_some' h
      obtain ⟨v5, hv5, h⟩ := h
      refine k_sreg (r_go [(4, .d false [.sl none (v5.1.map (eP eI eI))]), (5, .p (.bool v5.2))] [(2, {call := some ([.d false [.sl none (a0.map (eP (eP eI eI) (eP eI eI)))], .v (.int .i64 a1)], [.d false [.sl none (v5.1.map (eP eI eI))], .p (.bool v5.2)], false)})] [([.d false [.sl none (a0.map (eP (eP eI eI) (eP eI eI)))], .v (.int .i64 a1)] : List Arg) = [.d false [.sl none (a0.map (eP (eP eI eI) (eP eI eI)))], .v (.int .i64 a1)], Meets Try.prog 25 ([.d false [.sl none (a0.map (eP (eP eI eI) (eP eI eI)))], .v (.int .i64 a1)] ++ []) { vals := [.d false [.sl none (v5.1.map (eP eI eI))], .p (.bool v5.2)] }, List.all [.d false [.sl none (v5.1.map (eP eI eI))], .p (.bool v5.2)] simpleR = false] (by kernel_rfl) ⟨rfl, (wk_spec_knValues hv5), rfl, trivial⟩) ?_
      refine k_ret ?_
      obtain rfl := Option.some.inj h
      exact e_ret (ls := [(.d false [.sl none (v5.1.map (eP eI eI))], 4), (.p (.bool v5.2), 5)]) (by kernel_rfl) rfl (by kernel_rfl) rfl
theorem wk_impl_within {a0 : Int} {a1 : Int} {a2 : Int}  {r : Bool} (h : impl_within a0 a1 a2 = some r) : Meets Try.prog 36 [.v (.int .i64 a0), .v (.int .i64 a1), .v (.int .i64 a2)] { vals := [.p (.bool r)] } := by
  refine Meets_ofL (by kernel_rfl) Try.func36 rfl (by kernel_rfl) (l0 := [(0, .p (.int .i64 a0)), (1, .p (.int .i64 a1)), (2, .p (.int .i64 a2))]) (by kernel_rfl) ?_
  unfold impl_within at h
  refine k_sreg (r_go [(0, .p (.int .i64 a0)), (1, .p (.int .i64 a1)), (2, .p (.int .i64 a2))] [] [] (by kernel_rfl) trivial) ?_
  refine k_sreg (l1 := [(6, .p (.bool ((decide (a1 ≤ a0)) && (decide (a0 ≤ a2)))))]) ?_ ?_
  · rcases Bool.eq_false_or_eq_true (decide (a1 ≤ a0)) with ha0 | ha0
    · exact RegOk.of_eq (l2 := [(6, .p (.bool ((decide (a1 ≤ a0)) && (decide (a0 ≤ a2)))))]) (r_go [(6, .p (.bool (decide (a0 ≤ a2))))] [(4, {g := some true}), (5, {g := some true}), (6, {g := some true}), (7, {b := some true})] [(decide (a1 ≤ a0)) = true, (decide (a1 ≤ a0)) = true, (decide (a1 ≤ a0)) = true, (decide (a1 ≤ a0)) = true] (by kernel_rfl) ⟨ha0, ha0, ha0, ha0, trivial⟩) (by simp [ha0])
    · exact RegOk.of_eq (l2 := [(6, .p (.bool ((decide (a1 ≤ a0)) && (decide (a0 ≤ a2)))))]) (r_go [(6, .p (.bool false))] [(4, {g := some false}), (5, {g := some false}), (6, {g := some false}), (7, {b := some false})] [(decide (a1 ≤ a0)) = false, (decide (a1 ≤ a0)) = false, (decide (a1 ≤ a0)) = false, (decide (a1 ≤ a0)) = false] (by kernel_rfl) ⟨ha0, ha0, ha0, ha0, trivial⟩) (by simp [ha0])
  · refine k_ret ?_
    obtain rfl := Option.some.inj h
    exact e_ret (ls := [(.p (.bool ((decide (a1 ≤ a0)) && (decide (a0 ≤ a2)))), 6)]) (by kernel_rfl) rfl (by kernel_rfl) rfl
theorem wk_slices_IndexFunc_Limpl_Point_impl_Point_v {a0 : (List ((Int × Int) × (Int × Int)))} {a1 : (((Int × Int) × (Int × Int)) → Option Bool)} {F1 : FuncId} (hp1 : ∀ x0 y, a1 x0 = some y → Meets Try.prog F1 ([.v (.agg #[.int .i64 x0.1.1, .int .i64 x0.1.2, .int .i64 x0.2.1, .int .i64 x0.2.2])] ++ []) { vals := [.p (.bool y)] }) {r : Int} (h : slices_IndexFunc_Limpl_Point_impl_Point a0 a1 = some r) : Meets Try.prog 68 [.d false [.sl none (a0.map (eP (eP eI eI) (eP eI eI)))], .v (.func (.func F1) #[] #[])] { vals := [.p (.int .i64 r)] } := by
  refine Meets_ofL (by kernel_rfl) Try.func68 rfl (by kernel_rfl) (l0 := [(0, .d false [.sl none (a0.map (eP (eP eI eI) (eP eI eI)))]), (1, .p (.func (.func F1) #[] #[]))]) (by kernel_rfl) ?_
  unfold slices_IndexFunc_Limpl_Point_impl_Point at h
  refine k_sreg (r_go [(0, .d false [.sl none (a0.map (eP (eP eI eI) (eP eI eI)))]), (1, .p (.func (.func F1) #[] #[]))] [] [] (by kernel_rfl) trivial) ?_
  refine k_join (J := fun (x : Unit) => []) (K := fun x => slices_IndexFunc_Limpl_Point_impl_Point_k1 x = some r) (fun x1 h => ?_) ?_
  · unfold slices_IndexFunc_Limpl_Point_impl_Point_k1 at h
    refine k_sreg (r_go [(4, .p (.int .i64 (-1)))] [] [] (by kernel_rfl) trivial) ?_
    refine k_ret ?_
    obtain rfl := Option.some.inj h
    exact e_ret (ls := [(.p (.int .i64 (-1)), 4)]) (by kernel_rfl) rfl (by kernel_rfl) rfl
  · refine k_sreg (r_go [(0, .d false [.sl none (a0.map (eP (eP eI eI) (eP eI eI)))]), (1, .p (.func (.func F1) #[] #[])), (7, .p (.int .i64 (a0.length : Int))), (8, .p (.int .i64 0))] [(1, {n := some a0.length})] [(a0.map (eP (eP eI eI) (eP eI eI))).length = a0.length] (by kernel_rfl) ⟨(List.length_map ..), trivial⟩) ?_
    refine k_block ?_
    obtain ⟨y3, hl_x2, hk_x2⟩ := bind_some' h
    clear h
    refine k_loop (J := fun (x : Int) => [(0, .d false [.sl none (a0.map (eP (eP eI eI) (eP eI eI)))]), (1, .p (.func (.func F1) #[] #[])), (7, .p (.int .i64 (a0.length : Int))), (8, .p (.int .i64 x))]) hl_x2 (wk_of (by kernel_rfl) (by kernel_rfl)) (fun x2 o_x2 h hy_x2 => ?_)
    unfold slices_IndexFunc_Limpl_Point_impl_Point_b1 at h
    refine k_sreg (r_go [(0, .d false [.sl none (a0.map (eP (eP eI eI) (eP eI eI)))]), (1, .p (.func (.func F1) #[] #[])), (7, .p (.int .i64 (a0.length : Int))), (8, .p (.int .i64 x2)), (9, .p (.bool (decide (x2 < (a0.length : Int)))))] [] [] (by kernel_rfl) trivial) ?_
    refine k_seq ?_
    refine k_cond (b := (decide (x2 < (a0.length : Int)))) (by kernel_rfl) (fun hc5_3 => ?_) (fun hc5_3 => ?_)
    · replace h := ite_t hc5_3 h
      refine k_skip ?_
      refine q_n ?_
      refine k_seq ?_
      refine k_block ?_
      refine k_sreg (r_go [(0, .d false [.sl none (a0.map (eP (eP eI eI) (eP eI eI)))]), (1, .p (.func (.func F1) #[] #[])), (5, .p (.int .i64 x2)), (7, .p (.int .i64 (a0.length : Int))), (8, .p (.int .i64 x2))] [] [] (by kernel_rfl) trivial) ?_
      replace h := bind_some' h
      obtain ⟨v5, hv5, h⟩ := h
      replace h := bind_some' h
      obtain ⟨v6, hv6, h⟩ := h
      refine k_sreg (r_go [(0, .d false [.sl none (a0.map (eP (eP eI eI) (eP eI eI)))]), (1, .p (.func (.func F1) #[] #[])), (5, .p (.int .i64 x2)), (7, .p (.int .i64 (a0.length : Int))), (8, .p (.int .i64 x2)), (16, .p (.bool v6))] [(3, {row := some [.raw (.int .i64 v5.1.1), .raw (.int .i64 v5.1.2), .raw (.int .i64 v5.2.1), .raw (.int .i64 v5.2.2)]}), (5, {call := some ([.v (.agg #[.int .i64 v5.1.1, .int .i64 v5.1.2, .int .i64 v5.2.1, .int .i64 v5.2.2])], [.p (.bool v6)], true)})] [0 ≤ x2, (a0.map (eP (eP eI eI) (eP eI eI)))[(Int.toNat x2)]? = some [.raw (.int .i64 v5.1.1), .raw (.int .i64 v5.1.2), .raw (.int .i64 v5.2.1), .raw (.int .i64 v5.2.2)], ([.v (.agg #[.int .i64 v5.1.1, .int .i64 v5.1.2, .int .i64 v5.2.1, .int .i64 v5.2.2])] : List Arg) = [.v (.agg #[.int .i64 v5.1.1, .int .i64 v5.1.2, .int .i64 v5.2.1, .int .i64 v5.2.2])], Meets Try.prog F1 ([.v (.agg #[.int .i64 v5.1.1, .int .i64 v5.1.2, .int .i64 v5.2.1, .int .i64 v5.2.2])] ++ []) { vals := [.p (.bool v6)] }, List.all [.p (.bool v6)] simpleR = true] (by kernel_rfl) ⟨(idxO_some hv5).1, (map_get (eP (eP eI eI) (eP eI eI)) (idxO_some hv5).2), rfl, (hp1 _ _ hv6), rfl, trivial⟩) ?_
      refine k_cond (b := v6) (by kernel_rfl) (fun hc6_6 => ?_) (fun hc6_6 => ?_)
      · replace h := ite_t hc6_6 h
        refine k_sreg (r_go [(4, .p (.int .i64 x2))] [] [] (by kernel_rfl) trivial) ?_
        refine k_ret ?_
        refine b_r ?_
        refine q_r ?_
        refine lq_r ?_
        refine b_r ?_
        refine q_r ?_
        have hyy := hy_x2 _ (Option.some.inj h).symm
        subst hyy
        have h := hk_x2
        dsimp only [Sum.elim] at h
        obtain rfl := Option.some.inj h
        exact e_ret (ls := [(.p (.int .i64 x2), 4)]) (by kernel_rfl) rfl (by kernel_rfl) rfl
      · replace h := ite_f hc6_6 h
        refine k_skip ?_
        refine b_n ?_
        refine q_n ?_
        refine k_reg (r_go [(0, .d false [.sl none (a0.map (eP (eP eI eI) (eP eI eI)))]), (1, .p (.func (.func F1) #[] #[])), (7, .p (.int .i64 (a0.length : Int))), (8, .p (.int .i64 (w64 (x2 + 1))))] [] [] (by kernel_rfl) trivial) ?_
        exact lq_n (w64 (x2 + 1)) (Option.some.inj h).symm (wk_of (by kernel_rfl) (by kernel_rfl))
    · replace h := ite_f hc5_3 h
      refine k_exit ?_
      refine q_x ?_
      refine lq_x ?_
      refine b_x ?_
      have hyy := hy_x2 _ (Option.some.inj h).symm
      subst hyy
      have h := hk_x2
      dsimp only [Sum.elim] at h
      refine q_n ?_
      exact ⟨(), h, (wk_of (by kernel_rfl) (by kernel_rfl))⟩
theorem wk_slices_ContainsFunc_Limpl_Point_impl_Point_v {a0 : (List ((Int × Int) × (Int × Int)))} {a1 : (((Int × Int) × (Int × Int)) → Option Bool)} {F1 : FuncId} (hp1 : ∀ x0 y, a1 x0 = some y → Meets Try.prog F1 ([.v (.agg #[.int .i64 x0.1.1, .int .i64 x0.1.2, .int .i64 x0.2.1, .int .i64 x0.2.2])] ++ []) { vals := [.p (.bool y)] }) {r : Bool} (h : slices_ContainsFunc_Limpl_Point_impl_Point a0 a1 = some r) : Meets Try.prog 80 [.d false [.sl none (a0.map (eP (eP eI eI) (eP eI eI)))], .v (.func (.func F1) #[] #[])] { vals := [.p (.bool r)] } := by
  refine Meets_ofL (by kernel_rfl) Try.func80 rfl (by kernel_rfl) (l0 := [(0, .d false [.sl none (a0.map (eP (eP eI eI) (eP eI eI)))]), (1, .p (.func (.func F1) #[] #[]))]) (by kernel_rfl) ?_
  unfold slices_ContainsFunc_Limpl_Point_impl_Point at h
  refine k_sreg (r_go [(0, .d false [.sl none (a0.map (eP (eP eI eI) (eP eI eI)))]), (1, .p (.func (.func F1) #[] #[]))] [] [] (by kernel_rfl) trivial) ?_
  replace h := bind_some' h
  obtain ⟨v1, hv1, h⟩ := h
  refine k_sreg (r_go [(4, .p (.bool (decide (v1 ≥ 0))))] [(2, {call := some ([.d false [.sl none (a0.map (eP (eP eI eI) (eP eI eI)))], .v (.func (.func F1) #[] #[])], [.p (.int .i64 v1)], true)})] [([.d false [.sl none (a0.map (eP (eP eI eI) (eP eI eI)))], .v (.func (.func F1) #[] #[])] : List Arg) = [.d false [.sl none (a0.map (eP (eP eI eI) (eP eI eI)))], .v (.func (.func F1) #[] #[])], Meets Try.prog 68 ([.d false [.sl none (a0.map (eP (eP eI eI) (eP eI eI)))], .v (.func (.func F1) #[] #[])] ++ []) { vals := [.p (.int .i64 v1)] }, List.all [.p (.int .i64 v1)] simpleR = true] (by kernel_rfl) ⟨rfl, (wk_slices_IndexFunc_Limpl_Point_impl_Point_v hp1 hv1), rfl, trivial⟩) ?_
  refine k_ret ?_
  obtain rfl := Option.some.inj h
  exact e_ret (ls := [(.p (.bool (decide (v1 ≥ 0))), 4)]) (by kernel_rfl) rfl (by kernel_rfl) rfl
theorem wk_impl_abs {a0 : Int}  {r : Int} (h : impl_abs a0 = some r) : Meets Try.prog 99 [.v (.int .i64 a0)] { vals := [.p (.int .i64 r)] } := by
  refine Meets_ofL (by kernel_rfl) Try.func99 rfl (by kernel_rfl) (l0 := [(0, .p (.int .i64 a0))]) (by kernel_rfl) ?_
  unfold impl_abs at h
  refine k_sreg (r_go [(0, .p (.int .i64 a0))] [] [] (by kernel_rfl) trivial) ?_
  refine k_seq ?_
  refine k_sreg (r_go [(0, .p (.int .i64 a0)), (4, .p (.bool (decide (a0 < 0))))] [] [] (by kernel_rfl) trivial) ?_
  refine k_cond (b := (decide (a0 < 0))) (by kernel_rfl) (fun hc2_0 => ?_) (fun hc2_0 => ?_)
  · replace h := ite_t hc2_0 h
    refine k_sreg (r_go [(2, .p (.int .i64 (w64 (0 - a0))))] [] [] (by kernel_rfl) trivial) ?_
    refine k_ret ?_
    refine q_r ?_
    obtain rfl := Option.some.inj h
    exact e_ret (ls := [(.p (.int .i64 (w64 (0 - a0))), 2)]) (by kernel_rfl) rfl (by kernel_rfl) rfl
  · replace h := ite_f hc2_0 h
    refine k_skip ?_
    refine q_n ?_
    refine k_sreg (r_go [(2, .p (.int .i64 a0))] [] [] (by kernel_rfl) trivial) ?_
    refine k_ret ?_
    obtain rfl := Option.some.inj h
    exact e_ret (ls := [(.p (.int .i64 a0), 2)]) (by kernel_rfl) rfl (by kernel_rfl) rfl
theorem wk_impl_greatestDivisor {a0 : Int} {a1 : Int}  {r : Int} (h : impl_greatestDivisor a0 a1 = some r) : Meets Try.prog 98 [.v (.int .i64 a0), .v (.int .i64 a1)] { vals := [.p (.int .i64 r)] } := by
  refine Meets_ofL (by kernel_rfl) Try.func98 rfl (by kernel_rfl) (l0 := [(0, .p (.int .i64 a0)), (1, .p (.int .i64 a1))]) (by kernel_rfl) ?_
  unfold impl_greatestDivisor at h
  refine k_sreg (r_go [(0, .p (.int .i64 a0)), (1, .p (.int .i64 a1))] [] [] (by kernel_rfl) trivial) ?_
  replace h := bind_some' h
  obtain ⟨v1, hv1, h⟩ := h
  replace h := bind_some' h
  obtain ⟨v2, hv2, h⟩ := h
  refine k_sreg (r_go [(0, .p (.int .i64 v1)), (1, .p (.int .i64 v2))] [(1, {call := some ([.v (.int .i64 a0)], [.p (.int .i64 v1)], true)}), (3, {call := some ([.v (.int .i64 a1)], [.p (.int .i64 v2)], true)})] [([.v (.int .i64 a0)] : List Arg) = [.v (.int .i64 a0)], Meets Try.prog 99 ([.v (.int .i64 a0)] ++ []) { vals := [.p (.int .i64 v1)] }, List.all [.p (.int .i64 v1)] simpleR = true, ([.v (.int .i64 a1)] : List Arg) = [.v (.int .i64 a1)], Meets Try.prog 99 ([.v (.int .i64 a1)] ++ []) { vals := [.p (.int .i64 v2)] }, List.all [.p (.int .i64 v2)] simpleR = true] (by kernel_rfl) ⟨rfl, (wk_impl_abs hv1), rfl, rfl, (wk_impl_abs hv2), rfl, trivial⟩) ?_
  refine k_join (J := fun (x : Int) => [(0, .p (.int .i64 x))]) (K := fun x => impl_greatestDivisor_k1 x = some r) (fun x3 h => ?_) ?_
  · unfold impl_greatestDivisor_k1 at h
    refine k_sreg (r_go [(4, .p (.int .i64 x3))] [] [] (by kernel_rfl) trivial) ?_
    refine k_ret ?_
    obtain rfl := Option.some.inj h
    exact e_ret (ls := [(.p (.int .i64 x3), 4)]) (by kernel_rfl) rfl (by kernel_rfl) rfl
  · refine k_block ?_
    obtain ⟨y5, hl_x4, hk_x4⟩ := bind_some' h
    clear h
    refine k_loop (J := fun (x : (Int × Int)) => [(0, .p (.int .i64 x.1)), (1, .p (.int .i64 x.2))]) hl_x4 (wk_of (by kernel_rfl) (by kernel_rfl)) (fun x4 o_x4 h hy_x4 => ?_)
    unfold impl_greatestDivisor_b1 at h
    refine k_seq ?_
    refine k_sreg (r_go [(0, .p (.int .i64 x4.1)), (1, .p (.int .i64 x4.2)), (10, .p (.bool (x4.2 != 0)))] [] [] (by kernel_rfl) trivial) ?_
    refine k_cond (b := (x4.2 != 0)) (by kernel_rfl) (fun hc5_5 => ?_) (fun hc5_5 => ?_)
    · replace h := ite_t hc5_5 h
      refine k_skip ?_
      refine q_n ?_
      refine k_block ?_
      replace h := bind_some' h
      obtain ⟨u7, hu7, h⟩ := h
      refine k_reg (r_draw Try_mixed 5 [] [(0, .p (.int .i64 x4.2)), (1, .p (.int .i64 (Int.tmod x4.1 x4.2)))] [] [x4.2 ≠ (0 : Int)] (by kernel_rfl) ⟨(guardO_some hu7), trivial⟩) ?_
      refine b_n ?_
      exact lq_n (x4.2, (Int.tmod x4.1 x4.2)) (Option.some.inj h).symm (wk_of (by kernel_rfl) (by kernel_rfl))
    · replace h := ite_f hc5_5 h
      refine k_exit ?_
      refine q_x ?_
      refine lq_x ?_
      refine b_x ?_
      have hyy := hy_x4 _ (Option.some.inj h).symm
      subst hyy
      have h := hk_x4
      refine q_n ?_
      exact ⟨x4.1, h, (wk_of (by kernel_rfl) (by kernel_rfl))⟩
theorem wk_impl_isRat {a0 : (Int × Int)}  {r : Bool} (h : impl_isRat a0 = some r) : Meets Try.prog 97 [.v (.agg #[.int .i64 a0.1, .int .i64 a0.2])] { vals := [.p (.bool r)] } := by
  refine Meets_ofL (by kernel_rfl) Try.func97 rfl (by kernel_rfl) (l0 := [(0, .p (.agg #[.int .i64 a0.1, .int .i64 a0.2]))]) (by kernel_rfl) ?_
  unfold impl_isRat at h
  refine k_sreg (r_go [(1, .box [.raw (.int .i64 a0.1), .raw (.int .i64 a0.2)])] [] [] (by kernel_rfl) trivial) ?_
  replace h := bind_some' h
  obtain ⟨v1, hv1, h⟩ := h
  replace h := bind_some' h
  obtain ⟨w4, hw4, h⟩ := h
  refine k_sreg (l1 := [(2, .p (.bool w4))]) ?_ ?_
  · clear h
    rcases Bool.eq_false_or_eq_true v1 with ha0 | ha0
    · replace hw4 := ite_t ha0 hw4
      replace hw4 := bind_some' hw4
      obtain ⟨v2, hv2, hw4⟩ := hw4
      rcases Bool.eq_false_or_eq_true v2 with ha1 | ha1
      · replace hw4 := ite_t ha1 hw4
        replace hw4 := bind_some' hw4
        obtain ⟨v3, hv3, hw4⟩ := hw4
        have hw4 := Option.some.inj hw4
        subst hw4
        exact (r_go [(2, .p (.bool (v3 == 1)))] [(2, {call := some ([.v (.int .i64 a0.2), .v (.int .i64 1), .v (.int .i64 1000000000)], [.p (.bool v1)], true)}), (4, {g := some true}), (5, {g := some true}), (6, {g := some true, call := some ([.v (.int .i64 a0.1), .v (.int .i64 (-1000000000)), .v (.int .i64 1000000000)], [.p (.bool v2)], true)}), (7, {b := some true}), (9, {g := some true}), (10, {g := some true}), (11, {g := some true}), (12, {g := some true}), (13, {g := some true, call := some ([.v (.int .i64 a0.1), .v (.int .i64 a0.2)], [.p (.int .i64 v3)], true)}), (14, {g := some true}), (15, {b := some true})] [([.v (.int .i64 a0.2), .v (.int .i64 1), .v (.int .i64 1000000000)] : List Arg) = [.v (.int .i64 a0.2), .v (.int .i64 1), .v (.int .i64 1000000000)], Meets Try.prog 36 ([.v (.int .i64 a0.2), .v (.int .i64 1), .v (.int .i64 1000000000)] ++ []) { vals := [.p (.bool v1)] }, List.all [.p (.bool v1)] simpleR = true, v1 = true, v1 = true, v1 = true, ([.v (.int .i64 a0.1), .v (.int .i64 (-1000000000)), .v (.int .i64 1000000000)] : List Arg) = [.v (.int .i64 a0.1), .v (.int .i64 (-1000000000)), .v (.int .i64 1000000000)], Meets Try.prog 36 ([.v (.int .i64 a0.1), .v (.int .i64 (-1000000000)), .v (.int .i64 1000000000)] ++ []) { vals := [.p (.bool v2)] }, List.all [.p (.bool v2)] simpleR = true, v1 = true, v2 = true, v2 = true, v2 = true, v2 = true, v2 = true, ([.v (.int .i64 a0.1), .v (.int .i64 a0.2)] : List Arg) = [.v (.int .i64 a0.1), .v (.int .i64 a0.2)], Meets Try.prog 98 ([.v (.int .i64 a0.1), .v (.int .i64 a0.2)] ++ []) { vals := [.p (.int .i64 v3)] }, List.all [.p (.int .i64 v3)] simpleR = true, v2 = true, v2 = true] (by kernel_rfl) ⟨rfl, (wk_impl_within hv1), rfl, ha0, ha0, ha0, rfl, (wk_impl_within hv2), rfl, ha0, ha1, ha1, ha1, ha1, ha1, rfl, (wk_impl_greatestDivisor hv3), rfl, ha1, ha1, trivial⟩)
      · replace hw4 := ite_f ha1 hw4
        have hw4 := Option.some.inj hw4
        subst hw4
        exact (r_go [(2, .p (.bool false))] [(2, {call := some ([.v (.int .i64 a0.2), .v (.int .i64 1), .v (.int .i64 1000000000)], [.p (.bool v1)], true)}), (4, {g := some true}), (5, {g := some true}), (6, {g := some true, call := some ([.v (.int .i64 a0.1), .v (.int .i64 (-1000000000)), .v (.int .i64 1000000000)], [.p (.bool v2)], true)}), (7, {b := some true}), (9, {g := some false}), (10, {g := some false}), (11, {g := some false}), (12, {g := some false}), (13, {g := some false}), (14, {g := some false}), (15, {b := some false})] [([.v (.int .i64 a0.2), .v (.int .i64 1), .v (.int .i64 1000000000)] : List Arg) = [.v (.int .i64 a0.2), .v (.int .i64 1), .v (.int .i64 1000000000)], Meets Try.prog 36 ([.v (.int .i64 a0.2), .v (.int .i64 1), .v (.int .i64 1000000000)] ++ []) { vals := [.p (.bool v1)] }, List.all [.p (.bool v1)] simpleR = true, v1 = true, v1 = true, v1 = true, ([.v (.int .i64 a0.1), .v (.int .i64 (-1000000000)), .v (.int .i64 1000000000)] : List Arg) = [.v (.int .i64 a0.1), .v (.int .i64 (-1000000000)), .v (.int .i64 1000000000)], Meets Try.prog 36 ([.v (.int .i64 a0.1), .v (.int .i64 (-1000000000)), .v (.int .i64 1000000000)] ++ []) { vals := [.p (.bool v2)] }, List.all [.p (.bool v2)] simpleR = true, v1 = true, v2 = false, v2 = false, v2 = false, v2 = false, v2 = false, v2 = false, v2 = false] (by kernel_rfl) ⟨rfl, (wk_impl_within hv1), rfl, ha0, ha0, ha0, rfl, (wk_impl_within hv2), rfl, ha0, ha1, ha1, ha1, ha1, ha1, ha1, ha1, trivial⟩)
    · replace hw4 := ite_f ha0 hw4
      have hw4 := Option.some.inj hw4
      subst hw4
      exact (r_go [(2, .p (.bool false))] [(2, {call := some ([.v (.int .i64 a0.2), .v (.int .i64 1), .v (.int .i64 1000000000)], [.p (.bool v1)], true)}), (4, {g := some false}), (5, {g := some false}), (6, {g := some false}), (7, {b := some false}), (9, {g := some false}), (10, {g := some false}), (11, {g := some false}), (12, {g := some false}), (13, {g := some false}), (14, {g := some false}), (15, {b := some false})] [([.v (.int .i64 a0.2), .v (.int .i64 1), .v (.int .i64 1000000000)] : List Arg) = [.v (.int .i64 a0.2), .v (.int .i64 1), .v (.int .i64 1000000000)], Meets Try.prog 36 ([.v (.int .i64 a0.2), .v (.int .i64 1), .v (.int .i64 1000000000)] ++ []) { vals := [.p (.bool v1)] }, List.all [.p (.bool v1)] simpleR = true, v1 = false, v1 = false, v1 = false, v1 = false, false = false, false = false, false = false, false = false, false = false, false = false, false = false] (by kernel_rfl) ⟨rfl, (wk_impl_within hv1), rfl, ha0, ha0, ha0, ha0, rfl, rfl, rfl, rfl, rfl, rfl, rfl, trivial⟩)
  · refine k_ret ?_
    obtain rfl := Option.some.inj h
    exact e_ret (ls := [(.p (.bool w4), 2)]) (by kernel_rfl) rfl (by kernel_rfl) rfl
theorem wk_impl_isUnit {a0 : (Int × Int)}  {r : Bool} (h : impl_isUnit a0 = some r) : Meets Try.prog 93 [.v (.agg #[.int .i64 a0.1, .int .i64 a0.2])] { vals := [.p (.bool r)] } := by
  refine Meets_ofL (by kernel_rfl) Try.func93 rfl (by kernel_rfl) (l0 := [(0, .p (.agg #[.int .i64 a0.1, .int .i64 a0.2]))]) (by kernel_rfl) ?_
  unfold impl_isUnit at h
  refine k_sreg (r_go [(1, .box [.raw (.int .i64 a0.1), .raw (.int .i64 a0.2)])] [] [] (by kernel_rfl) trivial) ?_
  replace h := bind_some' h
  obtain ⟨v1, hv1, h⟩ := h
  refine k_sreg (l1 := [(2, .p (.bool (v1 && ((decide (a0.1 ≥ 0)) && (decide (a0.1 ≤ a0.2))))))]) ?_ ?_
  · rcases Bool.eq_false_or_eq_true v1 with ha0 | ha0
    · rcases Bool.eq_false_or_eq_true (decide (a0.1 ≥ 0)) with ha1 | ha1
      · exact RegOk.of_eq (l2 := [(2, .p (.bool (v1 && ((decide (a0.1 ≥ 0)) && (decide (a0.1 ≤ a0.2))))))]) (r_go [(2, .p (.bool (decide (a0.1 ≤ a0.2))))] [(1, {call := some ([.v (.agg #[.int .i64 a0.1, .int .i64 a0.2])], [.p (.bool v1)], true)}), (3, {g := some true}), (4, {g := some true}), (5, {g := some true}), (6, {b := some true}), (8, {g := some true}), (9, {g := some true}), (10, {g := some true}), (11, {g := some true}), (12, {g := some true}), (13, {b := some true})] [([.v (.agg #[.int .i64 a0.1, .int .i64 a0.2])] : List Arg) = [.v (.agg #[.int .i64 a0.1, .int .i64 a0.2])], Meets Try.prog 97 ([.v (.agg #[.int .i64 a0.1, .int .i64 a0.2])] ++ []) { vals := [.p (.bool v1)] }, List.all [.p (.bool v1)] simpleR = true, v1 = true, v1 = true, v1 = true, v1 = true, (decide (a0.1 ≥ 0)) = true, (decide (a0.1 ≥ 0)) = true, (decide (a0.1 ≥ 0)) = true, (decide (a0.1 ≥ 0)) = true, (decide (a0.1 ≥ 0)) = true, (decide (a0.1 ≥ 0)) = true] (by kernel_rfl) ⟨rfl, (wk_impl_isRat hv1), rfl, ha0, ha0, ha0, ha0, ha1, ha1, ha1, ha1, ha1, ha1, trivial⟩) (by simp [ha0, ha1])
      · exact RegOk.of_eq (l2 := [(2, .p (.bool (v1 && ((decide (a0.1 ≥ 0)) && (decide (a0.1 ≤ a0.2))))))]) (r_go [(2, .p (.bool false))] [(1, {call := some ([.v (.agg #[.int .i64 a0.1, .int .i64 a0.2])], [.p (.bool v1)], true)}), (3, {g := some true}), (4, {g := some true}), (5, {g := some true}), (6, {b := some true}), (8, {g := some false}), (9, {g := some false}), (10, {g := some false}), (11, {g := some false}), (12, {g := some false}), (13, {b := some false})] [([.v (.agg #[.int .i64 a0.1, .int .i64 a0.2])] : List Arg) = [.v (.agg #[.int .i64 a0.1, .int .i64 a0.2])], Meets Try.prog 97 ([.v (.agg #[.int .i64 a0.1, .int .i64 a0.2])] ++ []) { vals := [.p (.bool v1)] }, List.all [.p (.bool v1)] simpleR = true, v1 = true, v1 = true, v1 = true, v1 = true, (decide (a0.1 ≥ 0)) = false, (decide (a0.1 ≥ 0)) = false, (decide (a0.1 ≥ 0)) = false, (decide (a0.1 ≥ 0)) = false, (decide (a0.1 ≥ 0)) = false, (decide (a0.1 ≥ 0)) = false] (by kernel_rfl) ⟨rfl, (wk_impl_isRat hv1), rfl, ha0, ha0, ha0, ha0, ha1, ha1, ha1, ha1, ha1, ha1, trivial⟩) (by simp [ha0, ha1])
    · exact RegOk.of_eq (l2 := [(2, .p (.bool (v1 && ((decide (a0.1 ≥ 0)) && (decide (a0.1 ≤ a0.2))))))]) (r_go [(2, .p (.bool false))] [(1, {call := some ([.v (.agg #[.int .i64 a0.1, .int .i64 a0.2])], [.p (.bool v1)], true)}), (3, {g := some false}), (4, {g := some false}), (5, {g := some false}), (6, {b := some false}), (8, {g := some false}), (9, {g := some false}), (10, {g := some false}), (11, {g := some false}), (12, {g := some false}), (13, {b := some false})] [([.v (.agg #[.int .i64 a0.1, .int .i64 a0.2])] : List Arg) = [.v (.agg #[.int .i64 a0.1, .int .i64 a0.2])], Meets Try.prog 97 ([.v (.agg #[.int .i64 a0.1, .int .i64 a0.2])] ++ []) { vals := [.p (.bool v1)] }, List.all [.p (.bool v1)] simpleR = true, v1 = false, v1 = false, v1 = false, v1 = false, false = false, false = false, false = false, false = false, false = false, false = false] (by kernel_rfl) ⟨rfl, (wk_impl_isRat hv1), rfl, ha0, ha0, ha0, ha0, rfl, rfl, rfl, rfl, rfl, rfl, trivial⟩) (by simp [ha0])
  · refine k_ret ?_
    obtain rfl := Option.some.inj h
    exact e_ret (ls := [(.p (.bool (v1 && ((decide (a0.1 ≥ 0)) && (decide (a0.1 ≤ a0.2))))), 2)]) (by kernel_rfl) rfl (by kernel_rfl) rfl
theorem wk_impl_isCoord {a0 : (Int × Int)}  {r : Bool} (h : impl_isCoord a0 = some r) : Meets Try.prog 82 [.v (.agg #[.int .i64 a0.1, .int .i64 a0.2])] { vals := [.p (.bool r)] } := by
  refine Meets_ofL (by kernel_rfl) Try.func82 rfl (by kernel_rfl) (l0 := [(0, .p (.agg #[.int .i64 a0.1, .int .i64 a0.2]))]) (by kernel_rfl) ?_
  unfold impl_isCoord at h
  refine k_sreg (r_go [(1, .box [.raw (.int .i64 a0.1), .raw (.int .i64 a0.2)])] [] [] (by kernel_rfl) trivial) ?_
  replace h := bind_some' h
  obtain ⟨v1, hv1, h⟩ := h
  refine k_sreg (l1 := [(2, .p (.bool (v1 && (decide (a0.2 ≤ 100)))))]) ?_ ?_
  · rcases Bool.eq_false_or_eq_true v1 with ha0 | ha0
    · exact RegOk.of_eq (l2 := [(2, .p (.bool (v1 && (decide (a0.2 ≤ 100)))))]) (r_go [(2, .p (.bool (decide (a0.2 ≤ 100))))] [(1, {call := some ([.v (.agg #[.int .i64 a0.1, .int .i64 a0.2])], [.p (.bool v1)], true)}), (3, {g := some true}), (4, {g := some true}), (5, {g := some true}), (6, {b := some true})] [([.v (.agg #[.int .i64 a0.1, .int .i64 a0.2])] : List Arg) = [.v (.agg #[.int .i64 a0.1, .int .i64 a0.2])], Meets Try.prog 93 ([.v (.agg #[.int .i64 a0.1, .int .i64 a0.2])] ++ []) { vals := [.p (.bool v1)] }, List.all [.p (.bool v1)] simpleR = true, v1 = true, v1 = true, v1 = true, v1 = true] (by kernel_rfl) ⟨rfl, (wk_impl_isUnit hv1), rfl, ha0, ha0, ha0, ha0, trivial⟩) (by simp [ha0])
    · exact RegOk.of_eq (l2 := [(2, .p (.bool (v1 && (decide (a0.2 ≤ 100)))))]) (r_go [(2, .p (.bool false))] [(1, {call := some ([.v (.agg #[.int .i64 a0.1, .int .i64 a0.2])], [.p (.bool v1)], true)}), (3, {g := some false}), (4, {g := some false}), (5, {g := some false}), (6, {b := some false})] [([.v (.agg #[.int .i64 a0.1, .int .i64 a0.2])] : List Arg) = [.v (.agg #[.int .i64 a0.1, .int .i64 a0.2])], Meets Try.prog 93 ([.v (.agg #[.int .i64 a0.1, .int .i64 a0.2])] ++ []) { vals := [.p (.bool v1)] }, List.all [.p (.bool v1)] simpleR = true, v1 = false, v1 = false, v1 = false, v1 = false] (by kernel_rfl) ⟨rfl, (wk_impl_isUnit hv1), rfl, ha0, ha0, ha0, ha0, trivial⟩) (by simp [ha0])
  · refine k_ret ?_
    obtain rfl := Option.some.inj h
    exact e_ret (ls := [(.p (.bool (v1 && (decide (a0.2 ≤ 100)))), 2)]) (by kernel_rfl) rfl (by kernel_rfl) rfl
theorem wk_impl_isMap_1 {a0 : ((Int × Int) × (Int × Int))}  {r : Bool} (h : impl_isMap_1 a0 = some r) : Meets Try.prog 81 [.v (.agg #[.int .i64 a0.1.1, .int .i64 a0.1.2, .int .i64 a0.2.1, .int .i64 a0.2.2])] { vals := [.p (.bool r)] } := by
  refine Meets_ofL (by kernel_rfl) Try.func81 rfl (by kernel_rfl) (l0 := [(0, .p (.agg #[.int .i64 a0.1.1, .int .i64 a0.1.2, .int .i64 a0.2.1, .int .i64 a0.2.2]))]) (by kernel_rfl) ?_
  unfold impl_isMap_1 at h
  refine k_sreg (r_go [(1, .box [.raw (.int .i64 a0.1.1), .raw (.int .i64 a0.1.2), .raw (.int .i64 a0.2.1), .raw (.int .i64 a0.2.2)])] [] [] (by kernel_rfl) trivial) ?_
  replace h := bind_some' h
  obtain ⟨v1, hv1, h⟩ := h
  replace h := bind_some' h
  obtain ⟨w3, hw3, h⟩ := h
  refine k_sreg (l1 := [(2, .p (.bool w3))]) ?_ ?_
  · clear h
    rcases Bool.eq_false_or_eq_true (!v1) with ha0 | ha0
    · replace hw3 := ite_t ha0 hw3
      have hw3 := Option.some.inj hw3
      subst hw3
      exact (r_go [(2, .p (.bool true))] [(2, {call := some ([.v (.agg #[.int .i64 a0.1.1, .int .i64 a0.1.2])], [.p (.bool v1)], true)}), (5, {g := some true}), (6, {g := some true}), (7, {g := some true}), (8, {g := some true}), (9, {b := some true})] [([.v (.agg #[.int .i64 a0.1.1, .int .i64 a0.1.2])] : List Arg) = [.v (.agg #[.int .i64 a0.1.1, .int .i64 a0.1.2])], Meets Try.prog 82 ([.v (.agg #[.int .i64 a0.1.1, .int .i64 a0.1.2])] ++ []) { vals := [.p (.bool v1)] }, List.all [.p (.bool v1)] simpleR = true, (!v1) = true, (!v1) = true, (!v1) = true, (!v1) = true, (!v1) = true] (by kernel_rfl) ⟨rfl, (wk_impl_isCoord hv1), rfl, ha0, ha0, ha0, ha0, ha0, trivial⟩)
    · replace hw3 := ite_f ha0 hw3
      replace hw3 := bind_some' hw3
      obtain ⟨v2, hv2, hw3⟩ := hw3
      have hw3 := Option.some.inj hw3
      subst hw3
      exact (r_go [(2, .p (.bool (!v2)))] [(2, {call := some ([.v (.agg #[.int .i64 a0.1.1, .int .i64 a0.1.2])], [.p (.bool v1)], true)}), (5, {g := some false}), (6, {g := some false}), (7, {g := some false, call := some ([.v (.agg #[.int .i64 a0.2.1, .int .i64 a0.2.2])], [.p (.bool v2)], true)}), (8, {g := some false}), (9, {b := some false})] [([.v (.agg #[.int .i64 a0.1.1, .int .i64 a0.1.2])] : List Arg) = [.v (.agg #[.int .i64 a0.1.1, .int .i64 a0.1.2])], Meets Try.prog 82 ([.v (.agg #[.int .i64 a0.1.1, .int .i64 a0.1.2])] ++ []) { vals := [.p (.bool v1)] }, List.all [.p (.bool v1)] simpleR = true, (!v1) = false, (!v1) = false, (!v1) = false, ([.v (.agg #[.int .i64 a0.2.1, .int .i64 a0.2.2])] : List Arg) = [.v (.agg #[.int .i64 a0.2.1, .int .i64 a0.2.2])], Meets Try.prog 82 ([.v (.agg #[.int .i64 a0.2.1, .int .i64 a0.2.2])] ++ []) { vals := [.p (.bool v2)] }, List.all [.p (.bool v2)] simpleR = true, (!v1) = false, (!v1) = false] (by kernel_rfl) ⟨rfl, (wk_impl_isCoord hv1), rfl, ha0, ha0, ha0, rfl, (wk_impl_isCoord hv2), rfl, ha0, ha0, trivial⟩)
  · refine k_ret ?_
    obtain rfl := Option.some.inj h
    exact e_ret (ls := [(.p (.bool w3), 2)]) (by kernel_rfl) rfl (by kernel_rfl) rfl
theorem wk_impl_zero   {r : (Int × Int)} (h : impl_zero  = some r) : Meets Try.prog 67 [] { vals := [.p (.agg #[.int .i64 r.1, .int .i64 r.2])] } := by
  refine Meets_ofL (by kernel_rfl) Try.func67 rfl (by kernel_rfl) (l0 := []) (by kernel_rfl) ?_
  unfold impl_zero at h
  refine k_sreg (r_go [(0, .box [.raw (.int .i64 0), .raw (.int .i64 0)])] [] [] (by kernel_rfl) trivial) ?_
  refine k_sreg (r_go [(0, .box [.raw (.int .i64 0), .raw (.int .i64 1)])] [] [] (by kernel_rfl) trivial) ?_
  refine k_ret ?_
  obtain rfl := Option.some.inj h
  exact e_ret (ls := [(.p (.agg #[.int .i64 0, .int .i64 1]), 0)]) (by kernel_rfl) rfl (by kernel_rfl) rfl
theorem wk_impl_oneRat   {r : (Int × Int)} (h : impl_oneRat  = some r) : Meets Try.prog 83 [] { vals := [.p (.agg #[.int .i64 r.1, .int .i64 r.2])] } := by
  refine Meets_ofL (by kernel_rfl) Try.func83 rfl (by kernel_rfl) (l0 := []) (by kernel_rfl) ?_
  unfold impl_oneRat at h
  refine k_sreg (r_go [(0, .box [.raw (.int .i64 0), .raw (.int .i64 0)])] [] [] (by kernel_rfl) trivial) ?_
  refine k_sreg (r_go [(0, .box [.raw (.int .i64 1), .raw (.int .i64 1)])] [] [] (by kernel_rfl) trivial) ?_
  refine k_ret ?_
  obtain rfl := Option.some.inj h
  exact e_ret (ls := [(.p (.agg #[.int .i64 1, .int .i64 1]), 0)]) (by kernel_rfl) rfl (by kernel_rfl) rfl
theorem wk_impl_xsOf {a0 : (List ((Int × Int) × (Int × Int)))}  {r : (List (Int × Int))} (h : impl_xsOf a0 = some r) : Meets Try.prog 85 [.d false [.sl none (a0.map (eP (eP eI eI) (eP eI eI)))]] { vals := [.ov false [.sl (some 39) (r.map (eP eI eI))]] } := by
  refine Meets_ofL (by kernel_rfl) Try.func85 rfl (by kernel_rfl) (l0 := [(0, .d false [.sl none (a0.map (eP (eP eI eI) (eP eI eI)))])]) (by kernel_rfl) ?_
  unfold impl_xsOf at h
  refine k_sreg (r_go [(0, .d false [.sl none (a0.map (eP (eP eI eI) (eP eI eI)))])] [] [] (by kernel_rfl) trivial) ?_
  refine k_sreg (r_go [(0, .d false [.sl none (a0.map (eP (eP eI eI) (eP eI eI)))]), (3, .ov false [.sl (some 39) []])] [] [] (by kernel_rfl) trivial) ?_
  refine k_join (J := fun (x : (List (Int × Int))) => [(3, .ov false [.sl (some 39) (x.map (eP eI eI))])]) (K := fun x => impl_xsOf_k1 x = some r) (fun x1 h => ?_) ?_
  · unfold impl_xsOf_k1 at h
    refine k_sreg (r_go [(2, .ov false [.sl (some 39) (x1.map (eP eI eI))])] [] [] (by kernel_rfl) trivial) ?_
    refine k_ret ?_
    obtain rfl := Option.some.inj h
    exact e_ret (ls := [(.ov false [.sl (some 39) (x1.map (eP eI eI))], 2)]) (by kernel_rfl) rfl (by kernel_rfl) rfl
  · refine k_sreg (r_go [(3, .ov false [.sl (some 39) []]), (6, .d false [.sl none (a0.map (eP (eP eI eI) (eP eI eI)))]), (7, .p (.int .i64 (a0.length : Int))), (8, .p (.int .i64 0))] [(1, {n := some a0.length})] [(a0.map (eP (eP eI eI) (eP eI eI))).length = a0.length] (by kernel_rfl) ⟨(List.length_map ..), trivial⟩) ?_
    refine k_block ?_
    obtain ⟨y3, hl_x2, hk_x2⟩ := bind_some' h
    clear h
    refine k_loop (J := fun (x : ((List (Int × Int)) × Int)) => [(3, .ov false [.sl (some 39) (x.1.map (eP eI eI))]), (6, .d false [.sl none (a0.map (eP (eP eI eI) (eP eI eI)))]), (7, .p (.int .i64 (a0.length : Int))), (8, .p (.int .i64 x.2))]) hl_x2 (wk_of (by kernel_rfl) (by kernel_rfl)) (fun x2 o_x2 h hy_x2 => ?_)
    unfold impl_xsOf_b1 at h
    refine k_sreg (r_go [(3, .ov false [.sl (some 39) (x2.1.map (eP eI eI))]), (6, .d false [.sl none (a0.map (eP (eP eI eI) (eP eI eI)))]), (7, .p (.int .i64 (a0.length : Int))), (8, .p (.int .i64 x2.2)), (9, .p (.bool (decide (x2.2 < (a0.length : Int)))))] [] [] (by kernel_rfl) trivial) ?_
    refine k_seq ?_
    refine k_cond (b := (decide (x2.2 < (a0.length : Int)))) (by kernel_rfl) (fun hc5_3 => ?_) (fun hc5_3 => ?_)
    · replace h := ite_t hc5_3 h
      refine k_skip ?_
      refine q_n ?_
      refine k_seq ?_
      refine k_block ?_
      replace h := bind_some' h
      obtain ⟨v5, hv5, h⟩ := h
      refine k_sreg (r_go [(3, .ov false [.sl (some 39) (x2.1.map (eP eI eI))]), (5, .box [.raw (.int .i64 v5.1.1), .raw (.int .i64 v5.1.2), .raw (.int .i64 v5.2.1), .raw (.int .i64 v5.2.2)]), (6, .d false [.sl none (a0.map (eP (eP eI eI) (eP eI eI)))]), (7, .p (.int .i64 (a0.length : Int))), (8, .p (.int .i64 x2.2))] [(0, {row := some [.raw (.int .i64 v5.1.1), .raw (.int .i64 v5.1.2), .raw (.int .i64 v5.2.1), .raw (.int .i64 v5.2.2)]})] [0 ≤ x2.2, (a0.map (eP (eP eI eI) (eP eI eI)))[(Int.toNat x2.2)]? = some [.raw (.int .i64 v5.1.1), .raw (.int .i64 v5.1.2), .raw (.int .i64 v5.2.1), .raw (.int .i64 v5.2.2)]] (by kernel_rfl) ⟨(idxO_some hv5).1, (map_get (eP (eP eI eI) (eP eI eI)) (idxO_some hv5).2), trivial⟩) ?_
      replace h := bind_some' h
      obtain ⟨u6, hu6, h⟩ := h
      refine k_reg (r_go [(3, .ov false [.sl (some 39) ((x2.1 ++ [v5.1]).map (eP eI eI))]), (6, .d false [.sl none (a0.map (eP (eP eI eI) (eP eI eI)))]), (7, .p (.int .i64 (a0.length : Int))), (8, .p (.int .i64 x2.2))] [(4, {fix := some (16, .ov false [.sl (some 39) ((x2.1 ++ [v5.1]).map (eP eI eI))])})] [List.length ((x2.1.map (eP eI eI)) : List (List C)) + List.length ((([v5.1]).map (eP eI eI)) : List (List C)) ≤ 1099511627776, ∀ row ∈ ((([v5.1]).map (eP eI eI)) : List (List C)), row.length = 2, (SV.ov false [.sl (some 39) ((x2.1.map (eP eI eI)) ++ (([v5.1]).map (eP eI eI)))] : SV) = .ov false [.sl (some 39) ((x2.1 ++ [v5.1]).map (eP eI eI))]] (by kernel_rfl) ⟨(by have hg := (guardO_some hu6); simpa using hg), (rows_len fun _ => rfl), (congrArg (fun z => SV.ov false [.sl (some 39) z]) (List.map_append ..).symm), trivial⟩) ?_
      refine b_n ?_
      refine q_n ?_
      refine k_reg (r_go [(3, .ov false [.sl (some 39) ((x2.1 ++ [v5.1]).map (eP eI eI))]), (6, .d false [.sl none (a0.map (eP (eP eI eI) (eP eI eI)))]), (7, .p (.int .i64 (a0.length : Int))), (8, .p (.int .i64 (w64 (x2.2 + 1))))] [] [] (by kernel_rfl) trivial) ?_
      exact lq_n ((x2.1 ++ [v5.1]), (w64 (x2.2 + 1))) (Option.some.inj h).symm (wk_of (by kernel_rfl) (by kernel_rfl))
    · replace h := ite_f hc5_3 h
      refine k_exit ?_
      refine q_x ?_
      refine lq_x ?_
      refine b_x ?_
      have hyy := hy_x2 _ (Option.some.inj h).symm
      subst hyy
      have h := hk_x2
      refine q_n ?_
      exact ⟨x2.1, h, (wk_of (by kernel_rfl) (by kernel_rfl))⟩
theorem wk_impl_compare {a0 : (Int × Int)} {a1 : (Int × Int)}  {r : Int} (h : impl_compare a0 a1 = some r) : Meets Try.prog 22 [.v (.agg #[.int .i64 a0.1, .int .i64 a0.2]), .v (.agg #[.int .i64 a1.1, .int .i64 a1.2])] { vals := [.p (.int .i64 r)] } := by
  refine Meets_ofL (by kernel_rfl) Try.func22 rfl (by kernel_rfl) (l0 := [(0, .p (.agg #[.int .i64 a0.1, .int .i64 a0.2])), (1, .p (.agg #[.int .i64 a1.1, .int .i64 a1.2]))]) (by kernel_rfl) ?_
  unfold impl_compare at h
  refine k_sreg (r_go [(2, .box [.raw (.int .i64 a0.1), .raw (.int .i64 a0.2)]), (3, .box [.raw (.int .i64 a1.1), .raw (.int .i64 a1.2)])] [] [] (by kernel_rfl) trivial) ?_
  refine k_seq ?_
  refine k_sreg (r_draw Try_mixed 11 [] [(5, .p (.int .i64 (w64 (a0.1 * a1.2)))), (6, .p (.int .i64 (w64 (a1.1 * a0.2))))] [] [] (by kernel_rfl) trivial) ?_
  refine k_block ?_
  refine k_sreg (r_go [(5, .p (.int .i64 (w64 (a0.1 * a1.2)))), (6, .p (.int .i64 (w64 (a1.1 * a0.2)))), (17, .p (.bool (decide ((w64 (a0.1 * a1.2)) < (w64 (a1.1 * a0.2))))))] [] [] (by kernel_rfl) trivial) ?_
  refine k_cond (b := (decide ((w64 (a0.1 * a1.2)) < (w64 (a1.1 * a0.2))))) (by kernel_rfl) (fun hc3_0 => ?_) (fun hc3_0 => ?_)
  · replace h := ite_t hc3_0 h
    refine k_sreg (r_go [(4, .p (.int .i64 (-1)))] [] [] (by kernel_rfl) trivial) ?_
    refine k_ret ?_
    refine b_r ?_
    refine q_r ?_
    obtain rfl := Option.some.inj h
    exact e_ret (ls := [(.p (.int .i64 (-1)), 4)]) (by kernel_rfl) rfl (by kernel_rfl) rfl
  · replace h := ite_f hc3_0 h
    refine k_sreg (r_go [(21, .p (.bool (decide ((w64 (a0.1 * a1.2)) > (w64 (a1.1 * a0.2))))))] [] [] (by kernel_rfl) trivial) ?_
    refine k_cond (b := (decide ((w64 (a0.1 * a1.2)) > (w64 (a1.1 * a0.2))))) (by kernel_rfl) (fun hc3_1 => ?_) (fun hc3_1 => ?_)
    · replace h := ite_t hc3_1 h
      refine k_sreg (r_go [(4, .p (.int .i64 1))] [] [] (by kernel_rfl) trivial) ?_
      refine k_ret ?_
      refine b_r ?_
      refine q_r ?_
      obtain rfl := Option.some.inj h
      exact e_ret (ls := [(.p (.int .i64 1), 4)]) (by kernel_rfl) rfl (by kernel_rfl) rfl
    · replace h := ite_f hc3_1 h
      refine k_skip ?_
      refine b_n ?_
      refine q_n ?_
      refine k_sreg (r_go [(4, .p (.int .i64 0))] [] [] (by kernel_rfl) trivial) ?_
      refine k_ret ?_
      obtain rfl := Option.some.inj h
      exact e_ret (ls := [(.p (.int .i64 0), 4)]) (by kernel_rfl) rfl (by kernel_rfl) rfl
theorem wk_impl_less {a0 : (Int × Int)} {a1 : (Int × Int)}  {r : Bool} (h : impl_less a0 a1 = some r) : Meets Try.prog 70 [.v (.agg #[.int .i64 a0.1, .int .i64 a0.2]), .v (.agg #[.int .i64 a1.1, .int .i64 a1.2])] { vals := [.p (.bool r)] } := by
  refine Meets_ofL (by kernel_rfl) Try.func70 rfl (by kernel_rfl) (l0 := [(0, .p (.agg #[.int .i64 a0.1, .int .i64 a0.2])), (1, .p (.agg #[.int .i64 a1.1, .int .i64 a1.2]))]) (by kernel_rfl) ?_
  unfold impl_less at h
  refine k_sreg (r_go [(2, .box [.raw (.int .i64 a0.1), .raw (.int .i64 a0.2)]), (3, .box [.raw (.int .i64 a1.1), .raw (.int .i64 a1.2)])] [] [] (by kernel_rfl) trivial) ?_
  replace h := bind_some' h
  obtain ⟨v1, hv1, h⟩ := h
  refine k_sreg (r_go [(4, .p (.bool (decide (v1 < 0))))] [(2, {call := some ([.v (.agg #[.int .i64 a0.1, .int .i64 a0.2]), .v (.agg #[.int .i64 a1.1, .int .i64 a1.2])], [.p (.int .i64 v1)], true)})] [([.v (.agg #[.int .i64 a0.1, .int .i64 a0.2]), .v (.agg #[.int .i64 a1.1, .int .i64 a1.2])] : List Arg) = [.v (.agg #[.int .i64 a0.1, .int .i64 a0.2]), .v (.agg #[.int .i64 a1.1, .int .i64 a1.2])], Meets Try.prog 22 ([.v (.agg #[.int .i64 a0.1, .int .i64 a0.2]), .v (.agg #[.int .i64 a1.1, .int .i64 a1.2])] ++ []) { vals := [.p (.int .i64 v1)] }, List.all [.p (.int .i64 v1)] simpleR = true] (by kernel_rfl) ⟨rfl, (wk_impl_compare hv1), rfl, trivial⟩) ?_
  refine k_ret ?_
  obtain rfl := Option.some.inj h
  exact e_ret (ls := [(.p (.bool (decide (v1 < 0))), 4)]) (by kernel_rfl) rfl (by kernel_rfl) rfl
theorem wk_impl_isRising {a0 : (List (Int × Int))}  {r : Bool} (h : impl_isRising a0 = some r) : Meets Try.prog 84 [.d false [.sl none (a0.map (eP eI eI))]] { vals := [.p (.bool r)] } := by
  refine Meets_ofL (by kernel_rfl) Try.func84 rfl (by kernel_rfl) (l0 := [(0, .d false [.sl none (a0.map (eP eI eI))])]) (by kernel_rfl) ?_
  unfold impl_isRising at h
  refine k_sreg (r_go [(0, .d false [.sl none (a0.map (eP eI eI))])] [] [] (by kernel_rfl) trivial) ?_
  refine k_join (J := fun (x : Unit) => []) (K := fun x => impl_isRising_k1 x = some r) (fun x1 h => ?_) ?_
  · unfold impl_isRising_k1 at h
    refine k_sreg (r_go [(2, .p (.bool true))] [] [] (by kernel_rfl) trivial) ?_
    refine k_ret ?_
    obtain rfl := Option.some.inj h
    exact e_ret (ls := [(.p (.bool true), 2)]) (by kernel_rfl) rfl (by kernel_rfl) rfl
  · refine k_sreg (r_go [(0, .d false [.sl none (a0.map (eP eI eI))]), (3, .p (.int .i64 1))] [] [] (by kernel_rfl) trivial) ?_
    refine k_block ?_
    obtain ⟨y3, hl_x2, hk_x2⟩ := bind_some' h
    clear h
    refine k_loop (J := fun (x : Int) => [(0, .d false [.sl none (a0.map (eP eI eI))]), (3, .p (.int .i64 x))]) hl_x2 (wk_of (by kernel_rfl) (by kernel_rfl)) (fun x2 o_x2 h hy_x2 => ?_)
    unfold impl_isRising_b1 at h
    refine k_seq ?_
    refine k_sreg (r_go [(0, .d false [.sl none (a0.map (eP eI eI))]), (3, .p (.int .i64 x2)), (7, .p (.bool (decide (x2 < (a0.length : Int)))))] [(2, {n := some a0.length})] [(a0.map (eP eI eI)).length = a0.length] (by kernel_rfl) ⟨(List.length_map ..), trivial⟩) ?_
    refine k_cond (b := (decide (x2 < (a0.length : Int)))) (by kernel_rfl) (fun hc5_3 => ?_) (fun hc5_3 => ?_)
    · replace h := ite_t hc5_3 h
      refine k_skip ?_
      refine q_n ?_
      refine k_seq ?_
      refine k_block ?_
      replace h := bind_some' h
      obtain ⟨v5, hv5, h⟩ := h
      replace h := bind_some' h
      obtain ⟨v6, hv6, h⟩ := h
      replace h := bind_some' h
      obtain ⟨v7, hv7, h⟩ := h
      refine k_sreg (r_draw Try_mixed 9 [] [(0, .d false [.sl none (a0.map (eP eI eI))]), (3, .p (.int .i64 x2)), (20, .p (.bool (!v7)))] [(3, {row := some [.raw (.int .i64 v5.1), .raw (.int .i64 v5.2)]}), (7, {row := some [.raw (.int .i64 v6.1), .raw (.int .i64 v6.2)]}), (9, {call := some ([.v (.agg #[.int .i64 v5.1, .int .i64 v5.2]), .v (.agg #[.int .i64 v6.1, .int .i64 v6.2])], [.p (.bool v7)], true)})] [0 ≤ (w64 (x2 - 1)), (a0.map (eP eI eI))[(Int.toNat (w64 (x2 - 1)))]? = some [.raw (.int .i64 v5.1), .raw (.int .i64 v5.2)], 0 ≤ x2, (a0.map (eP eI eI))[(Int.toNat x2)]? = some [.raw (.int .i64 v6.1), .raw (.int .i64 v6.2)], ([.v (.agg #[.int .i64 v5.1, .int .i64 v5.2]), .v (.agg #[.int .i64 v6.1, .int .i64 v6.2])] : List Arg) = [.v (.agg #[.int .i64 v5.1, .int .i64 v5.2]), .v (.agg #[.int .i64 v6.1, .int .i64 v6.2])], Meets Try.prog 70 ([.v (.agg #[.int .i64 v5.1, .int .i64 v5.2]), .v (.agg #[.int .i64 v6.1, .int .i64 v6.2])] ++ []) { vals := [.p (.bool v7)] }, List.all [.p (.bool v7)] simpleR = true] (by kernel_rfl) ⟨(idxO_some hv5).1, (map_get (eP eI eI) (idxO_some hv5).2), (idxO_some hv6).1, (map_get (eP eI eI) (idxO_some hv6).2), rfl, (wk_impl_less hv7), rfl, trivial⟩) ?_
      refine k_cond (b := (!v7)) (by kernel_rfl) (fun hc6_7 => ?_) (fun hc6_7 => ?_)
      · replace h := ite_t hc6_7 h
        refine k_sreg (r_go [(2, .p (.bool false))] [] [] (by kernel_rfl) trivial) ?_
        refine k_ret ?_
        refine b_r ?_
        refine q_r ?_
        refine lq_r ?_
        refine b_r ?_
        refine q_r ?_
        have hyy := hy_x2 _ (Option.some.inj h).symm
        subst hyy
        have h := hk_x2
        dsimp only [Sum.elim] at h
        obtain rfl := Option.some.inj h
        exact e_ret (ls := [(.p (.bool false), 2)]) (by kernel_rfl) rfl (by kernel_rfl) rfl
      · replace h := ite_f hc6_7 h
        refine k_skip ?_
        refine b_n ?_
        refine q_n ?_
        refine k_reg (r_go [(0, .d false [.sl none (a0.map (eP eI eI))]), (3, .p (.int .i64 (w64 (x2 + 1))))] [] [] (by kernel_rfl) trivial) ?_
        exact lq_n (w64 (x2 + 1)) (Option.some.inj h).symm (wk_of (by kernel_rfl) (by kernel_rfl))
    · replace h := ite_f hc5_3 h
      refine k_exit ?_
      refine q_x ?_
      refine lq_x ?_
      refine b_x ?_
      have hyy := hy_x2 _ (Option.some.inj h).symm
      subst hyy
      have h := hk_x2
      dsimp only [Sum.elim] at h
      refine q_n ?_
      exact ⟨(), h, (wk_of (by kernel_rfl) (by kernel_rfl))⟩
theorem wk_impl_isMap {a0 : (List ((Int × Int) × (Int × Int)))}  {r : Bool} (h : impl_isMap a0 = some r) : Meets Try.prog 64 [.d false [.sl none (a0.map (eP (eP eI eI) (eP eI eI)))]] { vals := [.p (.bool r)] } := by
  refine Meets_ofL (by kernel_rfl) Try.func64 rfl (by kernel_rfl) (l0 := [(0, .d false [.sl none (a0.map (eP (eP eI eI) (eP eI eI)))])]) (by kernel_rfl) ?_
  unfold impl_isMap at h
  refine k_sreg (r_go [(0, .d false [.sl none (a0.map (eP (eP eI eI) (eP eI eI)))])] [] [] (by kernel_rfl) trivial) ?_
  refine k_seq ?_
  replace h := bind_some' h
  obtain ⟨v1, hv1, h⟩ := h
  replace h := bind_some' h
  obtain ⟨w3, hw3, h⟩ := h
  refine k_sreg (l1 := [(0, .d false [.sl none (a0.map (eP (eP eI eI) (eP eI eI)))]), (10, .p (.bool w3))]) ?_ ?_
  · clear h
    rcases Bool.eq_false_or_eq_true (!v1) with ha0 | ha0
    · replace hw3 := ite_t ha0 hw3
      have hw3 := Option.some.inj hw3
      subst hw3
      exact (r_go [(0, .d false [.sl none (a0.map (eP (eP eI eI) (eP eI eI)))]), (10, .p (.bool true))] [(1, {n := some a0.length}), (2, {call := some ([.v (.int .i64 (a0.length : Int)), .v (.int .i64 2), .v (.int .i64 12)], [.p (.bool v1)], true)}), (5, {g := some true}), (6, {g := some true}), (7, {b := some true})] [(a0.map (eP (eP eI eI) (eP eI eI))).length = a0.length, ([.v (.int .i64 (a0.length : Int)), .v (.int .i64 2), .v (.int .i64 12)] : List Arg) = [.v (.int .i64 (a0.length : Int)), .v (.int .i64 2), .v (.int .i64 12)], Meets Try.prog 36 ([.v (.int .i64 (a0.length : Int)), .v (.int .i64 2), .v (.int .i64 12)] ++ []) { vals := [.p (.bool v1)] }, List.all [.p (.bool v1)] simpleR = true, (!v1) = true, (!v1) = true, (!v1) = true] (by kernel_rfl) ⟨(List.length_map ..), rfl, (wk_impl_within hv1), rfl, ha0, ha0, ha0, trivial⟩)
    · replace hw3 := ite_f ha0 hw3
      replace hw3 := bind_some' hw3
      obtain ⟨v2, hv2, hw3⟩ := hw3
      have hw3 := Option.some.inj hw3
      subst hw3
      exact (r_go [(0, .d false [.sl none (a0.map (eP (eP eI eI) (eP eI eI)))]), (10, .p (.bool v2))] [(1, {n := some a0.length}), (2, {call := some ([.v (.int .i64 (a0.length : Int)), .v (.int .i64 2), .v (.int .i64 12)], [.p (.bool v1)], true)}), (5, {g := some false}), (6, {g := some false, call := some ([.d false [.sl none (a0.map (eP (eP eI eI) (eP eI eI)))], .v (.func (.func 81) #[] #[])], [.p (.bool v2)], true)}), (7, {b := some false})] [(a0.map (eP (eP eI eI) (eP eI eI))).length = a0.length, ([.v (.int .i64 (a0.length : Int)), .v (.int .i64 2), .v (.int .i64 12)] : List Arg) = [.v (.int .i64 (a0.length : Int)), .v (.int .i64 2), .v (.int .i64 12)], Meets Try.prog 36 ([.v (.int .i64 (a0.length : Int)), .v (.int .i64 2), .v (.int .i64 12)] ++ []) { vals := [.p (.bool v1)] }, List.all [.p (.bool v1)] simpleR = true, (!v1) = false, (!v1) = false, ([.d false [.sl none (a0.map (eP (eP eI eI) (eP eI eI)))], .v (.func (.func 81) #[] #[])] : List Arg) = [.d false [.sl none (a0.map (eP (eP eI eI) (eP eI eI)))], .v (.func (.func 81) #[] #[])], Meets Try.prog 80 ([.d false [.sl none (a0.map (eP (eP eI eI) (eP eI eI)))], .v (.func (.func 81) #[] #[])] ++ []) { vals := [.p (.bool v2)] }, List.all [.p (.bool v2)] simpleR = true, (!v1) = false] (by kernel_rfl) ⟨(List.length_map ..), rfl, (wk_impl_within hv1), rfl, ha0, ha0, rfl, (wk_slices_ContainsFunc_Limpl_Point_impl_Point_v (fun x0 y hy => wk_impl_isMap_1 hy) hv2), rfl, ha0, trivial⟩)
  · refine k_cond (b := w3) (by kernel_rfl) (fun hc2_3 => ?_) (fun hc2_3 => ?_)
    · replace h := ite_t hc2_3 h
      refine k_sreg (r_go [(2, .p (.bool false))] [] [] (by kernel_rfl) trivial) ?_
      refine k_ret ?_
      refine q_r ?_
      obtain rfl := Option.some.inj h
      exact e_ret (ls := [(.p (.bool false), 2)]) (by kernel_rfl) rfl (by kernel_rfl) rfl
    · replace h := ite_f hc2_3 h
      refine k_skip ?_
      refine q_n ?_
      replace h := bind_some' h
      obtain ⟨v5, hv5, h⟩ := h
      replace h := bind_some' h
      obtain ⟨v6, hv6, h⟩ := h
      replace h := bind_some' h
      obtain ⟨w11, hw11, h⟩ := h
      refine k_sreg (l1 := [(2, .p (.bool w11))]) ?_ ?_
      · clear h
        rcases Bool.eq_false_or_eq_true ((v5.1.1 == v6.1) && (v5.1.2 == v6.2)) with ha1 | ha1
        · replace hw11 := ite_t ha1 hw11
          replace hw11 := bind_some' hw11
          obtain ⟨v7, hv7, hw11⟩ := hw11
          replace hw11 := bind_some' hw11
          obtain ⟨v8, hv8, hw11⟩ := hw11
          rcases Bool.eq_false_or_eq_true ((v7.1.1 == v8.1) && (v7.1.2 == v8.2)) with ha2 | ha2
          · replace hw11 := ite_t ha2 hw11
            replace hw11 := bind_some' hw11
            obtain ⟨v9, hv9, hw11⟩ := hw11
            replace hw11 := bind_some' hw11
            obtain ⟨v10, hv10, hw11⟩ := hw11
            have hw11 := Option.some.inj hw11
            subst hw11
            exact (r_draw Try_mixed 15 [] [(2, .p (.bool v10))] [(1, {row := some [.raw (.int .i64 v5.1.1), .raw (.int .i64 v5.1.2), .raw (.int .i64 v5.2.1), .raw (.int .i64 v5.2.2)]}), (4, {call := some ([], [.p (.agg #[.int .i64 v6.1, .int .i64 v6.2])], true)}), (5, {pv := some (.bool ((v5.1.1 == v6.1) && (v5.1.2 == v6.2)))}), (7, {g := some true}), (8, {g := some true}), (9, {g := some true, n := some a0.length}), (10, {g := some true}), (11, {g := some true, row := some [.raw (.int .i64 v7.1.1), .raw (.int .i64 v7.1.2), .raw (.int .i64 v7.2.1), .raw (.int .i64 v7.2.2)]}), (12, {g := some true}), (13, {g := some true}), (14, {g := some true, call := some ([], [.p (.agg #[.int .i64 v8.1, .int .i64 v8.2])], true)}), (15, {g := some true, pv := some (.bool ((v7.1.1 == v8.1) && (v7.1.2 == v8.2)))}), (16, {b := some true}), (18, {g := some true}), (19, {g := some true, call := some ([.d false [.sl none (a0.map (eP (eP eI eI) (eP eI eI)))]], [.ov false [.sl (some 39) (v9.map (eP eI eI))]], true)}), (20, {g := some true, call := some ([.d false [.sl none (v9.map (eP eI eI))]], [.p (.bool v10)], true)}), (21, {b := some true})] [0 ≤ 0, (a0.map (eP (eP eI eI) (eP eI eI)))[(Int.toNat 0)]? = some [.raw (.int .i64 v5.1.1), .raw (.int .i64 v5.1.2), .raw (.int .i64 v5.2.1), .raw (.int .i64 v5.2.2)], ([] : List Arg) = [], Meets Try.prog 67 ([] ++ []) { vals := [.p (.agg #[.int .i64 v6.1, .int .i64 v6.2])] }, List.all [.p (.agg #[.int .i64 v6.1, .int .i64 v6.2])] simpleR = true, PureAt Try.prog (.binOp .eql 39 (.tmp 14) (.tmp 15) 39) [.agg #[.int .i64 v5.1.1, .int .i64 v5.1.2], .agg #[.int .i64 v6.1, .int .i64 v6.2]] (.bool ((v5.1.1 == v6.1) && (v5.1.2 == v6.2))), ((v5.1.1 == v6.1) && (v5.1.2 == v6.2)) = true, ((v5.1.1 == v6.1) && (v5.1.2 == v6.2)) = true, ((v5.1.1 == v6.1) && (v5.1.2 == v6.2)) = true, (a0.map (eP (eP eI eI) (eP eI eI))).length = a0.length, ((v5.1.1 == v6.1) && (v5.1.2 == v6.2)) = true, ((v5.1.1 == v6.1) && (v5.1.2 == v6.2)) = true, 0 ≤ (w64 ((a0.length : Int) - 1)), (a0.map (eP (eP eI eI) (eP eI eI)))[(Int.toNat (w64 ((a0.length : Int) - 1)))]? = some [.raw (.int .i64 v7.1.1), .raw (.int .i64 v7.1.2), .raw (.int .i64 v7.2.1), .raw (.int .i64 v7.2.2)], ((v5.1.1 == v6.1) && (v5.1.2 == v6.2)) = true, ((v5.1.1 == v6.1) && (v5.1.2 == v6.2)) = true, ((v5.1.1 == v6.1) && (v5.1.2 == v6.2)) = true, ([] : List Arg) = [], Meets Try.prog 83 ([] ++ []) { vals := [.p (.agg #[.int .i64 v8.1, .int .i64 v8.2])] }, List.all [.p (.agg #[.int .i64 v8.1, .int .i64 v8.2])] simpleR = true, ((v5.1.1 == v6.1) && (v5.1.2 == v6.2)) = true, PureAt Try.prog (.binOp .eql 39 (.tmp 24) (.tmp 25) 39) [.agg #[.int .i64 v7.1.1, .int .i64 v7.1.2], .agg #[.int .i64 v8.1, .int .i64 v8.2]] (.bool ((v7.1.1 == v8.1) && (v7.1.2 == v8.2))), ((v5.1.1 == v6.1) && (v5.1.2 == v6.2)) = true, ((v7.1.1 == v8.1) && (v7.1.2 == v8.2)) = true, ((v7.1.1 == v8.1) && (v7.1.2 == v8.2)) = true, ([.d false [.sl none (a0.map (eP (eP eI eI) (eP eI eI)))]] : List Arg) = [.d false [.sl none (a0.map (eP (eP eI eI) (eP eI eI)))]], Meets Try.prog 85 ([.d false [.sl none (a0.map (eP (eP eI eI) (eP eI eI)))]] ++ []) { vals := [.ov false [.sl (some 39) (v9.map (eP eI eI))]] }, List.all [.ov false [.sl (some 39) (v9.map (eP eI eI))]] simpleR = true, ((v7.1.1 == v8.1) && (v7.1.2 == v8.2)) = true, ([.d false [.sl none (eraL (v9.map (eP eI eI)))]] : List Arg) = [.d false [.sl none (v9.map (eP eI eI))]], Meets Try.prog 84 ([.d false [.sl none (v9.map (eP eI eI))]] ++ []) { vals := [.p (.bool v10)] }, List.all [.p (.bool v10)] simpleR = true, ((v7.1.1 == v8.1) && (v7.1.2 == v8.2)) = true] (by kernel_rfl) ⟨(idxO_some hv5).1, (map_get (eP (eP eI eI) (eP eI eI)) (idxO_some hv5).2), rfl, (wk_impl_zero hv6), rfl, (pure_eql2 (by kernel_rfl)), ha1, ha1, ha1, (List.length_map ..), ha1, ha1, (idxO_some hv7).1, (map_get (eP (eP eI eI) (eP eI eI)) (idxO_some hv7).2), ha1, ha1, ha1, rfl, (wk_impl_oneRat hv8), rfl, ha1, (pure_eql2 (by kernel_rfl)), ha1, ha2, ha2, rfl, (wk_impl_xsOf hv9), (sa_o (wnR1 (wnL_enc (wn_P wn_I wn_I)) rfl) rfl), ha2, (by simp only [eraL_enc (h := (eP eI eI)) (era_P er_I er_I)]), (wk_impl_isRising hv10), rfl, ha2, trivial⟩)
          · replace hw11 := ite_f ha2 hw11
            have hw11 := Option.some.inj hw11
            subst hw11
            exact (r_draw Try_mixed 15 [] [(2, .p (.bool false))] [(1, {row := some [.raw (.int .i64 v5.1.1), .raw (.int .i64 v5.1.2), .raw (.int .i64 v5.2.1), .raw (.int .i64 v5.2.2)]}), (4, {call := some ([], [.p (.agg #[.int .i64 v6.1, .int .i64 v6.2])], true)}), (5, {pv := some (.bool ((v5.1.1 == v6.1) && (v5.1.2 == v6.2)))}), (7, {g := some true}), (8, {g := some true}), (9, {g := some true, n := some a0.length}), (10, {g := some true}), (11, {g := some true, row := some [.raw (.int .i64 v7.1.1), .raw (.int .i64 v7.1.2), .raw (.int .i64 v7.2.1), .raw (.int .i64 v7.2.2)]}), (12, {g := some true}), (13, {g := some true}), (14, {g := some true, call := some ([], [.p (.agg #[.int .i64 v8.1, .int .i64 v8.2])], true)}), (15, {g := some true, pv := some (.bool ((v7.1.1 == v8.1) && (v7.1.2 == v8.2)))}), (16, {b := some true}), (18, {g := some false}), (19, {g := some false}), (20, {g := some false}), (21, {b := some false})] [0 ≤ 0, (a0.map (eP (eP eI eI) (eP eI eI)))[(Int.toNat 0)]? = some [.raw (.int .i64 v5.1.1), .raw (.int .i64 v5.1.2), .raw (.int .i64 v5.2.1), .raw (.int .i64 v5.2.2)], ([] : List Arg) = [], Meets Try.prog 67 ([] ++ []) { vals := [.p (.agg #[.int .i64 v6.1, .int .i64 v6.2])] }, List.all [.p (.agg #[.int .i64 v6.1, .int .i64 v6.2])] simpleR = true, PureAt Try.prog (.binOp .eql 39 (.tmp 14) (.tmp 15) 39) [.agg #[.int .i64 v5.1.1, .int .i64 v5.1.2], .agg #[.int .i64 v6.1, .int .i64 v6.2]] (.bool ((v5.1.1 == v6.1) && (v5.1.2 == v6.2))), ((v5.1.1 == v6.1) && (v5.1.2 == v6.2)) = true, ((v5.1.1 == v6.1) && (v5.1.2 == v6.2)) = true, ((v5.1.1 == v6.1) && (v5.1.2 == v6.2)) = true, (a0.map (eP (eP eI eI) (eP eI eI))).length = a0.length, ((v5.1.1 == v6.1) && (v5.1.2 == v6.2)) = true, ((v5.1.1 == v6.1) && (v5.1.2 == v6.2)) = true, 0 ≤ (w64 ((a0.length : Int) - 1)), (a0.map (eP (eP eI eI) (eP eI eI)))[(Int.toNat (w64 ((a0.length : Int) - 1)))]? = some [.raw (.int .i64 v7.1.1), .raw (.int .i64 v7.1.2), .raw (.int .i64 v7.2.1), .raw (.int .i64 v7.2.2)], ((v5.1.1 == v6.1) && (v5.1.2 == v6.2)) = true, ((v5.1.1 == v6.1) && (v5.1.2 == v6.2)) = true, ((v5.1.1 == v6.1) && (v5.1.2 == v6.2)) = true, ([] : List Arg) = [], Meets Try.prog 83 ([] ++ []) { vals := [.p (.agg #[.int .i64 v8.1, .int .i64 v8.2])] }, List.all [.p (.agg #[.int .i64 v8.1, .int .i64 v8.2])] simpleR = true, ((v5.1.1 == v6.1) && (v5.1.2 == v6.2)) = true, PureAt Try.prog (.binOp .eql 39 (.tmp 24) (.tmp 25) 39) [.agg #[.int .i64 v7.1.1, .int .i64 v7.1.2], .agg #[.int .i64 v8.1, .int .i64 v8.2]] (.bool ((v7.1.1 == v8.1) && (v7.1.2 == v8.2))), ((v5.1.1 == v6.1) && (v5.1.2 == v6.2)) = true, ((v7.1.1 == v8.1) && (v7.1.2 == v8.2)) = false, ((v7.1.1 == v8.1) && (v7.1.2 == v8.2)) = false, ((v7.1.1 == v8.1) && (v7.1.2 == v8.2)) = false, ((v7.1.1 == v8.1) && (v7.1.2 == v8.2)) = false] (by kernel_rfl) ⟨(idxO_some hv5).1, (map_get (eP (eP eI eI) (eP eI eI)) (idxO_some hv5).2), rfl, (wk_impl_zero hv6), rfl, (pure_eql2 (by kernel_rfl)), ha1, ha1, ha1, (List.length_map ..), ha1, ha1, (idxO_some hv7).1, (map_get (eP (eP eI eI) (eP eI eI)) (idxO_some hv7).2), ha1, ha1, ha1, rfl, (wk_impl_oneRat hv8), rfl, ha1, (pure_eql2 (by kernel_rfl)), ha1, ha2, ha2, ha2, ha2, trivial⟩)
        · replace hw11 := ite_f ha1 hw11
          have hw11 := Option.some.inj hw11
          subst hw11
          exact (r_draw Try_mixed 15 [] [(2, .p (.bool false))] [(1, {row := some [.raw (.int .i64 v5.1.1), .raw (.int .i64 v5.1.2), .raw (.int .i64 v5.2.1), .raw (.int .i64 v5.2.2)]}), (4, {call := some ([], [.p (.agg #[.int .i64 v6.1, .int .i64 v6.2])], true)}), (5, {pv := some (.bool ((v5.1.1 == v6.1) && (v5.1.2 == v6.2)))}), (7, {g := some false}), (8, {g := some false}), (9, {g := some false}), (10, {g := some false}), (11, {g := some false}), (12, {g := some false}), (13, {g := some false}), (14, {g := some false}), (15, {g := some false}), (16, {b := some false}), (18, {g := some false}), (19, {g := some false}), (20, {g := some false}), (21, {b := some false})] [0 ≤ 0, (a0.map (eP (eP eI eI) (eP eI eI)))[(Int.toNat 0)]? = some [.raw (.int .i64 v5.1.1), .raw (.int .i64 v5.1.2), .raw (.int .i64 v5.2.1), .raw (.int .i64 v5.2.2)], ([] : List Arg) = [], Meets Try.prog 67 ([] ++ []) { vals := [.p (.agg #[.int .i64 v6.1, .int .i64 v6.2])] }, List.all [.p (.agg #[.int .i64 v6.1, .int .i64 v6.2])] simpleR = true, PureAt Try.prog (.binOp .eql 39 (.tmp 14) (.tmp 15) 39) [.agg #[.int .i64 v5.1.1, .int .i64 v5.1.2], .agg #[.int .i64 v6.1, .int .i64 v6.2]] (.bool ((v5.1.1 == v6.1) && (v5.1.2 == v6.2))), ((v5.1.1 == v6.1) && (v5.1.2 == v6.2)) = false, ((v5.1.1 == v6.1) && (v5.1.2 == v6.2)) = false, ((v5.1.1 == v6.1) && (v5.1.2 == v6.2)) = false, ((v5.1.1 == v6.1) && (v5.1.2 == v6.2)) = false, ((v5.1.1 == v6.1) && (v5.1.2 == v6.2)) = false, ((v5.1.1 == v6.1) && (v5.1.2 == v6.2)) = false, ((v5.1.1 == v6.1) && (v5.1.2 == v6.2)) = false, ((v5.1.1 == v6.1) && (v5.1.2 == v6.2)) = false, ((v5.1.1 == v6.1) && (v5.1.2 == v6.2)) = false, ((v5.1.1 == v6.1) && (v5.1.2 == v6.2)) = false, false = false, false = false, false = false, false = false] (by kernel_rfl) ⟨(idxO_some hv5).1, (map_get (eP (eP eI eI) (eP eI eI)) (idxO_some hv5).2), rfl, (wk_impl_zero hv6), rfl, (pure_eql2 (by kernel_rfl)), ha1, ha1, ha1, ha1, ha1, ha1, ha1, ha1, ha1, ha1, rfl, rfl, rfl, rfl, trivial⟩)
      · refine k_ret ?_
        obtain rfl := Option.some.inj h
        exact e_ret (ls := [(.p (.bool w11), 2)]) (by kernel_rfl) rfl (by kernel_rfl) rfl
theorem wk_impl_negated {a0 : (Int × Int)}  {r : (Int × Int)} (h : impl_negated a0 = some r) : Meets Try.prog 96 [.v (.agg #[.int .i64 a0.1, .int .i64 a0.2])] { vals := [.p (.agg #[.int .i64 r.1, .int .i64 r.2])] } := by
  refine Meets_ofL (by kernel_rfl) Try.func96 rfl (by kernel_rfl) (l0 := [(0, .p (.agg #[.int .i64 a0.1, .int .i64 a0.2]))]) (by kernel_rfl) ?_
  unfold impl_negated at h
  refine k_sreg (r_go [(1, .box [.raw (.int .i64 a0.1), .raw (.int .i64 a0.2)]), (2, .box [.raw (.int .i64 0), .raw (.int .i64 0)])] [] [] (by kernel_rfl) trivial) ?_
  refine k_sreg (r_go [(2, .box [.raw (.int .i64 (w64 (0 - a0.1))), .raw (.int .i64 a0.2)])] [] [] (by kernel_rfl) trivial) ?_
  refine k_ret ?_
  obtain rfl := Option.some.inj h
  exact e_ret (ls := [(.p (.agg #[.int .i64 (w64 (0 - a0.1)), .int .i64 a0.2]), 2)]) (by kernel_rfl) rfl (by kernel_rfl) rfl
theorem wk_impl_areRats {a0 : (List (Int × Int))}  {r : Bool} (h : impl_areRats a0 = some r) : Meets Try.prog 94 [.d false [.sl none (a0.map (eP eI eI))]] { vals := [.p (.bool r)] } := by
  refine Meets_ofL (by kernel_rfl) Try.func94 rfl (by kernel_rfl) (l0 := [(0, .d false [.sl none (a0.map (eP eI eI))])]) (by kernel_rfl) ?_
  unfold impl_areRats at h
  refine k_sreg (r_go [(0, .d false [.sl none (a0.map (eP eI eI))])] [] [] (by kernel_rfl) trivial) ?_
  refine k_join (J := fun (x : Unit) => []) (K := fun x => impl_areRats_k1 x = some r) (fun x1 h => ?_) ?_
  · unfold impl_areRats_k1 at h
    refine k_sreg (r_go [(2, .p (.bool true))] [] [] (by kernel_rfl) trivial) ?_
    refine k_ret ?_
    obtain rfl := Option.some.inj h
    exact e_ret (ls := [(.p (.bool true), 2)]) (by kernel_rfl) rfl (by kernel_rfl) rfl
  · refine k_sreg (r_go [(5, .d false [.sl none (a0.map (eP eI eI))]), (6, .p (.int .i64 (a0.length : Int))), (7, .p (.int .i64 0))] [(1, {n := some a0.length})] [(a0.map (eP eI eI)).length = a0.length] (by kernel_rfl) ⟨(List.length_map ..), trivial⟩) ?_
    refine k_block ?_
    obtain ⟨y3, hl_x2, hk_x2⟩ := bind_some' h
    clear h
    refine k_loop (J := fun (x : Int) => [(5, .d false [.sl none (a0.map (eP eI eI))]), (6, .p (.int .i64 (a0.length : Int))), (7, .p (.int .i64 x))]) hl_x2 (wk_of (by kernel_rfl) (by kernel_rfl)) (fun x2 o_x2 h hy_x2 => ?_)
    unfold impl_areRats_b1 at h
    refine k_sreg (r_go [(5, .d false [.sl none (a0.map (eP eI eI))]), (6, .p (.int .i64 (a0.length : Int))), (7, .p (.int .i64 x2)), (8, .p (.bool (decide (x2 < (a0.length : Int)))))] [] [] (by kernel_rfl) trivial) ?_
    refine k_seq ?_
    refine k_cond (b := (decide (x2 < (a0.length : Int)))) (by kernel_rfl) (fun hc5_3 => ?_) (fun hc5_3 => ?_)
    · replace h := ite_t hc5_3 h
      refine k_skip ?_
      refine q_n ?_
      refine k_seq ?_
      refine k_block ?_
      replace h := bind_some' h
      obtain ⟨v5, hv5, h⟩ := h
      refine k_sreg (r_go [(4, .box [.raw (.int .i64 v5.1), .raw (.int .i64 v5.2)]), (5, .d false [.sl none (a0.map (eP eI eI))]), (6, .p (.int .i64 (a0.length : Int))), (7, .p (.int .i64 x2))] [(0, {row := some [.raw (.int .i64 v5.1), .raw (.int .i64 v5.2)]})] [0 ≤ x2, (a0.map (eP eI eI))[(Int.toNat x2)]? = some [.raw (.int .i64 v5.1), .raw (.int .i64 v5.2)]] (by kernel_rfl) ⟨(idxO_some hv5).1, (map_get (eP eI eI) (idxO_some hv5).2), trivial⟩) ?_
      replace h := bind_some' h
      obtain ⟨v6, hv6, h⟩ := h
      refine k_sreg (r_go [(5, .d false [.sl none (a0.map (eP eI eI))]), (6, .p (.int .i64 (a0.length : Int))), (7, .p (.int .i64 x2)), (13, .p (.bool (!v6)))] [(1, {call := some ([.v (.agg #[.int .i64 v5.1, .int .i64 v5.2])], [.p (.bool v6)], true)})] [([.v (.agg #[.int .i64 v5.1, .int .i64 v5.2])] : List Arg) = [.v (.agg #[.int .i64 v5.1, .int .i64 v5.2])], Meets Try.prog 97 ([.v (.agg #[.int .i64 v5.1, .int .i64 v5.2])] ++ []) { vals := [.p (.bool v6)] }, List.all [.p (.bool v6)] simpleR = true] (by kernel_rfl) ⟨rfl, (wk_impl_isRat hv6), rfl, trivial⟩) ?_
      refine k_cond (b := (!v6)) (by kernel_rfl) (fun hc6_6 => ?_) (fun hc6_6 => ?_)
      · replace h := ite_t hc6_6 h
        refine k_sreg (r_go [(2, .p (.bool false))] [] [] (by kernel_rfl) trivial) ?_
        refine k_ret ?_
        refine b_r ?_
        refine q_r ?_
        refine lq_r ?_
        refine b_r ?_
        refine q_r ?_
        have hyy := hy_x2 _ (Option.some.inj h).symm
        subst hyy
        have h := hk_x2
        dsimp only [Sum.elim] at h
        obtain rfl := Option.some.inj h
        exact e_ret (ls := [(.p (.bool false), 2)]) (by kernel_rfl) rfl (by kernel_rfl) rfl
      · replace h := ite_f hc6_6 h
        refine k_skip ?_
        refine b_n ?_
        refine q_n ?_
        refine k_reg (r_go [(5, .d false [.sl none (a0.map (eP eI eI))]), (6, .p (.int .i64 (a0.length : Int))), (7, .p (.int .i64 (w64 (x2 + 1))))] [] [] (by kernel_rfl) trivial) ?_
        exact lq_n (w64 (x2 + 1)) (Option.some.inj h).symm (wk_of (by kernel_rfl) (by kernel_rfl))
    · replace h := ite_f hc5_3 h
      refine k_exit ?_
      refine q_x ?_
      refine lq_x ?_
      refine b_x ?_
      have hyy := hy_x2 _ (Option.some.inj h).symm
      subst hyy
      have h := hk_x2
      dsimp only [Sum.elim] at h
      refine q_n ?_
      exact ⟨(), h, (wk_of (by kernel_rfl) (by kernel_rfl))⟩
theorem wk_impl_lowest {a0 : Int} {a1 : Int}  {r : ((Int × Int) × Bool)} (h : impl_lowest a0 a1 = some r) : Meets Try.prog 95 [.v (.int .i64 a0), .v (.int .i64 a1)] { vals := [.p (.agg #[.int .i64 r.1.1, .int .i64 r.1.2]), .p (.bool r.2)] } := by
  refine Meets_ofL (by kernel_rfl) Try.func95 rfl (by kernel_rfl) (l0 := [(0, .p (.int .i64 a0)), (1, .p (.int .i64 a1))]) (by kernel_rfl) ?_
  unfold impl_lowest at h
  refine k_sreg (r_go [(0, .p (.int .i64 a0)), (1, .p (.int .i64 a1)), (4, .box [.raw (.int .i64 0), .raw (.int .i64 0)])] [] [] (by kernel_rfl) trivial) ?_
  replace h := bind_some' h
  obtain ⟨v1, hv1, h⟩ := h
  refine k_sreg (r_go [(0, .p (.int .i64 a0)), (1, .p (.int .i64 a1)), (4, .box [.raw (.int .i64 0), .raw (.int .i64 0)]), (6, .p (.int .i64 v1))] [(2, {call := some ([.v (.int .i64 a0), .v (.int .i64 a1)], [.p (.int .i64 v1)], true)})] [([.v (.int .i64 a0), .v (.int .i64 a1)] : List Arg) = [.v (.int .i64 a0), .v (.int .i64 a1)], Meets Try.prog 98 ([.v (.int .i64 a0), .v (.int .i64 a1)] ++ []) { vals := [.p (.int .i64 v1)] }, List.all [.p (.int .i64 v1)] simpleR = true] (by kernel_rfl) ⟨rfl, (wk_impl_greatestDivisor hv1), rfl, trivial⟩) ?_
  refine k_join (J := fun (x : Int) => [(0, .p (.int .i64 a0)), (1, .p (.int .i64 a1)), (4, .box [.raw (.int .i64 0), .raw (.int .i64 0)]), (6, .p (.int .i64 x))]) (K := fun x => impl_lowest_k1 a0 a1 x = some r) (fun x2 h => ?_) ?_
  · unfold impl_lowest_k1 at h
    replace h := bind_some' h
    obtain ⟨u3, hu3, h⟩ := h
    refine k_sreg (r_draw Try_mixed 8 [] [(4, .box [.raw (.int .i64 0), .raw (.int .i64 0)]), (7, .box [.raw (.int .i64 (w64 (Int.tdiv a0 x2))), .raw (.int .i64 (w64 (Int.tdiv a1 x2)))])] [] [x2 ≠ (0 : Int), x2 ≠ (0 : Int)] (by kernel_rfl) ⟨(guardO_some hu3), (guardO_some hu3), trivial⟩) ?_
    refine k_seq ?_
    replace h := bind_some' h
    obtain ⟨v4, hv4, h⟩ := h
    refine k_sreg (r_go [(4, .box [.raw (.int .i64 0), .raw (.int .i64 0)]), (7, .box [.raw (.int .i64 (w64 (Int.tdiv a0 x2))), .raw (.int .i64 (w64 (Int.tdiv a1 x2)))]), (24, .p (.bool (!v4)))] [(1, {call := some ([.v (.agg #[.int .i64 (w64 (Int.tdiv a0 x2)), .int .i64 (w64 (Int.tdiv a1 x2))])], [.p (.bool v4)], true)})] [([.v (.agg #[.int .i64 (w64 (Int.tdiv a0 x2)), .int .i64 (w64 (Int.tdiv a1 x2))])] : List Arg) = [.v (.agg #[.int .i64 (w64 (Int.tdiv a0 x2)), .int .i64 (w64 (Int.tdiv a1 x2))])], Meets Try.prog 97 ([.v (.agg #[.int .i64 (w64 (Int.tdiv a0 x2)), .int .i64 (w64 (Int.tdiv a1 x2))])] ++ []) { vals := [.p (.bool v4)] }, List.all [.p (.bool v4)] simpleR = true] (by kernel_rfl) ⟨rfl, (wk_impl_isRat hv4), rfl, trivial⟩) ?_
    refine k_cond (b := (!v4)) (by kernel_rfl) (fun hc2_4 => ?_) (fun hc2_4 => ?_)
    · replace h := ite_t hc2_4 h
      refine k_sreg (r_go [(4, .box [.raw (.int .i64 0), .raw (.int .i64 0)]), (5, .p (.bool false))] [] [] (by kernel_rfl) trivial) ?_
      refine k_ret ?_
      refine q_r ?_
      obtain rfl := Option.some.inj h
      exact e_ret (ls := [(.p (.agg #[.int .i64 0, .int .i64 0]), 4), (.p (.bool false), 5)]) (by kernel_rfl) rfl (by kernel_rfl) rfl
    · replace h := ite_f hc2_4 h
      refine k_skip ?_
      refine q_n ?_
      refine k_sreg (r_go [(4, .box [.raw (.int .i64 (w64 (Int.tdiv a0 x2))), .raw (.int .i64 (w64 (Int.tdiv a1 x2)))]), (5, .p (.bool true))] [] [] (by kernel_rfl) trivial) ?_
      refine k_ret ?_
      obtain rfl := Option.some.inj h
      exact e_ret (ls := [(.p (.agg #[.int .i64 (w64 (Int.tdiv a0 x2)), .int .i64 (w64 (Int.tdiv a1 x2))]), 4), (.p (.bool true), 5)]) (by kernel_rfl) rfl (by kernel_rfl) rfl
  · refine k_sreg (r_go [(0, .p (.int .i64 a0)), (1, .p (.int .i64 a1)), (4, .box [.raw (.int .i64 0), .raw (.int .i64 0)]), (6, .p (.int .i64 v1)), (12, .p (.bool (decide (a1 < 0))))] [] [] (by kernel_rfl) trivial) ?_
    refine k_cond (b := (decide (a1 < 0))) (by kernel_rfl) (fun hc2_5 => ?_) (fun hc2_5 => ?_)
    · replace h := ite_t hc2_5 h
      refine k_reg (r_go [(0, .p (.int .i64 a0)), (1, .p (.int .i64 a1)), (4, .box [.raw (.int .i64 0), .raw (.int .i64 0)]), (6, .p (.int .i64 (w64 (0 - v1))))] [] [] (by kernel_rfl) trivial) ?_
      refine q_n ?_
      exact ⟨(w64 (0 - v1)), h, (wk_of (by kernel_rfl) (by kernel_rfl))⟩
    · replace h := ite_f hc2_5 h
      refine k_skip ?_
      refine q_n ?_
      exact ⟨v1, h, (wk_of (by kernel_rfl) (by kernel_rfl))⟩
theorem wk_impl_AddRats {a0 : (Int × Int)} {a1 : (Int × Int)}  {r : ((Int × Int) × Bool)} (h : impl_AddRats a0 a1 = some r) : Meets Try.prog 88 [.v (.agg #[.int .i64 a0.1, .int .i64 a0.2]), .v (.agg #[.int .i64 a1.1, .int .i64 a1.2])] { vals := [.p (.agg #[.int .i64 r.1.1, .int .i64 r.1.2]), .p (.bool r.2)] } := by
  refine Meets_ofL (by kernel_rfl) Try.func88 rfl (by kernel_rfl) (l0 := [(0, .p (.agg #[.int .i64 a0.1, .int .i64 a0.2])), (1, .p (.agg #[.int .i64 a1.1, .int .i64 a1.2]))]) (by kernel_rfl) ?_
  unfold impl_AddRats at h
  refine k_sreg (r_go [(2, .box [.raw (.int .i64 a0.1), .raw (.int .i64 a0.2)]), (3, .box [.raw (.int .i64 a1.1), .raw (.int .i64 a1.2)]), (4, .box [.raw (.int .i64 0), .raw (.int .i64 0)])] [] [] (by kernel_rfl) trivial) ?_
  refine k_seq ?_
  replace h := bind_some' h
  obtain ⟨v1, hv1, h⟩ := h
  refine k_sreg (r_go [(2, .box [.raw (.int .i64 a0.1), .raw (.int .i64 a0.2)]), (3, .box [.raw (.int .i64 a1.1), .raw (.int .i64 a1.2)]), (4, .box [.raw (.int .i64 0), .raw (.int .i64 0)]), (10, .p (.bool (!v1)))] [(3, {call := some ([.d false [.sl none (([a0, a1]).map (eP eI eI))]], [.p (.bool v1)], true)})] [([.d false [.sl none (eraL (([a0, a1]).map (eP eI eI)))]] : List Arg) = [.d false [.sl none (([a0, a1]).map (eP eI eI))]], Meets Try.prog 94 ([.d false [.sl none (([a0, a1]).map (eP eI eI))]] ++ []) { vals := [.p (.bool v1)] }, List.all [.p (.bool v1)] simpleR = true] (by kernel_rfl) ⟨(by simp only [eraL_enc (h := (eP eI eI)) (era_P er_I er_I)]), (wk_impl_areRats hv1), rfl, trivial⟩) ?_
  refine k_cond (b := (!v1)) (by kernel_rfl) (fun hc2_1 => ?_) (fun hc2_1 => ?_)
  · replace h := ite_t hc2_1 h
    refine k_sreg (r_go [(4, .box [.raw (.int .i64 0), .raw (.int .i64 0)]), (5, .p (.bool false))] [] [] (by kernel_rfl) trivial) ?_
    refine k_ret ?_
    refine q_r ?_
    obtain rfl := Option.some.inj h
    exact e_ret (ls := [(.p (.agg #[.int .i64 0, .int .i64 0]), 4), (.p (.bool false), 5)]) (by kernel_rfl) rfl (by kernel_rfl) rfl
  · replace h := ite_f hc2_1 h
    refine k_skip ?_
    refine q_n ?_
    replace h := bind_some' h
    obtain ⟨v3, hv3, h⟩ := h
    refine k_sreg (r_go [(4, .box [.raw (.int .i64 v3.1.1), .raw (.int .i64 v3.1.2)]), (5, .p (.bool v3.2))] [(16, {call := some ([.v (.int .i64 (w64 ((w64 (a0.1 * a1.2)) + (w64 (a1.1 * a0.2))))), .v (.int .i64 (w64 (a0.2 * a1.2)))], [.p (.agg #[.int .i64 v3.1.1, .int .i64 v3.1.2]), .p (.bool v3.2)], true)})] [([.v (.int .i64 (w64 ((w64 (a0.1 * a1.2)) + (w64 (a1.1 * a0.2))))), .v (.int .i64 (w64 (a0.2 * a1.2)))] : List Arg) = [.v (.int .i64 (w64 ((w64 (a0.1 * a1.2)) + (w64 (a1.1 * a0.2))))), .v (.int .i64 (w64 (a0.2 * a1.2)))], Meets Try.prog 95 ([.v (.int .i64 (w64 ((w64 (a0.1 * a1.2)) + (w64 (a1.1 * a0.2))))), .v (.int .i64 (w64 (a0.2 * a1.2)))] ++ []) { vals := [.p (.agg #[.int .i64 v3.1.1, .int .i64 v3.1.2]), .p (.bool v3.2)] }, List.all [.p (.agg #[.int .i64 v3.1.1, .int .i64 v3.1.2]), .p (.bool v3.2)] simpleR = true] (by kernel_rfl) ⟨rfl, (wk_impl_lowest hv3), rfl, trivial⟩) ?_
    refine k_ret ?_
    obtain rfl := Option.some.inj h
    exact e_ret (ls := [(.p (.agg #[.int .i64 v3.1.1, .int .i64 v3.1.2]), 4), (.p (.bool v3.2), 5)]) (by kernel_rfl) rfl (by kernel_rfl) rfl
theorem wk_impl_SubtractRats {a0 : (Int × Int)} {a1 : (Int × Int)}  {r : ((Int × Int) × Bool)} (h : impl_SubtractRats a0 a1 = some r) : Meets Try.prog 90 [.v (.agg #[.int .i64 a0.1, .int .i64 a0.2]), .v (.agg #[.int .i64 a1.1, .int .i64 a1.2])] { vals := [.p (.agg #[.int .i64 r.1.1, .int .i64 r.1.2]), .p (.bool r.2)] } := by
  refine Meets_ofL (by kernel_rfl) Try.func90 rfl (by kernel_rfl) (l0 := [(0, .p (.agg #[.int .i64 a0.1, .int .i64 a0.2])), (1, .p (.agg #[.int .i64 a1.1, .int .i64 a1.2]))]) (by kernel_rfl) ?_
  unfold impl_SubtractRats at h
  refine k_sreg (r_go [(2, .box [.raw (.int .i64 a0.1), .raw (.int .i64 a0.2)]), (3, .box [.raw (.int .i64 a1.1), .raw (.int .i64 a1.2)]), (4, .box [.raw (.int .i64 0), .raw (.int .i64 0)])] [] [] (by kernel_rfl) trivial) ?_
  replace h := bind_some' h
  obtain ⟨v1, hv1, h⟩ := h
  replace h := bind_some' h
  obtain ⟨v2, hv2, h⟩ := h
  refine k_sreg (r_draw Try_mixed 6 [] [(4, .box [.raw (.int .i64 v2.1.1), .raw (.int .i64 v2.1.2)]), (5, .p (.bool v2.2))] [(2, {call := some ([.v (.agg #[.int .i64 a1.1, .int .i64 a1.2])], [.p (.agg #[.int .i64 v1.1, .int .i64 v1.2])], true)}), (3, {call := some ([.v (.agg #[.int .i64 a0.1, .int .i64 a0.2]), .v (.agg #[.int .i64 v1.1, .int .i64 v1.2])], [.p (.agg #[.int .i64 v2.1.1, .int .i64 v2.1.2]), .p (.bool v2.2)], true)})] [([.v (.agg #[.int .i64 a1.1, .int .i64 a1.2])] : List Arg) = [.v (.agg #[.int .i64 a1.1, .int .i64 a1.2])], Meets Try.prog 96 ([.v (.agg #[.int .i64 a1.1, .int .i64 a1.2])] ++ []) { vals := [.p (.agg #[.int .i64 v1.1, .int .i64 v1.2])] }, List.all [.p (.agg #[.int .i64 v1.1, .int .i64 v1.2])] simpleR = true, ([.v (.agg #[.int .i64 a0.1, .int .i64 a0.2]), .v (.agg #[.int .i64 v1.1, .int .i64 v1.2])] : List Arg) = [.v (.agg #[.int .i64 a0.1, .int .i64 a0.2]), .v (.agg #[.int .i64 v1.1, .int .i64 v1.2])], Meets Try.prog 88 ([.v (.agg #[.int .i64 a0.1, .int .i64 a0.2]), .v (.agg #[.int .i64 v1.1, .int .i64 v1.2])] ++ []) { vals := [.p (.agg #[.int .i64 v2.1.1, .int .i64 v2.1.2]), .p (.bool v2.2)] }, List.all [.p (.agg #[.int .i64 v2.1.1, .int .i64 v2.1.2]), .p (.bool v2.2)] simpleR = true] (by kernel_rfl) ⟨rfl, (wk_impl_negated hv1), rfl, rfl, (wk_impl_AddRats hv2), rfl, trivial⟩) ?_
  refine k_ret ?_
  obtain rfl := Option.some.inj h
  exact e_ret (ls := [(.p (.agg #[.int .i64 v2.1.1, .int .i64 v2.1.2]), 4), (.p (.bool v2.2), 5)]) (by kernel_rfl) rfl (by kernel_rfl) rfl
theorem wk_impl_calc_keep {a0 : Bool} {a1 : (Int × Int)} {a2 : Bool}  {r : ((Int × Int) × Bool)} (h : impl_calc_keep a0 a1 a2 = some r) : MeetsB Try.prog 87 (.box [.raw (.bool a0)]) [.v (.agg #[.int .i64 a1.1, .int .i64 a1.2]), .v (.bool a2)] [.p (.agg #[.int .i64 r.1.1, .int .i64 r.1.2])] (.box [.raw (.bool r.2)]) := by
  refine MeetsB_ofL (by kernel_rfl) Try.func87 rfl (by kernel_rfl) rfl (l0 := [(0, .box [.raw (.bool a0)]), (1, .p (.agg #[.int .i64 a1.1, .int .i64 a1.2])), (2, .p (.bool a2))]) (by kernel_rfl) ?_
  unfold impl_calc_keep at h
  refine k_sreg (r_go [(0, .box [.raw (.bool a0)]), (2, .p (.bool a2)), (4, .box [.raw (.int .i64 a1.1), .raw (.int .i64 a1.2)]), (6, .box [.raw (.int .i64 0), .raw (.int .i64 0)])] [] [] (by kernel_rfl) trivial) ?_
  refine k_seq ?_
  refine k_sreg (r_go [(0, .box [.raw (.bool a0)]), (4, .box [.raw (.int .i64 a1.1), .raw (.int .i64 a1.2)]), (6, .box [.raw (.int .i64 0), .raw (.int .i64 0)]), (8, .p (.bool (!a2)))] [] [] (by kernel_rfl) trivial) ?_
  refine k_cond (b := (!a2)) (by kernel_rfl) (fun hc2_0 => ?_) (fun hc2_0 => ?_)
  · replace h := ite_t hc2_0 h
    refine k_sreg (r_go [(0, .box [.raw (.bool true)]), (6, .box [.raw (.int .i64 0), .raw (.int .i64 0)])] [] [] (by kernel_rfl) trivial) ?_
    replace h := bind_some' h
    obtain ⟨v2, hv2, h⟩ := h
    refine k_sreg (r_go [(0, .box [.raw (.bool true)]), (6, .box [.raw (.int .i64 v2.1), .raw (.int .i64 v2.2)])] [(0, {call := some ([], [.p (.agg #[.int .i64 v2.1, .int .i64 v2.2])], true)})] [([] : List Arg) = [], Meets Try.prog 67 ([] ++ []) { vals := [.p (.agg #[.int .i64 v2.1, .int .i64 v2.2])] }, List.all [.p (.agg #[.int .i64 v2.1, .int .i64 v2.2])] simpleR = true] (by kernel_rfl) ⟨rfl, (wk_impl_zero hv2), rfl, trivial⟩) ?_
    refine k_ret ?_
    refine q_r ?_
    obtain rfl := Option.some.inj h
    exact eb_ret (ls := [(.p (.agg #[.int .i64 v2.1, .int .i64 v2.2]), 6)]) (by kernel_rfl) rfl rfl (by kernel_rfl) (by kernel_rfl)
  · replace h := ite_f hc2_0 h
    refine k_skip ?_
    refine q_n ?_
    refine k_sreg (r_go [(0, .box [.raw (.bool a0)]), (6, .box [.raw (.int .i64 a1.1), .raw (.int .i64 a1.2)])] [] [] (by kernel_rfl) trivial) ?_
    refine k_ret ?_
    obtain rfl := Option.some.inj h
    exact eb_ret (ls := [(.p (.agg #[.int .i64 a1.1, .int .i64 a1.2]), 6)]) (by kernel_rfl) rfl rfl (by kernel_rfl) (by kernel_rfl)
theorem wk_impl_calc_sub {a0 : Bool} {a1 : (Int × Int)} {a2 : (Int × Int)}  {r : ((Int × Int) × Bool)} (h : impl_calc_sub a0 a1 a2 = some r) : MeetsB Try.prog 73 (.box [.raw (.bool a0)]) [.v (.agg #[.int .i64 a1.1, .int .i64 a1.2]), .v (.agg #[.int .i64 a2.1, .int .i64 a2.2])] [.p (.agg #[.int .i64 r.1.1, .int .i64 r.1.2])] (.box [.raw (.bool r.2)]) := by
  refine MeetsB_ofL (by kernel_rfl) Try.func73 rfl (by kernel_rfl) rfl (l0 := [(0, .box [.raw (.bool a0)]), (1, .p (.agg #[.int .i64 a1.1, .int .i64 a1.2])), (2, .p (.agg #[.int .i64 a2.1, .int .i64 a2.2]))]) (by kernel_rfl) ?_
  unfold impl_calc_sub at h
  refine k_sreg (r_go [(0, .box [.raw (.bool a0)]), (4, .box [.raw (.int .i64 a1.1), .raw (.int .i64 a1.2)]), (5, .box [.raw (.int .i64 a2.1), .raw (.int .i64 a2.2)]), (6, .box [.raw (.int .i64 0), .raw (.int .i64 0)])] [] [] (by kernel_rfl) trivial) ?_
  replace h := bind_some' h
  obtain ⟨v1, hv1, h⟩ := h
  replace h := bind_some' h
  obtain ⟨v2, hv2, h⟩ := h
  refine k_sreg (r_go [(0, .box [.raw (.bool v2.2)]), (6, .box [.raw (.int .i64 v2.1.1), .raw (.int .i64 v2.1.2)])] [(3, {call := some ([.v (.agg #[.int .i64 a1.1, .int .i64 a1.2]), .v (.agg #[.int .i64 a2.1, .int .i64 a2.2])], [.p (.agg #[.int .i64 v1.1.1, .int .i64 v1.1.2]), .p (.bool v1.2)], true)}), (6, {lend := some ([.v (.agg #[.int .i64 v1.1.1, .int .i64 v1.1.2]), .v (.bool v1.2)], [.p (.agg #[.int .i64 v2.1.1, .int .i64 v2.1.2])], .box [.raw (.bool v2.2)], true)})] [([.v (.agg #[.int .i64 a1.1, .int .i64 a1.2]), .v (.agg #[.int .i64 a2.1, .int .i64 a2.2])] : List Arg) = [.v (.agg #[.int .i64 a1.1, .int .i64 a1.2]), .v (.agg #[.int .i64 a2.1, .int .i64 a2.2])], Meets Try.prog 90 ([.v (.agg #[.int .i64 a1.1, .int .i64 a1.2]), .v (.agg #[.int .i64 a2.1, .int .i64 a2.2])] ++ []) { vals := [.p (.agg #[.int .i64 v1.1.1, .int .i64 v1.1.2]), .p (.bool v1.2)] }, List.all [.p (.agg #[.int .i64 v1.1.1, .int .i64 v1.1.2]), .p (.bool v1.2)] simpleR = true, ([.v (.agg #[.int .i64 v1.1.1, .int .i64 v1.1.2]), .v (.bool v1.2)] : List Arg) = [.v (.agg #[.int .i64 v1.1.1, .int .i64 v1.1.2]), .v (.bool v1.2)], MeetsB Try.prog 87 (.box [.raw (.bool a0)]) [.v (.agg #[.int .i64 v1.1.1, .int .i64 v1.1.2]), .v (.bool v1.2)] [.p (.agg #[.int .i64 v2.1.1, .int .i64 v2.1.2])] (.box [.raw (.bool v2.2)]), (List.all [.p (.agg #[.int .i64 v2.1.1, .int .i64 v2.1.2])] simpleR && wnS (.box [.raw (.bool v2.2)])) = true] (by kernel_rfl) ⟨rfl, (wk_impl_SubtractRats hv1), rfl, rfl, (wk_impl_calc_keep hv2), (ls_t rfl (wnc rfl)), trivial⟩) ?_
  refine k_ret ?_
  obtain rfl := Option.some.inj h
  exact eb_ret (ls := [(.p (.agg #[.int .i64 v2.1.1, .int .i64 v2.1.2]), 6)]) (by kernel_rfl) rfl rfl (by kernel_rfl) (by kernel_rfl)
theorem wk_impl_DivideRats {a0 : (Int × Int)} {a1 : (Int × Int)}  {r : ((Int × Int) × Bool)} (h : impl_DivideRats a0 a1 = some r) : Meets Try.prog 91 [.v (.agg #[.int .i64 a0.1, .int .i64 a0.2]), .v (.agg #[.int .i64 a1.1, .int .i64 a1.2])] { vals := [.p (.agg #[.int .i64 r.1.1, .int .i64 r.1.2]), .p (.bool r.2)] } := by
  refine Meets_ofL (by kernel_rfl) Try.func91 rfl (by kernel_rfl) (l0 := [(0, .p (.agg #[.int .i64 a0.1, .int .i64 a0.2])), (1, .p (.agg #[.int .i64 a1.1, .int .i64 a1.2]))]) (by kernel_rfl) ?_
  unfold impl_DivideRats at h
  refine k_sreg (r_go [(2, .box [.raw (.int .i64 a0.1), .raw (.int .i64 a0.2)]), (3, .box [.raw (.int .i64 a1.1), .raw (.int .i64 a1.2)]), (4, .box [.raw (.int .i64 0), .raw (.int .i64 0)])] [] [] (by kernel_rfl) trivial) ?_
  refine k_seq ?_
  replace h := bind_some' h
  obtain ⟨v1, hv1, h⟩ := h
  refine k_sreg (l1 := [(2, .box [.raw (.int .i64 a0.1), .raw (.int .i64 a0.2)]), (3, .box [.raw (.int .i64 a1.1), .raw (.int .i64 a1.2)]), (4, .box [.raw (.int .i64 0), .raw (.int .i64 0)]), (15, .p (.bool ((!v1) || (a1.1 == 0))))]) ?_ ?_
  · rcases Bool.eq_false_or_eq_true (!v1) with ha0 | ha0
    · exact RegOk.of_eq (l2 := [(2, .box [.raw (.int .i64 a0.1), .raw (.int .i64 a0.2)]), (3, .box [.raw (.int .i64 a1.1), .raw (.int .i64 a1.2)]), (4, .box [.raw (.int .i64 0), .raw (.int .i64 0)]), (15, .p (.bool ((!v1) || (a1.1 == 0))))]) (r_go [(2, .box [.raw (.int .i64 a0.1), .raw (.int .i64 a0.2)]), (3, .box [.raw (.int .i64 a1.1), .raw (.int .i64 a1.2)]), (4, .box [.raw (.int .i64 0), .raw (.int .i64 0)]), (15, .p (.bool true))] [(3, {call := some ([.d false [.sl none (([a0, a1]).map (eP eI eI))]], [.p (.bool v1)], true)}), (6, {g := some true}), (7, {g := some true}), (8, {g := some true}), (9, {b := some true})] [([.d false [.sl none (eraL (([a0, a1]).map (eP eI eI)))]] : List Arg) = [.d false [.sl none (([a0, a1]).map (eP eI eI))]], Meets Try.prog 94 ([.d false [.sl none (([a0, a1]).map (eP eI eI))]] ++ []) { vals := [.p (.bool v1)] }, List.all [.p (.bool v1)] simpleR = true, (!v1) = true, (!v1) = true, (!v1) = true, (!v1) = true] (by kernel_rfl) ⟨(by simp only [eraL_enc (h := (eP eI eI)) (era_P er_I er_I)]), (wk_impl_areRats hv1), rfl, ha0, ha0, ha0, ha0, trivial⟩) (by simp [ha0])
    · exact RegOk.of_eq (l2 := [(2, .box [.raw (.int .i64 a0.1), .raw (.int .i64 a0.2)]), (3, .box [.raw (.int .i64 a1.1), .raw (.int .i64 a1.2)]), (4, .box [.raw (.int .i64 0), .raw (.int .i64 0)]), (15, .p (.bool ((!v1) || (a1.1 == 0))))]) (r_go [(2, .box [.raw (.int .i64 a0.1), .raw (.int .i64 a0.2)]), (3, .box [.raw (.int .i64 a1.1), .raw (.int .i64 a1.2)]), (4, .box [.raw (.int .i64 0), .raw (.int .i64 0)]), (15, .p (.bool (a1.1 == 0)))] [(3, {call := some ([.d false [.sl none (([a0, a1]).map (eP eI eI))]], [.p (.bool v1)], true)}), (6, {g := some false}), (7, {g := some false}), (8, {g := some false}), (9, {b := some false})] [([.d false [.sl none (eraL (([a0, a1]).map (eP eI eI)))]] : List Arg) = [.d false [.sl none (([a0, a1]).map (eP eI eI))]], Meets Try.prog 94 ([.d false [.sl none (([a0, a1]).map (eP eI eI))]] ++ []) { vals := [.p (.bool v1)] }, List.all [.p (.bool v1)] simpleR = true, (!v1) = false, (!v1) = false, (!v1) = false, (!v1) = false] (by kernel_rfl) ⟨(by simp only [eraL_enc (h := (eP eI eI)) (era_P er_I er_I)]), (wk_impl_areRats hv1), rfl, ha0, ha0, ha0, ha0, trivial⟩) (by simp [ha0])
  · refine k_cond (b := ((!v1) || (a1.1 == 0))) (by kernel_rfl) (fun hc2_1 => ?_) (fun hc2_1 => ?_)
    · replace h := ite_t hc2_1 h
      refine k_sreg (r_go [(4, .box [.raw (.int .i64 0), .raw (.int .i64 0)]), (5, .p (.bool false))] [] [] (by kernel_rfl) trivial) ?_
      refine k_ret ?_
      refine q_r ?_
      obtain rfl := Option.some.inj h
      exact e_ret (ls := [(.p (.agg #[.int .i64 0, .int .i64 0]), 4), (.p (.bool false), 5)]) (by kernel_rfl) rfl (by kernel_rfl) rfl
    · replace h := ite_f hc2_1 h
      refine k_skip ?_
      refine q_n ?_
      replace h := bind_some' h
      obtain ⟨v3, hv3, h⟩ := h
      refine k_sreg (r_go [(4, .box [.raw (.int .i64 v3.1.1), .raw (.int .i64 v3.1.2)]), (5, .p (.bool v3.2))] [(10, {call := some ([.v (.int .i64 (w64 (a0.1 * a1.2))), .v (.int .i64 (w64 (a0.2 * a1.1)))], [.p (.agg #[.int .i64 v3.1.1, .int .i64 v3.1.2]), .p (.bool v3.2)], true)})] [([.v (.int .i64 (w64 (a0.1 * a1.2))), .v (.int .i64 (w64 (a0.2 * a1.1)))] : List Arg) = [.v (.int .i64 (w64 (a0.1 * a1.2))), .v (.int .i64 (w64 (a0.2 * a1.1)))], Meets Try.prog 95 ([.v (.int .i64 (w64 (a0.1 * a1.2))), .v (.int .i64 (w64 (a0.2 * a1.1)))] ++ []) { vals := [.p (.agg #[.int .i64 v3.1.1, .int .i64 v3.1.2]), .p (.bool v3.2)] }, List.all [.p (.agg #[.int .i64 v3.1.1, .int .i64 v3.1.2]), .p (.bool v3.2)] simpleR = true] (by kernel_rfl) ⟨rfl, (wk_impl_lowest hv3), rfl, trivial⟩) ?_
      refine k_ret ?_
      obtain rfl := Option.some.inj h
      exact e_ret (ls := [(.p (.agg #[.int .i64 v3.1.1, .int .i64 v3.1.2]), 4), (.p (.bool v3.2), 5)]) (by kernel_rfl) rfl (by kernel_rfl) rfl
theorem wk_impl_calc_div {a0 : Bool} {a1 : (Int × Int)} {a2 : (Int × Int)}  {r : ((Int × Int) × Bool)} (h : impl_calc_div a0 a1 a2 = some r) : MeetsB Try.prog 74 (.box [.raw (.bool a0)]) [.v (.agg #[.int .i64 a1.1, .int .i64 a1.2]), .v (.agg #[.int .i64 a2.1, .int .i64 a2.2])] [.p (.agg #[.int .i64 r.1.1, .int .i64 r.1.2])] (.box [.raw (.bool r.2)]) := by
  refine MeetsB_ofL (by kernel_rfl) Try.func74 rfl (by kernel_rfl) rfl (l0 := [(0, .box [.raw (.bool a0)]), (1, .p (.agg #[.int .i64 a1.1, .int .i64 a1.2])), (2, .p (.agg #[.int .i64 a2.1, .int .i64 a2.2]))]) (by kernel_rfl) ?_
  unfold impl_calc_div at h
  refine k_sreg (r_go [(0, .box [.raw (.bool a0)]), (4, .box [.raw (.int .i64 a1.1), .raw (.int .i64 a1.2)]), (5, .box [.raw (.int .i64 a2.1), .raw (.int .i64 a2.2)]), (6, .box [.raw (.int .i64 0), .raw (.int .i64 0)])] [] [] (by kernel_rfl) trivial) ?_
  replace h := bind_some' h
  obtain ⟨v1, hv1, h⟩ := h
  replace h := bind_some' h
  obtain ⟨v2, hv2, h⟩ := h
  refine k_sreg (r_go [(0, .box [.raw (.bool v2.2)]), (6, .box [.raw (.int .i64 v2.1.1), .raw (.int .i64 v2.1.2)])] [(3, {call := some ([.v (.agg #[.int .i64 a1.1, .int .i64 a1.2]), .v (.agg #[.int .i64 a2.1, .int .i64 a2.2])], [.p (.agg #[.int .i64 v1.1.1, .int .i64 v1.1.2]), .p (.bool v1.2)], true)}), (6, {lend := some ([.v (.agg #[.int .i64 v1.1.1, .int .i64 v1.1.2]), .v (.bool v1.2)], [.p (.agg #[.int .i64 v2.1.1, .int .i64 v2.1.2])], .box [.raw (.bool v2.2)], true)})] [([.v (.agg #[.int .i64 a1.1, .int .i64 a1.2]), .v (.agg #[.int .i64 a2.1, .int .i64 a2.2])] : List Arg) = [.v (.agg #[.int .i64 a1.1, .int .i64 a1.2]), .v (.agg #[.int .i64 a2.1, .int .i64 a2.2])], Meets Try.prog 91 ([.v (.agg #[.int .i64 a1.1, .int .i64 a1.2]), .v (.agg #[.int .i64 a2.1, .int .i64 a2.2])] ++ []) { vals := [.p (.agg #[.int .i64 v1.1.1, .int .i64 v1.1.2]), .p (.bool v1.2)] }, List.all [.p (.agg #[.int .i64 v1.1.1, .int .i64 v1.1.2]), .p (.bool v1.2)] simpleR = true, ([.v (.agg #[.int .i64 v1.1.1, .int .i64 v1.1.2]), .v (.bool v1.2)] : List Arg) = [.v (.agg #[.int .i64 v1.1.1, .int .i64 v1.1.2]), .v (.bool v1.2)], MeetsB Try.prog 87 (.box [.raw (.bool a0)]) [.v (.agg #[.int .i64 v1.1.1, .int .i64 v1.1.2]), .v (.bool v1.2)] [.p (.agg #[.int .i64 v2.1.1, .int .i64 v2.1.2])] (.box [.raw (.bool v2.2)]), (List.all [.p (.agg #[.int .i64 v2.1.1, .int .i64 v2.1.2])] simpleR && wnS (.box [.raw (.bool v2.2)])) = true] (by kernel_rfl) ⟨rfl, (wk_impl_DivideRats hv1), rfl, rfl, (wk_impl_calc_keep hv2), (ls_t rfl (wnc rfl)), trivial⟩) ?_
  refine k_ret ?_
  obtain rfl := Option.some.inj h
  exact eb_ret (ls := [(.p (.agg #[.int .i64 v2.1.1, .int .i64 v2.1.2]), 6)]) (by kernel_rfl) rfl rfl (by kernel_rfl) (by kernel_rfl)
theorem wk_impl_calc_slope {a0 : Bool} {a1 : ((Int × Int) × (Int × Int))} {a2 : ((Int × Int) × (Int × Int))}  {r : ((Int × Int) × Bool)} (h : impl_calc_slope a0 a1 a2 = some r) : MeetsB Try.prog 58 (.box [.raw (.bool a0)]) [.v (.agg #[.int .i64 a1.1.1, .int .i64 a1.1.2, .int .i64 a1.2.1, .int .i64 a1.2.2]), .v (.agg #[.int .i64 a2.1.1, .int .i64 a2.1.2, .int .i64 a2.2.1, .int .i64 a2.2.2])] [.p (.agg #[.int .i64 r.1.1, .int .i64 r.1.2])] (.box [.raw (.bool r.2)]) := by
  refine MeetsB_ofL (by kernel_rfl) Try.func58 rfl (by kernel_rfl) rfl (l0 := [(0, .box [.raw (.bool a0)]), (1, .p (.agg #[.int .i64 a1.1.1, .int .i64 a1.1.2, .int .i64 a1.2.1, .int .i64 a1.2.2])), (2, .p (.agg #[.int .i64 a2.1.1, .int .i64 a2.1.2, .int .i64 a2.2.1, .int .i64 a2.2.2]))]) (by kernel_rfl) ?_
  unfold impl_calc_slope at h
  refine k_sreg (r_go [(0, .box [.raw (.bool a0)]), (4, .box [.raw (.int .i64 a1.1.1), .raw (.int .i64 a1.1.2), .raw (.int .i64 a1.2.1), .raw (.int .i64 a1.2.2)]), (5, .box [.raw (.int .i64 a2.1.1), .raw (.int .i64 a2.1.2), .raw (.int .i64 a2.2.1), .raw (.int .i64 a2.2.2)]), (6, .box [.raw (.int .i64 0), .raw (.int .i64 0)])] [] [] (by kernel_rfl) trivial) ?_
  replace h := bind_some' h
  obtain ⟨v1, hv1, h⟩ := h
  replace h := bind_some' h
  obtain ⟨v2, hv2, h⟩ := h
  replace h := bind_some' h
  obtain ⟨v3, hv3, h⟩ := h
  refine k_sreg (r_draw Try_mixed 13 [(6, 0), (12, 0)] [(0, .box [.raw (.bool v3.2)]), (6, .box [.raw (.int .i64 v3.1.1), .raw (.int .i64 v3.1.2)])] [(6, {lend := some ([.v (.agg #[.int .i64 a2.2.1, .int .i64 a2.2.2]), .v (.agg #[.int .i64 a1.2.1, .int .i64 a1.2.2])], [.p (.agg #[.int .i64 v1.1.1, .int .i64 v1.1.2])], .box [.raw (.bool v1.2)], true)}), (12, {lend := some ([.v (.agg #[.int .i64 a2.1.1, .int .i64 a2.1.2]), .v (.agg #[.int .i64 a1.1.1, .int .i64 a1.1.2])], [.p (.agg #[.int .i64 v2.1.1, .int .i64 v2.1.2])], .box [.raw (.bool v2.2)], true)}), (13, {lend := some ([.v (.agg #[.int .i64 v1.1.1, .int .i64 v1.1.2]), .v (.agg #[.int .i64 v2.1.1, .int .i64 v2.1.2])], [.p (.agg #[.int .i64 v3.1.1, .int .i64 v3.1.2])], .box [.raw (.bool v3.2)], true)})] [([.v (.agg #[.int .i64 a2.2.1, .int .i64 a2.2.2]), .v (.agg #[.int .i64 a1.2.1, .int .i64 a1.2.2])] : List Arg) = [.v (.agg #[.int .i64 a2.2.1, .int .i64 a2.2.2]), .v (.agg #[.int .i64 a1.2.1, .int .i64 a1.2.2])], MeetsB Try.prog 73 (.box [.raw (.bool a0)]) [.v (.agg #[.int .i64 a2.2.1, .int .i64 a2.2.2]), .v (.agg #[.int .i64 a1.2.1, .int .i64 a1.2.2])] [.p (.agg #[.int .i64 v1.1.1, .int .i64 v1.1.2])] (.box [.raw (.bool v1.2)]), List.all [.p (.agg #[.int .i64 v1.1.1, .int .i64 v1.1.2])] simpleR = true, ([.v (.agg #[.int .i64 a2.1.1, .int .i64 a2.1.2]), .v (.agg #[.int .i64 a1.1.1, .int .i64 a1.1.2])] : List Arg) = [.v (.agg #[.int .i64 a2.1.1, .int .i64 a2.1.2]), .v (.agg #[.int .i64 a1.1.1, .int .i64 a1.1.2])], MeetsB Try.prog 73 (.box [.raw (.bool v1.2)]) [.v (.agg #[.int .i64 a2.1.1, .int .i64 a2.1.2]), .v (.agg #[.int .i64 a1.1.1, .int .i64 a1.1.2])] [.p (.agg #[.int .i64 v2.1.1, .int .i64 v2.1.2])] (.box [.raw (.bool v2.2)]), List.all [.p (.agg #[.int .i64 v2.1.1, .int .i64 v2.1.2])] simpleR = true, ([.v (.agg #[.int .i64 v1.1.1, .int .i64 v1.1.2]), .v (.agg #[.int .i64 v2.1.1, .int .i64 v2.1.2])] : List Arg) = [.v (.agg #[.int .i64 v1.1.1, .int .i64 v1.1.2]), .v (.agg #[.int .i64 v2.1.1, .int .i64 v2.1.2])], MeetsB Try.prog 74 (.box [.raw (.bool v2.2)]) [.v (.agg #[.int .i64 v1.1.1, .int .i64 v1.1.2]), .v (.agg #[.int .i64 v2.1.1, .int .i64 v2.1.2])] [.p (.agg #[.int .i64 v3.1.1, .int .i64 v3.1.2])] (.box [.raw (.bool v3.2)]), (List.all [.p (.agg #[.int .i64 v3.1.1, .int .i64 v3.1.2])] simpleR && wnS (.box [.raw (.bool v3.2)])) = true] (by kernel_rfl) ⟨rfl, (wk_impl_calc_sub hv1), rfl, rfl, (wk_impl_calc_sub hv2), rfl, rfl, (wk_impl_calc_div hv3), (ls_t rfl (wnc rfl)), trivial⟩) ?_
  refine k_ret ?_
  obtain rfl := Option.some.inj h
  exact eb_ret (ls := [(.p (.agg #[.int .i64 v3.1.1, .int .i64 v3.1.2]), 6)]) (by kernel_rfl) rfl rfl (by kernel_rfl) (by kernel_rfl)
theorem wk_impl_slopes {a0 : (List ((Int × Int) × (Int × Int)))}  {r : (List (Int × Int))} (h : impl_slopes a0 = some r) : Meets Try.prog 54 [.d false [.sl none (a0.map (eP (eP eI eI) (eP eI eI)))]] { vals := [.ov false [.sl (some 39) (r.map (eP eI eI))]] } := by
  refine Meets_ofL (by kernel_rfl) Try.func54 rfl (by kernel_rfl) (l0 := [(0, .d false [.sl none (a0.map (eP (eP eI eI) (eP eI eI)))])]) (by kernel_rfl) ?_
  unfold impl_slopes at h
  refine k_sreg (r_go [(0, .d false [.sl none (a0.map (eP (eP eI eI) (eP eI eI)))])] [] [] (by kernel_rfl) trivial) ?_
  refine k_sreg (r_go [(0, .d false [.sl none (a0.map (eP (eP eI eI) (eP eI eI)))]), (3, .box [.raw (.bool false)])] [] [] (by kernel_rfl) trivial) ?_
  refine k_sreg (r_go [(0, .d false [.sl none (a0.map (eP (eP eI eI) (eP eI eI)))]), (3, .box [.raw (.bool false)]), (4, .ov false [.sl (some 39) []])] [] [] (by kernel_rfl) trivial) ?_
  refine k_join (J := fun (x : (List (Int × Int))) => [(4, .ov false [.sl (some 39) (x.map (eP eI eI))])]) (K := fun x => impl_slopes_k1 x = some r) (fun x1 h => ?_) ?_
  · unfold impl_slopes_k1 at h
    refine k_sreg (r_go [(2, .ov false [.sl (some 39) (x1.map (eP eI eI))])] [] [] (by kernel_rfl) trivial) ?_
    refine k_ret ?_
    obtain rfl := Option.some.inj h
    exact e_ret (ls := [(.ov false [.sl (some 39) (x1.map (eP eI eI))], 2)]) (by kernel_rfl) rfl (by kernel_rfl) rfl
  · refine k_sreg (r_go [(0, .d false [.sl none (a0.map (eP (eP eI eI) (eP eI eI)))]), (3, .box [.raw (.bool false)]), (4, .ov false [.sl (some 39) []]), (5, .p (.int .i64 1))] [] [] (by kernel_rfl) trivial) ?_
    refine k_block ?_
    obtain ⟨y3, hl_x2, hk_x2⟩ := bind_some' h
    clear h
    refine k_loop (J := fun (x : (Bool × (List (Int × Int)) × Int)) => [(0, .d false [.sl none (a0.map (eP (eP eI eI) (eP eI eI)))]), (3, .box [.raw (.bool x.1)]), (4, .ov false [.sl (some 39) (x.2.1.map (eP eI eI))]), (5, .p (.int .i64 x.2.2))]) hl_x2 (wk_of (by kernel_rfl) (by kernel_rfl)) (fun x2 o_x2 h hy_x2 => ?_)
    unfold impl_slopes_b1 at h
    refine k_seq ?_
    refine k_sreg (r_go [(0, .d false [.sl none (a0.map (eP (eP eI eI) (eP eI eI)))]), (3, .box [.raw (.bool x2.1)]), (4, .ov false [.sl (some 39) (x2.2.1.map (eP eI eI))]), (5, .p (.int .i64 x2.2.2)), (9, .p (.bool (decide (x2.2.2 < (a0.length : Int)))))] [(2, {n := some a0.length})] [(a0.map (eP (eP eI eI) (eP eI eI))).length = a0.length] (by kernel_rfl) ⟨(List.length_map ..), trivial⟩) ?_
    refine k_cond (b := (decide (x2.2.2 < (a0.length : Int)))) (by kernel_rfl) (fun hc5_3 => ?_) (fun hc5_3 => ?_)
    · replace h := ite_t hc5_3 h
      refine k_skip ?_
      refine q_n ?_
      refine k_seq ?_
      refine k_block ?_
      replace h := bind_some' h
      obtain ⟨v5, hv5, h⟩ := h
      replace h := bind_some' h
      obtain ⟨v6, hv6, h⟩ := h
      replace h := bind_some' h
      obtain ⟨v7, hv7, h⟩ := h
      replace h := bind_some' h
      obtain ⟨u8, hu8, h⟩ := h
      refine k_reg (r_draw Try_mixed 12 [(10, 3)] [(0, .d false [.sl none (a0.map (eP (eP eI eI) (eP eI eI)))]), (3, .box [.raw (.bool v7.2)]), (4, .ov false [.sl (some 39) ((x2.2.1 ++ [v7.1]).map (eP eI eI))]), (5, .p (.int .i64 x2.2.2))] [(4, {row := some [.raw (.int .i64 v5.1.1), .raw (.int .i64 v5.1.2), .raw (.int .i64 v5.2.1), .raw (.int .i64 v5.2.2)]}), (8, {row := some [.raw (.int .i64 v6.1.1), .raw (.int .i64 v6.1.2), .raw (.int .i64 v6.2.1), .raw (.int .i64 v6.2.2)]}), (10, {lend := some ([.v (.agg #[.int .i64 v5.1.1, .int .i64 v5.1.2, .int .i64 v5.2.1, .int .i64 v5.2.2]), .v (.agg #[.int .i64 v6.1.1, .int .i64 v6.1.2, .int .i64 v6.2.1, .int .i64 v6.2.2])], [.p (.agg #[.int .i64 v7.1.1, .int .i64 v7.1.2])], .box [.raw (.bool v7.2)], true)}), (12, {fix := some (24, .ov false [.sl (some 39) ((x2.2.1 ++ [v7.1]).map (eP eI eI))])})] [0 ≤ (w64 (x2.2.2 - 1)), (a0.map (eP (eP eI eI) (eP eI eI)))[(Int.toNat (w64 (x2.2.2 - 1)))]? = some [.raw (.int .i64 v5.1.1), .raw (.int .i64 v5.1.2), .raw (.int .i64 v5.2.1), .raw (.int .i64 v5.2.2)], 0 ≤ x2.2.2, (a0.map (eP (eP eI eI) (eP eI eI)))[(Int.toNat x2.2.2)]? = some [.raw (.int .i64 v6.1.1), .raw (.int .i64 v6.1.2), .raw (.int .i64 v6.2.1), .raw (.int .i64 v6.2.2)], ([.v (.agg #[.int .i64 v5.1.1, .int .i64 v5.1.2, .int .i64 v5.2.1, .int .i64 v5.2.2]), .v (.agg #[.int .i64 v6.1.1, .int .i64 v6.1.2, .int .i64 v6.2.1, .int .i64 v6.2.2])] : List Arg) = [.v (.agg #[.int .i64 v5.1.1, .int .i64 v5.1.2, .int .i64 v5.2.1, .int .i64 v5.2.2]), .v (.agg #[.int .i64 v6.1.1, .int .i64 v6.1.2, .int .i64 v6.2.1, .int .i64 v6.2.2])], MeetsB Try.prog 58 (.box [.raw (.bool x2.1)]) [.v (.agg #[.int .i64 v5.1.1, .int .i64 v5.1.2, .int .i64 v5.2.1, .int .i64 v5.2.2]), .v (.agg #[.int .i64 v6.1.1, .int .i64 v6.1.2, .int .i64 v6.2.1, .int .i64 v6.2.2])] [.p (.agg #[.int .i64 v7.1.1, .int .i64 v7.1.2])] (.box [.raw (.bool v7.2)]), List.all [.p (.agg #[.int .i64 v7.1.1, .int .i64 v7.1.2])] simpleR = true, List.length ((x2.2.1.map (eP eI eI)) : List (List C)) + List.length ((([v7.1]).map (eP eI eI)) : List (List C)) ≤ 1099511627776, ∀ row ∈ ((([v7.1]).map (eP eI eI)) : List (List C)), row.length = 2, (SV.ov false [.sl (some 39) ((x2.2.1.map (eP eI eI)) ++ (([v7.1]).map (eP eI eI)))] : SV) = .ov false [.sl (some 39) ((x2.2.1 ++ [v7.1]).map (eP eI eI))]] (by kernel_rfl) ⟨(idxO_some hv5).1, (map_get (eP (eP eI eI) (eP eI eI)) (idxO_some hv5).2), (idxO_some hv6).1, (map_get (eP (eP eI eI) (eP eI eI)) (idxO_some hv6).2), rfl, (wk_impl_calc_slope hv7), rfl, (by have hg := (guardO_some hu8); simpa using hg), (rows_len fun _ => rfl), (congrArg (fun z => SV.ov false [.sl (some 39) z]) (List.map_append ..).symm), trivial⟩) ?_
      refine b_n ?_
      refine q_n ?_
      refine k_reg (r_go [(0, .d false [.sl none (a0.map (eP (eP eI eI) (eP eI eI)))]), (3, .box [.raw (.bool v7.2)]), (4, .ov false [.sl (some 39) ((x2.2.1 ++ [v7.1]).map (eP eI eI))]), (5, .p (.int .i64 (w64 (x2.2.2 + 1))))] [] [] (by kernel_rfl) trivial) ?_
      exact lq_n (v7.2, (x2.2.1 ++ [v7.1]), (w64 (x2.2.2 + 1))) (Option.some.inj h).symm (wk_of (by kernel_rfl) (by kernel_rfl))
    · replace h := ite_f hc5_3 h
      refine k_exit ?_
      refine q_x ?_
      refine lq_x ?_
      refine b_x ?_
      have hyy := hy_x2 _ (Option.some.inj h).symm
      subst hyy
      have h := hk_x2
      refine q_n ?_
      exact ⟨x2.2.1, h, (wk_of (by kernel_rfl) (by kernel_rfl))⟩
theorem wk_slices_IndexFunc_Limpl_Rat_impl_Rat_v {a0 : (List (Int × Int))} {a1 : ((Int × Int) → Option Bool)} {F1 : FuncId} (hp1 : ∀ x0 y, a1 x0 = some y → Meets Try.prog F1 ([.v (.agg #[.int .i64 x0.1, .int .i64 x0.2])] ++ []) { vals := [.p (.bool y)] }) {r : Int} (h : slices_IndexFunc_Limpl_Rat_impl_Rat a0 a1 = some r) : Meets Try.prog 86 [.d false [.sl none (a0.map (eP eI eI))], .v (.func (.func F1) #[] #[])] { vals := [.p (.int .i64 r)] } := by
  refine Meets_ofL (by kernel_rfl) Try.func86 rfl (by kernel_rfl) (l0 := [(0, .d false [.sl none (a0.map (eP eI eI))]), (1, .p (.func (.func F1) #[] #[]))]) (by kernel_rfl) ?_
  unfold slices_IndexFunc_Limpl_Rat_impl_Rat at h
  refine k_sreg (r_go [(0, .d false [.sl none (a0.map (eP eI eI))]), (1, .p (.func (.func F1) #[] #[]))] [] [] (by kernel_rfl) trivial) ?_
  refine k_join (J := fun (x : Unit) => []) (K := fun x => slices_IndexFunc_Limpl_Rat_impl_Rat_k1 x = some r) (fun x1 h => ?_) ?_
  · unfold slices_IndexFunc_Limpl_Rat_impl_Rat_k1 at h
    refine k_sreg (r_go [(4, .p (.int .i64 (-1)))] [] [] (by kernel_rfl) trivial) ?_
    refine k_ret ?_
    obtain rfl := Option.some.inj h
    exact e_ret (ls := [(.p (.int .i64 (-1)), 4)]) (by kernel_rfl) rfl (by kernel_rfl) rfl
  · refine k_sreg (r_go [(0, .d false [.sl none (a0.map (eP eI eI))]), (1, .p (.func (.func F1) #[] #[])), (7, .p (.int .i64 (a0.length : Int))), (8, .p (.int .i64 0))] [(1, {n := some a0.length})] [(a0.map (eP eI eI)).length = a0.length] (by kernel_rfl) ⟨(List.length_map ..), trivial⟩) ?_
    refine k_block ?_
    obtain ⟨y3, hl_x2, hk_x2⟩ := bind_some' h
    clear h
    refine k_loop (J := fun (x : Int) => [(0, .d false [.sl none (a0.map (eP eI eI))]), (1, .p (.func (.func F1) #[] #[])), (7, .p (.int .i64 (a0.length : Int))), (8, .p (.int .i64 x))]) hl_x2 (wk_of (by kernel_rfl) (by kernel_rfl)) (fun x2 o_x2 h hy_x2 => ?_)
    unfold slices_IndexFunc_Limpl_Rat_impl_Rat_b1 at h
    refine k_sreg (r_go [(0, .d false [.sl none (a0.map (eP eI eI))]), (1, .p (.func (.func F1) #[] #[])), (7, .p (.int .i64 (a0.length : Int))), (8, .p (.int .i64 x2)), (9, .p (.bool (decide (x2 < (a0.length : Int)))))] [] [] (by kernel_rfl) trivial) ?_
    refine k_seq ?_
    refine k_cond (b := (decide (x2 < (a0.length : Int)))) (by kernel_rfl) (fun hc5_3 => ?_) (fun hc5_3 => ?_)
    · replace h := ite_t hc5_3 h
      refine k_skip ?_
      refine q_n ?_
      refine k_seq ?_
      refine k_block ?_
      refine k_sreg (r_go [(0, .d false [.sl none (a0.map (eP eI eI))]), (1, .p (.func (.func F1) #[] #[])), (5, .p (.int .i64 x2)), (7, .p (.int .i64 (a0.length : Int))), (8, .p (.int .i64 x2))] [] [] (by kernel_rfl) trivial) ?_
      replace h := bind_some' h
      obtain ⟨v5, hv5, h⟩ := h
      replace h := bind_some' h
      obtain ⟨v6, hv6, h⟩ := h
      refine k_sreg (r_go [(0, .d false [.sl none (a0.map (eP eI eI))]), (1, .p (.func (.func F1) #[] #[])), (5, .p (.int .i64 x2)), (7, .p (.int .i64 (a0.length : Int))), (8, .p (.int .i64 x2)), (16, .p (.bool v6))] [(3, {row := some [.raw (.int .i64 v5.1), .raw (.int .i64 v5.2)]}), (5, {call := some ([.v (.agg #[.int .i64 v5.1, .int .i64 v5.2])], [.p (.bool v6)], true)})] [0 ≤ x2, (a0.map (eP eI eI))[(Int.toNat x2)]? = some [.raw (.int .i64 v5.1), .raw (.int .i64 v5.2)], ([.v (.agg #[.int .i64 v5.1, .int .i64 v5.2])] : List Arg) = [.v (.agg #[.int .i64 v5.1, .int .i64 v5.2])], Meets Try.prog F1 ([.v (.agg #[.int .i64 v5.1, .int .i64 v5.2])] ++ []) { vals := [.p (.bool v6)] }, List.all [.p (.bool v6)] simpleR = true] (by kernel_rfl) ⟨(idxO_some hv5).1, (map_get (eP eI eI) (idxO_some hv5).2), rfl, (hp1 _ _ hv6), rfl, trivial⟩) ?_
      refine k_cond (b := v6) (by kernel_rfl) (fun hc6_6 => ?_) (fun hc6_6 => ?_)
      · replace h := ite_t hc6_6 h
        refine k_sreg (r_go [(4, .p (.int .i64 x2))] [] [] (by kernel_rfl) trivial) ?_
        refine k_ret ?_
        refine b_r ?_
        refine q_r ?_
        refine lq_r ?_
        refine b_r ?_
        refine q_r ?_
        have hyy := hy_x2 _ (Option.some.inj h).symm
        subst hyy
        have h := hk_x2
        dsimp only [Sum.elim] at h
        obtain rfl := Option.some.inj h
        exact e_ret (ls := [(.p (.int .i64 x2), 4)]) (by kernel_rfl) rfl (by kernel_rfl) rfl
      · replace h := ite_f hc6_6 h
        refine k_skip ?_
        refine b_n ?_
        refine q_n ?_
        refine k_reg (r_go [(0, .d false [.sl none (a0.map (eP eI eI))]), (1, .p (.func (.func F1) #[] #[])), (7, .p (.int .i64 (a0.length : Int))), (8, .p (.int .i64 (w64 (x2 + 1))))] [] [] (by kernel_rfl) trivial) ?_
        exact lq_n (w64 (x2 + 1)) (Option.some.inj h).symm (wk_of (by kernel_rfl) (by kernel_rfl))
    · replace h := ite_f hc5_3 h
      refine k_exit ?_
      refine q_x ?_
      refine lq_x ?_
      refine b_x ?_
      have hyy := hy_x2 _ (Option.some.inj h).symm
      subst hyy
      have h := hk_x2
      dsimp only [Sum.elim] at h
      refine q_n ?_
      exact ⟨(), h, (wk_of (by kernel_rfl) (by kernel_rfl))⟩
theorem wk_slices_ContainsFunc_Limpl_Rat_impl_Rat_v {a0 : (List (Int × Int))} {a1 : ((Int × Int) → Option Bool)} {F1 : FuncId} (hp1 : ∀ x0 y, a1 x0 = some y → Meets Try.prog F1 ([.v (.agg #[.int .i64 x0.1, .int .i64 x0.2])] ++ []) { vals := [.p (.bool y)] }) {r : Bool} (h : slices_ContainsFunc_Limpl_Rat_impl_Rat a0 a1 = some r) : Meets Try.prog 65 [.d false [.sl none (a0.map (eP eI eI))], .v (.func (.func F1) #[] #[])] { vals := [.p (.bool r)] } := by
  refine Meets_ofL (by kernel_rfl) Try.func65 rfl (by kernel_rfl) (l0 := [(0, .d false [.sl none (a0.map (eP eI eI))]), (1, .p (.func (.func F1) #[] #[]))]) (by kernel_rfl) ?_
  unfold slices_ContainsFunc_Limpl_Rat_impl_Rat at h
  refine k_sreg (r_go [(0, .d false [.sl none (a0.map (eP eI eI))]), (1, .p (.func (.func F1) #[] #[]))] [] [] (by kernel_rfl) trivial) ?_
  replace h := bind_some' h
  obtain ⟨v1, hv1, h⟩ := h
  refine k_sreg (r_go [(4, .p (.bool (decide (v1 ≥ 0))))] [(2, {call := some ([.d false [.sl none (a0.map (eP eI eI))], .v (.func (.func F1) #[] #[])], [.p (.int .i64 v1)], true)})] [([.d false [.sl none (a0.map (eP eI eI))], .v (.func (.func F1) #[] #[])] : List Arg) = [.d false [.sl none (a0.map (eP eI eI))], .v (.func (.func F1) #[] #[])], Meets Try.prog 86 ([.d false [.sl none (a0.map (eP eI eI))], .v (.func (.func F1) #[] #[])] ++ []) { vals := [.p (.int .i64 v1)] }, List.all [.p (.int .i64 v1)] simpleR = true] (by kernel_rfl) ⟨rfl, (wk_slices_IndexFunc_Limpl_Rat_impl_Rat_v hp1 hv1), rfl, trivial⟩) ?_
  refine k_ret ?_
  obtain rfl := Option.some.inj h
  exact e_ret (ls := [(.p (.bool (decide (v1 ≥ 0))), 4)]) (by kernel_rfl) rfl (by kernel_rfl) rfl
theorem wk_impl_isLapMap_1 {a0 : (Int × Int)}  {r : Bool} (h : impl_isLapMap_1 a0 = some r) : Meets Try.prog 66 [.v (.agg #[.int .i64 a0.1, .int .i64 a0.2])] { vals := [.p (.bool r)] } := by
  refine Meets_ofL (by kernel_rfl) Try.func66 rfl (by kernel_rfl) (l0 := [(0, .p (.agg #[.int .i64 a0.1, .int .i64 a0.2]))]) (by kernel_rfl) ?_
  unfold impl_isLapMap_1 at h
  refine k_sreg (r_go [(1, .box [.raw (.int .i64 a0.1), .raw (.int .i64 a0.2)])] [] [] (by kernel_rfl) trivial) ?_
  refine k_sreg (r_go [(2, .p (.bool (a0.1 == 0)))] [] [] (by kernel_rfl) trivial) ?_
  refine k_ret ?_
  obtain rfl := Option.some.inj h
  exact e_ret (ls := [(.p (.bool (a0.1 == 0)), 2)]) (by kernel_rfl) rfl (by kernel_rfl) rfl
theorem wk_impl_isLapMap {a0 : (List ((Int × Int) × (Int × Int)))}  {r : Bool} (h : impl_isLapMap a0 = some r) : Meets Try.prog 53 [.d false [.sl none (a0.map (eP (eP eI eI) (eP eI eI)))]] { vals := [.p (.bool r)] } := by
  refine Meets_ofL (by kernel_rfl) Try.func53 rfl (by kernel_rfl) (l0 := [(0, .d false [.sl none (a0.map (eP (eP eI eI) (eP eI eI)))])]) (by kernel_rfl) ?_
  unfold impl_isLapMap at h
  refine k_sreg (r_go [(0, .d false [.sl none (a0.map (eP (eP eI eI) (eP eI eI)))])] [] [] (by kernel_rfl) trivial) ?_
  replace h := bind_some' h
  obtain ⟨v1, hv1, h⟩ := h
  replace h := bind_some' h
  obtain ⟨w4, hw4, h⟩ := h
  refine k_sreg (l1 := [(2, .p (.bool w4))]) ?_ ?_
  · clear h
    rcases Bool.eq_false_or_eq_true v1 with ha0 | ha0
    · replace hw4 := ite_t ha0 hw4
      replace hw4 := bind_some' hw4
      obtain ⟨v2, hv2, hw4⟩ := hw4
      replace hw4 := bind_some' hw4
      obtain ⟨v3, hv3, hw4⟩ := hw4
      have hw4 := Option.some.inj hw4
      subst hw4
      exact (r_go [(2, .p (.bool (!v3)))] [(1, {call := some ([.d false [.sl none (a0.map (eP (eP eI eI) (eP eI eI)))]], [.p (.bool v1)], true)}), (3, {g := some true}), (4, {g := some true, call := some ([.d false [.sl none (a0.map (eP (eP eI eI) (eP eI eI)))]], [.ov false [.sl (some 39) (v2.map (eP eI eI))]], true)}), (5, {g := some true, call := some ([.d false [.sl none (v2.map (eP eI eI))], .v (.func (.func 66) #[] #[])], [.p (.bool v3)], true)}), (6, {g := some true}), (7, {b := some true})] [([.d false [.sl none (a0.map (eP (eP eI eI) (eP eI eI)))]] : List Arg) = [.d false [.sl none (a0.map (eP (eP eI eI) (eP eI eI)))]], Meets Try.prog 64 ([.d false [.sl none (a0.map (eP (eP eI eI) (eP eI eI)))]] ++ []) { vals := [.p (.bool v1)] }, List.all [.p (.bool v1)] simpleR = true, v1 = true, v1 = true, ([.d false [.sl none (a0.map (eP (eP eI eI) (eP eI eI)))]] : List Arg) = [.d false [.sl none (a0.map (eP (eP eI eI) (eP eI eI)))]], Meets Try.prog 54 ([.d false [.sl none (a0.map (eP (eP eI eI) (eP eI eI)))]] ++ []) { vals := [.ov false [.sl (some 39) (v2.map (eP eI eI))]] }, List.all [.ov false [.sl (some 39) (v2.map (eP eI eI))]] simpleR = true, v1 = true, ([.d false [.sl none (eraL (v2.map (eP eI eI)))], .v (.func (.func 66) #[] #[])] : List Arg) = [.d false [.sl none (v2.map (eP eI eI))], .v (.func (.func 66) #[] #[])], Meets Try.prog 65 ([.d false [.sl none (v2.map (eP eI eI))], .v (.func (.func 66) #[] #[])] ++ []) { vals := [.p (.bool v3)] }, List.all [.p (.bool v3)] simpleR = true, v1 = true, v1 = true] (by kernel_rfl) ⟨rfl, (wk_impl_isMap hv1), rfl, ha0, ha0, rfl, (wk_impl_slopes hv2), (sa_o (wnR1 (wnL_enc (wn_P wn_I wn_I)) rfl) rfl), ha0, (by simp only [eraL_enc (h := (eP eI eI)) (era_P er_I er_I)]), (wk_slices_ContainsFunc_Limpl_Rat_impl_Rat_v (fun x0 y hy => wk_impl_isLapMap_1 hy) hv3), rfl, ha0, ha0, trivial⟩)
    · replace hw4 := ite_f ha0 hw4
      have hw4 := Option.some.inj hw4
      subst hw4
      exact (r_go [(2, .p (.bool false))] [(1, {call := some ([.d false [.sl none (a0.map (eP (eP eI eI) (eP eI eI)))]], [.p (.bool v1)], true)}), (3, {g := some false}), (4, {g := some false}), (5, {g := some false}), (6, {g := some false}), (7, {b := some false})] [([.d false [.sl none (a0.map (eP (eP eI eI) (eP eI eI)))]] : List Arg) = [.d false [.sl none (a0.map (eP (eP eI eI) (eP eI eI)))]], Meets Try.prog 64 ([.d false [.sl none (a0.map (eP (eP eI eI) (eP eI eI)))]] ++ []) { vals := [.p (.bool v1)] }, List.all [.p (.bool v1)] simpleR = true, v1 = false, v1 = false, v1 = false, v1 = false, v1 = false] (by kernel_rfl) ⟨rfl, (wk_impl_isMap hv1), rfl, ha0, ha0, ha0, ha0, ha0, trivial⟩)
  · refine k_ret ?_
    obtain rfl := Option.some.inj h
    exact e_ret (ls := [(.p (.bool w4), 2)]) (by kernel_rfl) rfl (by kernel_rfl) rfl
theorem wk_impl_isStrict {a0 : (List ((Int × Int) × (Int × Int)))}  {r : Bool} (h : impl_isStrict a0 = some r) : Meets Try.prog 46 [.d false [.sl none (a0.map (eP (eP eI eI) (eP eI eI)))]] { vals := [.p (.bool r)] } := by
  refine Meets_ofL (by kernel_rfl) Try.func46 rfl (by kernel_rfl) (l0 := [(0, .d false [.sl none (a0.map (eP (eP eI eI) (eP eI eI)))])]) (by kernel_rfl) ?_
  unfold impl_isStrict at h
  refine k_sreg (r_go [(0, .d false [.sl none (a0.map (eP (eP eI eI) (eP eI eI)))])] [] [] (by kernel_rfl) trivial) ?_
  replace h := bind_some' h
  obtain ⟨v1, hv1, h⟩ := h
  refine k_sreg (r_go [(2, .p (.bool v1))] [(1, {call := some ([.d false [.sl none (a0.map (eP (eP eI eI) (eP eI eI)))]], [.p (.bool v1)], true)})] [([.d false [.sl none (a0.map (eP (eP eI eI) (eP eI eI)))]] : List Arg) = [.d false [.sl none (a0.map (eP (eP eI eI) (eP eI eI)))]], Meets Try.prog 53 ([.d false [.sl none (a0.map (eP (eP eI eI) (eP eI eI)))]] ++ []) { vals := [.p (.bool v1)] }, List.all [.p (.bool v1)] simpleR = true] (by kernel_rfl) ⟨rfl, (wk_impl_isLapMap hv1), rfl, trivial⟩) ?_
  refine k_ret ?_
  obtain rfl := Option.some.inj h
  exact e_ret (ls := [(.p (.bool v1), 2)]) (by kernel_rfl) rfl (by kernel_rfl) rfl
theorem wk_impl_sign {a0 : (Int × Int)}  {r : Int} (h : impl_sign a0 = some r) : Meets Try.prog 55 [.v (.agg #[.int .i64 a0.1, .int .i64 a0.2])] { vals := [.p (.int .i64 r)] } := by
  refine Meets_ofL (by kernel_rfl) Try.func55 rfl (by kernel_rfl) (l0 := [(0, .p (.agg #[.int .i64 a0.1, .int .i64 a0.2]))]) (by kernel_rfl) ?_
  unfold impl_sign at h
  refine k_sreg (r_go [(1, .box [.raw (.int .i64 a0.1), .raw (.int .i64 a0.2)])] [] [] (by kernel_rfl) trivial) ?_
  replace h := bind_some' h
  obtain ⟨v1, hv1, h⟩ := h
  replace h := bind_some' h
  obtain ⟨v2, hv2, h⟩ := h
  refine k_sreg (r_draw Try_mixed 2 [] [(2, .p (.int .i64 v2))] [(1, {call := some ([], [.p (.agg #[.int .i64 v1.1, .int .i64 v1.2])], true)}), (2, {call := some ([.v (.agg #[.int .i64 a0.1, .int .i64 a0.2]), .v (.agg #[.int .i64 v1.1, .int .i64 v1.2])], [.p (.int .i64 v2)], true)})] [([] : List Arg) = [], Meets Try.prog 67 ([] ++ []) { vals := [.p (.agg #[.int .i64 v1.1, .int .i64 v1.2])] }, List.all [.p (.agg #[.int .i64 v1.1, .int .i64 v1.2])] simpleR = true, ([.v (.agg #[.int .i64 a0.1, .int .i64 a0.2]), .v (.agg #[.int .i64 v1.1, .int .i64 v1.2])] : List Arg) = [.v (.agg #[.int .i64 a0.1, .int .i64 a0.2]), .v (.agg #[.int .i64 v1.1, .int .i64 v1.2])], Meets Try.prog 22 ([.v (.agg #[.int .i64 a0.1, .int .i64 a0.2]), .v (.agg #[.int .i64 v1.1, .int .i64 v1.2])] ++ []) { vals := [.p (.int .i64 v2)] }, List.all [.p (.int .i64 v2)] simpleR = true] (by kernel_rfl) ⟨rfl, (wk_impl_zero hv1), rfl, rfl, (wk_impl_compare hv2), rfl, trivial⟩) ?_
  refine k_ret ?_
  obtain rfl := Option.some.inj h
  exact e_ret (ls := [(.p (.int .i64 v2), 2)]) (by kernel_rfl) rfl (by kernel_rfl) rfl
end Go.PV

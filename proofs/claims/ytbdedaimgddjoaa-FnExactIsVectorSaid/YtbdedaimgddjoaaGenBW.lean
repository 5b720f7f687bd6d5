/-
  Walks through the functions that the law reaches: each answers as its plain definition does.
  Conditions: none.
-/
import Derived.Test.YtbdedaimgddjoaaGenBD
import Derived.Test.YtbdedaimgddjoaaProg
import Derived.KernelRfl
set_option linter.all false
open Go Go.PV Go.Proofs
namespace Go.PV
attribute [local irreducible] pvC pvL pvD sOp seqQ blockQ Meets Ok OkL RegOk agree endQ seqL blockL loopQ endL
theorem Try_mixed : Try.prog.follows .mixedOrders = true := by kernel_rfl
theorem wk_laws_toIntS {a0 : (List Int)}  {r : (List Int)} (h : laws_toIntS a0 = some r) : Meets Try.prog 16 [.d false [.sl none (a0.map eI)]] { vals := [.ov false [.sl (some 3) (r.map eI)]] } := by
  refine Meets_ofL (by kernel_rfl) Try.func16 rfl (by kernel_rfl) (l0 := [(0, .d false [.sl none (a0.map eI)])]) (by kernel_rfl) ?_
  unfold laws_toIntS at h
  refine k_sreg (r_go [(0, .d false [.sl none (a0.map eI)])] [] [] (by kernel_rfl) trivial) ?_
  replace h := bind_some' h
  obtain ⟨u1, hu1, h⟩ := h
  refine k_sreg (r_go [(0, .d false [.sl none (a0.map eI)]), (3, .ov false [.sl (some 3) ((List.replicate (Int.toNat (a0.length : Int)) (0 : Int)).map eI)])] [(1, {n := some a0.length}), (2, {fix := some (7, .ov false [.sl (some 3) ((List.replicate (Int.toNat (a0.length : Int)) (0 : Int)).map eI)])})] [(a0.map eI).length = a0.length, (a0.length : Int) = (a0.length : Int), 0 ≤ (a0.length : Int), (a0.length : Int) ≤ 1099511627776, (SV.ov false [.sl (some 3) (List.replicate (Int.toNat (a0.length : Int)) [.raw (.int .i64 0)])] : SV) = .ov false [.sl (some 3) ((List.replicate (Int.toNat (a0.length : Int)) (0 : Int)).map eI)]] (by kernel_rfl) ⟨(List.length_map ..), rfl, (guardO_some hu1).1, (guardO_some hu1).2, (congrArg (fun z => SV.ov false [.sl (some 3) z]) (rep_fix eI (0 : Int))), trivial⟩) ?_
  refine k_join (J := fun (x : (List Int)) => [(3, .ov false [.sl (some 3) (x.map eI)])]) (K := fun x => laws_toIntS_k1 x = some r) (fun x2 h => ?_) ?_
  · unfold laws_toIntS_k1 at h
    refine k_sreg (r_go [(2, .ov false [.sl (some 3) (x2.map eI)])] [] [] (by kernel_rfl) trivial) ?_
    refine k_ret ?_
    obtain rfl := Option.some.inj h
    exact e_ret (ls := [(.ov false [.sl (some 3) (x2.map eI)], 2)]) (by kernel_rfl) rfl (by kernel_rfl) rfl
  · refine k_sreg (r_go [(0, .d false [.sl none (a0.map eI)]), (3, .ov false [.sl (some 3) ((List.replicate (Int.toNat (a0.length : Int)) (0 : Int)).map eI)]), (4, .p (.int .i64 0))] [] [] (by kernel_rfl) trivial) ?_
    refine k_block ?_
    obtain ⟨y4, hl_x3, hk_x3⟩ := bind_some' h
    clear h
    refine k_loop (J := fun (x : ((List Int) × Int)) => [(0, .d false [.sl none (a0.map eI)]), (3, .ov false [.sl (some 3) (x.1.map eI)]), (4, .p (.int .i64 x.2))]) hl_x3 (wk_of (by kernel_rfl) (by kernel_rfl)) (fun x3 o_x3 h hy_x3 => ?_)
    unfold laws_toIntS_b1 at h
    refine k_seq ?_
    refine k_sreg (r_go [(0, .d false [.sl none (a0.map eI)]), (3, .ov false [.sl (some 3) (x3.1.map eI)]), (4, .p (.int .i64 x3.2)), (11, .p (.bool (decide (x3.2 < (a0.length : Int)))))] [(2, {n := some a0.length})] [(a0.map eI).length = a0.length] (by kernel_rfl) ⟨(List.length_map ..), trivial⟩) ?_
    refine k_cond (b := (decide (x3.2 < (a0.length : Int)))) (by kernel_rfl) (fun hc5_4 => ?_) (fun hc5_4 => ?_)
    · replace h := ite_t hc5_4 h
      refine k_skip ?_
      refine q_n ?_
      refine k_seq ?_
      refine k_block ?_
      replace h := bind_some' h
      obtain ⟨v6, hv6, h⟩ := h
      replace h := bind_some' h
      obtain ⟨v7, hv7, h⟩ := h
      refine k_reg (r_go [(0, .d false [.sl none (a0.map eI)]), (3, .ov false [.sl (some 3) ((x3.1.set (Int.toNat x3.2) v6).map eI)]), (4, .p (.int .i64 x3.2))] [(4, {row := some [.raw (.int .i64 v6)]}), (6, {row := some [.raw (.int .i64 v7)]}), (7, {row := some [.raw (.int .i64 v7)], fix := some (3, .ov false [.sl (some 3) ((x3.1.set (Int.toNat x3.2) v6).map eI)])})] [0 ≤ x3.2, (a0.map eI)[(Int.toNat x3.2)]? = some [.raw (.int .i64 v6)], 0 ≤ x3.2, (x3.1.map eI)[(Int.toNat x3.2)]? = some [.raw (.int .i64 v7)], getRow [[.sl (some 3) (x3.1.map eI)]] [(0, 0), ((Int.toNat x3.2), 0)] = some [.raw (.int .i64 v7)], (SV.ov false [.sl (some 3) (setL (x3.1.map eI) [((Int.toNat x3.2), 0)] [.raw (.int .i64 v6)])] : SV) = .ov false [.sl (some 3) ((x3.1.set (Int.toNat x3.2) v6).map eI)]] (by kernel_rfl) ⟨(idxO_some hv6).1, (map_get eI (idxO_some hv6).2), (idxO_some hv7).1, (map_get eI (idxO_some hv7).2), ((gr0 rfl).trans (gre (map_get eI (idxO_some hv7).2))), (congrArg (fun z => SV.ov false [.sl (some 3) z]) (set1 (f := eI) (y := v6) (idxO_some hv7).2 rfl)), trivial⟩) ?_
      refine b_n ?_
      refine q_n ?_
      refine k_reg (r_go [(0, .d false [.sl none (a0.map eI)]), (3, .ov false [.sl (some 3) ((x3.1.set (Int.toNat x3.2) v6).map eI)]), (4, .p (.int .i64 (w64 (x3.2 + 1))))] [] [] (by kernel_rfl) trivial) ?_
      exact lq_n ((x3.1.set (Int.toNat x3.2) v6), (w64 (x3.2 + 1))) (Option.some.inj h).symm (wk_of (by kernel_rfl) (by kernel_rfl))
    · replace h := ite_f hc5_4 h
      refine k_exit ?_
      refine q_x ?_
      refine lq_x ?_
      refine b_x ?_
      have hyy := hy_x3 _ (Option.some.inj h).symm
      subst hyy
      have h := hk_x3
      refine q_n ?_
      exact ⟨x3.1, h, (wk_of (by kernel_rfl) (by kernel_rfl))⟩
theorem wk_spec_l1In {a0 : Int} {a1 : Int} {a2 : Int}  {r : Bool} (h : spec_l1In a0 a1 a2 = some r) : Meets Try.prog 86 [.v (.int .i64 a0), .v (.int .i64 a1), .v (.int .i64 a2)] { vals := [.p (.bool r)] } := by
  refine Meets_ofL (by kernel_rfl) Try.func86 rfl (by kernel_rfl) (l0 := [(0, .p (.int .i64 a0)), (1, .p (.int .i64 a1)), (2, .p (.int .i64 a2))]) (by kernel_rfl) ?_
  unfold spec_l1In at h
  refine k_sreg (r_go [(0, .p (.int .i64 a0)), (1, .p (.int .i64 a1)), (2, .p (.int .i64 a2))] [] [] (by kernel_rfl) trivial) ?_
  refine k_sreg (l1 := [(6, .p (.bool ((decide (a0 ≥ a1)) && (decide (a0 ≤ a2)))))]) ?_ ?_
  · rcases Bool.eq_false_or_eq_true (decide (a0 ≥ a1)) with ha0 | ha0
    · exact RegOk.of_eq (l2 := [(6, .p (.bool ((decide (a0 ≥ a1)) && (decide (a0 ≤ a2)))))]) (r_go [(6, .p (.bool (decide (a0 ≤ a2))))] [(4, {g := some true}), (5, {g := some true}), (6, {g := some true}), (7, {b := some true})] [(decide (a0 ≥ a1)) = true, (decide (a0 ≥ a1)) = true, (decide (a0 ≥ a1)) = true, (decide (a0 ≥ a1)) = true] (by kernel_rfl) ⟨ha0, ha0, ha0, ha0, trivial⟩) (by simp [ha0])
    · exact RegOk.of_eq (l2 := [(6, .p (.bool ((decide (a0 ≥ a1)) && (decide (a0 ≤ a2)))))]) (r_go [(6, .p (.bool false))] [(4, {g := some false}), (5, {g := some false}), (6, {g := some false}), (7, {b := some false})] [(decide (a0 ≥ a1)) = false, (decide (a0 ≥ a1)) = false, (decide (a0 ≥ a1)) = false, (decide (a0 ≥ a1)) = false] (by kernel_rfl) ⟨ha0, ha0, ha0, ha0, trivial⟩) (by simp [ha0])
  · refine k_ret ?_
    obtain rfl := Option.some.inj h
    exact e_ret (ls := [(.p (.bool ((decide (a0 ≥ a1)) && (decide (a0 ≤ a2)))), 6)]) (by kernel_rfl) rfl (by kernel_rfl) rfl
theorem wk_spec_l1All {a0 : (List Int)} {a1 : Int} {a2 : Int}  {r : Bool} (h : spec_l1All a0 a1 a2 = some r) : Meets Try.prog 87 [.d false [.sl none (a0.map eI)], .v (.int .i64 a1), .v (.int .i64 a2)] { vals := [.p (.bool r)] } := by
  refine Meets_ofL (by kernel_rfl) Try.func87 rfl (by kernel_rfl) (l0 := [(0, .d false [.sl none (a0.map eI)]), (1, .p (.int .i64 a1)), (2, .p (.int .i64 a2))]) (by kernel_rfl) ?_
  unfold spec_l1All at h
  refine k_sreg (r_go [(0, .d false [.sl none (a0.map eI)]), (1, .p (.int .i64 a1)), (2, .p (.int .i64 a2))] [] [] (by kernel_rfl) trivial) ?_
  refine k_join (J := fun (x : Unit) => []) (K := fun x => spec_l1All_k1 x = some r) (fun x1 h => ?_) ?_
  · unfold spec_l1All_k1 at h
    refine k_sreg (r_go [(6, .p (.bool true))] [] [] (by kernel_rfl) trivial) ?_
    refine k_ret ?_
    obtain rfl := Option.some.inj h
    exact e_ret (ls := [(.p (.bool true), 6)]) (by kernel_rfl) rfl (by kernel_rfl) rfl
  · refine k_sreg (r_go [(1, .p (.int .i64 a1)), (2, .p (.int .i64 a2)), (9, .d false [.sl none (a0.map eI)]), (10, .p (.int .i64 (a0.length : Int))), (11, .p (.int .i64 0))] [(1, {n := some a0.length})] [(a0.map eI).length = a0.length] (by kernel_rfl) ⟨(List.length_map ..), trivial⟩) ?_
    refine k_block ?_
    obtain ⟨y3, hl_x2, hk_x2⟩ := bind_some' h
    clear h
    refine k_loop (J := fun (x : Int) => [(1, .p (.int .i64 a1)), (2, .p (.int .i64 a2)), (9, .d false [.sl none (a0.map eI)]), (10, .p (.int .i64 (a0.length : Int))), (11, .p (.int .i64 x))]) hl_x2 (wk_of (by kernel_rfl) (by kernel_rfl)) (fun x2 o_x2 h hy_x2 => ?_)
    unfold spec_l1All_b1 at h
    refine k_sreg (r_go [(1, .p (.int .i64 a1)), (2, .p (.int .i64 a2)), (9, .d false [.sl none (a0.map eI)]), (10, .p (.int .i64 (a0.length : Int))), (11, .p (.int .i64 x2)), (12, .p (.bool (decide (x2 < (a0.length : Int)))))] [] [] (by kernel_rfl) trivial) ?_
    refine k_seq ?_
    refine k_cond (b := (decide (x2 < (a0.length : Int)))) (by kernel_rfl) (fun hc5_3 => ?_) (fun hc5_3 => ?_)
    · replace h := ite_t hc5_3 h
      refine k_skip ?_
      refine q_n ?_
      refine k_seq ?_
      refine k_block ?_
      replace h := bind_some' h
      obtain ⟨v5, hv5, h⟩ := h
      refine k_sreg (r_go [(1, .p (.int .i64 a1)), (2, .p (.int .i64 a2)), (8, .p (.int .i64 v5)), (9, .d false [.sl none (a0.map eI)]), (10, .p (.int .i64 (a0.length : Int))), (11, .p (.int .i64 x2))] [(0, {row := some [.raw (.int .i64 v5)]})] [0 ≤ x2, (a0.map eI)[(Int.toNat x2)]? = some [.raw (.int .i64 v5)]] (by kernel_rfl) ⟨(idxO_some hv5).1, (map_get eI (idxO_some hv5).2), trivial⟩) ?_
      replace h := bind_some' h
      obtain ⟨v6, hv6, h⟩ := h
      refine k_sreg (r_go [(1, .p (.int .i64 a1)), (2, .p (.int .i64 a2)), (9, .d false [.sl none (a0.map eI)]), (10, .p (.int .i64 (a0.length : Int))), (11, .p (.int .i64 x2)), (19, .p (.bool (!v6)))] [(3, {call := some ([.v (.int .i64 v5), .v (.int .i64 a1), .v (.int .i64 a2)], [.p (.bool v6)], true)})] [([.v (.int .i64 v5), .v (.int .i64 a1), .v (.int .i64 a2)] : List Arg) = [.v (.int .i64 v5), .v (.int .i64 a1), .v (.int .i64 a2)], Meets Try.prog 86 ([.v (.int .i64 v5), .v (.int .i64 a1), .v (.int .i64 a2)] ++ []) { vals := [.p (.bool v6)] }, List.all [.p (.bool v6)] simpleR = true] (by kernel_rfl) ⟨rfl, (wk_spec_l1In hv6), rfl, trivial⟩) ?_
      refine k_cond (b := (!v6)) (by kernel_rfl) (fun hc6_6 => ?_) (fun hc6_6 => ?_)
      · replace h := ite_t hc6_6 h
        refine k_sreg (r_go [(6, .p (.bool false))] [] [] (by kernel_rfl) trivial) ?_
        refine k_ret ?_
        refine b_r ?_
        refine q_r ?_
        refine lq_r ?_
        refine b_r ?_
        refine q_r ?_
        have hyy := hy_x2 _ (Option.some.inj h).symm
        subst hyy
        have h := hk_x2
        dsimp only [Sum.elim] at h
        obtain rfl := Option.some.inj h
        exact e_ret (ls := [(.p (.bool false), 6)]) (by kernel_rfl) rfl (by kernel_rfl) rfl
      · replace h := ite_f hc6_6 h
        refine k_skip ?_
        refine b_n ?_
        refine q_n ?_
        refine k_reg (r_go [(1, .p (.int .i64 a1)), (2, .p (.int .i64 a2)), (9, .d false [.sl none (a0.map eI)]), (10, .p (.int .i64 (a0.length : Int))), (11, .p (.int .i64 (w64 (x2 + 1))))] [] [] (by kernel_rfl) trivial) ?_
        exact lq_n (w64 (x2 + 1)) (Option.some.inj h).symm (wk_of (by kernel_rfl) (by kernel_rfl))
    · replace h := ite_f hc5_3 h
      refine k_exit ?_
      refine q_x ?_
      refine lq_x ?_
      refine b_x ?_
      have hyy := hy_x2 _ (Option.some.inj h).symm
      subst hyy
      have h := hk_x2
      dsimp only [Sum.elim] at h
      refine q_n ?_
      exact ⟨(), h, (wk_of (by kernel_rfl) (by kernel_rfl))⟩
theorem wk_spec_gwVector {a0 : (List Int)}  {r : Bool} (h : spec_gwVector a0 = some r) : Meets Try.prog 49 [.d false [.sl none (a0.map eI)]] { vals := [.p (.bool r)] } := by
  refine Meets_ofL (by kernel_rfl) Try.func49 rfl (by kernel_rfl) (l0 := [(0, .d false [.sl none (a0.map eI)])]) (by kernel_rfl) ?_
  unfold spec_gwVector at h
  refine k_sreg (r_go [(0, .d false [.sl none (a0.map eI)])] [] [] (by kernel_rfl) trivial) ?_
  replace h := bind_some' h
  obtain ⟨v1, hv1, h⟩ := h
  replace h := bind_some' h
  obtain ⟨w3, hw3, h⟩ := h
  refine k_sreg (l1 := [(2, .p (.bool w3))]) ?_ ?_
  · clear h
    rcases Bool.eq_false_or_eq_true v1 with ha0 | ha0
    · replace hw3 := ite_t ha0 hw3
      replace hw3 := bind_some' hw3
      obtain ⟨v2, hv2, hw3⟩ := hw3
      have hw3 := Option.some.inj hw3
      subst hw3
      exact (r_go [(2, .p (.bool v2))] [(1, {n := some a0.length}), (2, {call := some ([.v (.int .i64 (a0.length : Int)), .v (.int .i64 1), .v (.int .i64 8)], [.p (.bool v1)], true)}), (4, {g := some true}), (5, {g := some true, call := some ([.d false [.sl none (a0.map eI)], .v (.int .i64 1), .v (.int .i64 1000000)], [.p (.bool v2)], true)}), (6, {b := some true})] [(a0.map eI).length = a0.length, ([.v (.int .i64 (a0.length : Int)), .v (.int .i64 1), .v (.int .i64 8)] : List Arg) = [.v (.int .i64 (a0.length : Int)), .v (.int .i64 1), .v (.int .i64 8)], Meets Try.prog 86 ([.v (.int .i64 (a0.length : Int)), .v (.int .i64 1), .v (.int .i64 8)] ++ []) { vals := [.p (.bool v1)] }, List.all [.p (.bool v1)] simpleR = true, v1 = true, v1 = true, ([.d false [.sl none (a0.map eI)], .v (.int .i64 1), .v (.int .i64 1000000)] : List Arg) = [.d false [.sl none (a0.map eI)], .v (.int .i64 1), .v (.int .i64 1000000)], Meets Try.prog 87 ([.d false [.sl none (a0.map eI)], .v (.int .i64 1), .v (.int .i64 1000000)] ++ []) { vals := [.p (.bool v2)] }, List.all [.p (.bool v2)] simpleR = true, v1 = true] (by kernel_rfl) ⟨(List.length_map ..), rfl, (wk_spec_l1In hv1), rfl, ha0, ha0, rfl, (wk_spec_l1All hv2), rfl, ha0, trivial⟩)
    · replace hw3 := ite_f ha0 hw3
      have hw3 := Option.some.inj hw3
      subst hw3
      exact (r_go [(2, .p (.bool false))] [(1, {n := some a0.length}), (2, {call := some ([.v (.int .i64 (a0.length : Int)), .v (.int .i64 1), .v (.int .i64 8)], [.p (.bool v1)], true)}), (4, {g := some false}), (5, {g := some false}), (6, {b := some false})] [(a0.map eI).length = a0.length, ([.v (.int .i64 (a0.length : Int)), .v (.int .i64 1), .v (.int .i64 8)] : List Arg) = [.v (.int .i64 (a0.length : Int)), .v (.int .i64 1), .v (.int .i64 8)], Meets Try.prog 86 ([.v (.int .i64 (a0.length : Int)), .v (.int .i64 1), .v (.int .i64 8)] ++ []) { vals := [.p (.bool v1)] }, List.all [.p (.bool v1)] simpleR = true, v1 = false, v1 = false, v1 = false] (by kernel_rfl) ⟨(List.length_map ..), rfl, (wk_spec_l1In hv1), rfl, ha0, ha0, ha0, trivial⟩)
  · refine k_ret ?_
    obtain rfl := Option.some.inj h
    exact e_ret (ls := [(.p (.bool w3), 2)]) (by kernel_rfl) rfl (by kernel_rfl) rfl
theorem wk_spec_IsVector {a0 : (List Int)}  {r : Bool} (h : spec_IsVector a0 = some r) : Meets Try.prog 15 [.d false [.sl none (a0.map eI)]] { vals := [.p (.bool r)] } := by
  refine Meets_ofL (by kernel_rfl) Try.func15 rfl (by kernel_rfl) (l0 := [(0, .d false [.sl none (a0.map eI)])]) (by kernel_rfl) ?_
  unfold spec_IsVector at h
  refine k_sreg (r_go [(0, .d false [.sl none (a0.map eI)])] [] [] (by kernel_rfl) trivial) ?_
  replace h := bind_some' h
  obtain ⟨v1, hv1, h⟩ := h
  refine k_sreg (r_go [(2, .p (.bool v1))] [(1, {call := some ([.d false [.sl none (a0.map eI)]], [.p (.bool v1)], true)})] [([.d false [.sl none (a0.map eI)]] : List Arg) = [.d false [.sl none (a0.map eI)]], Meets Try.prog 49 ([.d false [.sl none (a0.map eI)]] ++ []) { vals := [.p (.bool v1)] }, List.all [.p (.bool v1)] simpleR = true] (by kernel_rfl) ⟨rfl, (wk_spec_gwVector hv1), rfl, trivial⟩) ?_
  refine k_ret ?_
  obtain rfl := Option.some.inj h
  exact e_ret (ls := [(.p (.bool v1), 2)]) (by kernel_rfl) rfl (by kernel_rfl) rfl
theorem wk_impl_within {a0 : Int} {a1 : Int} {a2 : Int}  {r : Bool} (h : impl_within a0 a1 a2 = some r) : Meets Try.prog 76 [.v (.int .i64 a0), .v (.int .i64 a1), .v (.int .i64 a2)] { vals := [.p (.bool r)] } := by
  refine Meets_ofL (by kernel_rfl) Try.func76 rfl (by kernel_rfl) (l0 := [(0, .p (.int .i64 a0)), (1, .p (.int .i64 a1)), (2, .p (.int .i64 a2))]) (by kernel_rfl) ?_
  unfold impl_within at h
  refine k_sreg (r_go [(0, .p (.int .i64 a0)), (1, .p (.int .i64 a1)), (2, .p (.int .i64 a2))] [] [] (by kernel_rfl) trivial) ?_
  refine k_sreg (l1 := [(6, .p (.bool ((decide (a1 ≤ a0)) && (decide (a0 ≤ a2)))))]) ?_ ?_
  · rcases Bool.eq_false_or_eq_true (decide (a1 ≤ a0)) with ha0 | ha0
    · exact RegOk.of_eq (l2 := [(6, .p (.bool ((decide (a1 ≤ a0)) && (decide (a0 ≤ a2)))))]) (r_go [(6, .p (.bool (decide (a0 ≤ a2))))] [(4, {g := some true}), (5, {g := some true}), (6, {g := some true}), (7, {b := some true})] [(decide (a1 ≤ a0)) = true, (decide (a1 ≤ a0)) = true, (decide (a1 ≤ a0)) = true, (decide (a1 ≤ a0)) = true] (by kernel_rfl) ⟨ha0, ha0, ha0, ha0, trivial⟩) (by simp [ha0])
    · exact RegOk.of_eq (l2 := [(6, .p (.bool ((decide (a1 ≤ a0)) && (decide (a0 ≤ a2)))))]) (r_go [(6, .p (.bool false))] [(4, {g := some false}), (5, {g := some false}), (6, {g := some false}), (7, {b := some false})] [(decide (a1 ≤ a0)) = false, (decide (a1 ≤ a0)) = false, (decide (a1 ≤ a0)) = false, (decide (a1 ≤ a0)) = false] (by kernel_rfl) ⟨ha0, ha0, ha0, ha0, trivial⟩) (by simp [ha0])
  · refine k_ret ?_
    obtain rfl := Option.some.inj h
    exact e_ret (ls := [(.p (.bool ((decide (a1 ≤ a0)) && (decide (a0 ≤ a2)))), 6)]) (by kernel_rfl) rfl (by kernel_rfl) rfl
theorem wk_slices_IndexFunc_Lint_int_v {a0 : (List Int)} {a1 : (Int → Option Bool)} {F1 : FuncId} (hp1 : ∀ x0 y, a1 x0 = some y → Meets Try.prog F1 ([.v (.int .i64 x0)] ++ []) { vals := [.p (.bool y)] }) {r : Int} (h : slices_IndexFunc_Lint_int a0 a1 = some r) : Meets Try.prog 121 [.d false [.sl none (a0.map eI)], .v (.func (.func F1) #[] #[])] { vals := [.p (.int .i64 r)] } := by
  refine Meets_ofL (by kernel_rfl) Try.func121 rfl (by kernel_rfl) (l0 := [(0, .d false [.sl none (a0.map eI)]), (1, .p (.func (.func F1) #[] #[]))]) (by kernel_rfl) ?_
  unfold slices_IndexFunc_Lint_int at h
  refine k_sreg (r_go [(0, .d false [.sl none (a0.map eI)]), (1, .p (.func (.func F1) #[] #[]))] [] [] (by kernel_rfl) trivial) ?_
  refine k_join (J := fun (x : Unit) => []) (K := fun x => slices_IndexFunc_Lint_int_k1 x = some r) (fun x1 h => ?_) ?_
  · unfold slices_IndexFunc_Lint_int_k1 at h
    refine k_sreg (r_go [(4, .p (.int .i64 (-1)))] [] [] (by kernel_rfl) trivial) ?_
    refine k_ret ?_
    obtain rfl := Option.some.inj h
    exact e_ret (ls := [(.p (.int .i64 (-1)), 4)]) (by kernel_rfl) rfl (by kernel_rfl) rfl
  · refine k_sreg (r_go [(0, .d false [.sl none (a0.map eI)]), (1, .p (.func (.func F1) #[] #[])), (7, .p (.int .i64 (a0.length : Int))), (8, .p (.int .i64 0))] [(1, {n := some a0.length})] [(a0.map eI).length = a0.length] (by kernel_rfl) ⟨(List.length_map ..), trivial⟩) ?_
    refine k_block ?_
    obtain ⟨y3, hl_x2, hk_x2⟩ := bind_some' h
    clear h
    refine k_loop (J := fun (x : Int) => [(0, .d false [.sl none (a0.map eI)]), (1, .p (.func (.func F1) #[] #[])), (7, .p (.int .i64 (a0.length : Int))), (8, .p (.int .i64 x))]) hl_x2 (wk_of (by kernel_rfl) (by kernel_rfl)) (fun x2 o_x2 h hy_x2 => ?_)
    unfold slices_IndexFunc_Lint_int_b1 at h
    refine k_sreg (r_go [(0, .d false [.sl none (a0.map eI)]), (1, .p (.func (.func F1) #[] #[])), (7, .p (.int .i64 (a0.length : Int))), (8, .p (.int .i64 x2)), (9, .p (.bool (decide (x2 < (a0.length : Int)))))] [] [] (by kernel_rfl) trivial) ?_
    refine k_seq ?_
    refine k_cond (b := (decide (x2 < (a0.length : Int)))) (by kernel_rfl) (fun hc5_3 => ?_) (fun hc5_3 => ?_)
    · replace h := ite_t hc5_3 h
      refine k_skip ?_
      refine q_n ?_
      refine k_seq ?_
      refine k_block ?_
      refine k_sreg (r_go [(0, .d false [.sl none (a0.map eI)]), (1, .p (.func (.func F1) #[] #[])), (5, .p (.int .i64 x2)), (7, .p (.int .i64 (a0.length : Int))), (8, .p (.int .i64 x2))] [] [] (by kernel_rfl) trivial) ?_
      replace h := bind_some' h
      obtain ⟨v5, hv5, h⟩ := h
      replace h := bind_some' h
      obtain ⟨v6, hv6, h⟩ := h
      refine k_sreg (r_go [(0, .d false [.sl none (a0.map eI)]), (1, .p (.func (.func F1) #[] #[])), (5, .p (.int .i64 x2)), (7, .p (.int .i64 (a0.length : Int))), (8, .p (.int .i64 x2)), (16, .p (.bool v6))] [(3, {row := some [.raw (.int .i64 v5)]}), (5, {call := some ([.v (.int .i64 v5)], [.p (.bool v6)], true)})] [0 ≤ x2, (a0.map eI)[(Int.toNat x2)]? = some [.raw (.int .i64 v5)], ([.v (.int .i64 v5)] : List Arg) = [.v (.int .i64 v5)], Meets Try.prog F1 ([.v (.int .i64 v5)] ++ []) { vals := [.p (.bool v6)] }, List.all [.p (.bool v6)] simpleR = true] (by kernel_rfl) ⟨(idxO_some hv5).1, (map_get eI (idxO_some hv5).2), rfl, (hp1 _ _ hv6), rfl, trivial⟩) ?_
      refine k_cond (b := v6) (by kernel_rfl) (fun hc6_6 => ?_) (fun hc6_6 => ?_)
      · replace h := ite_t hc6_6 h
        refine k_sreg (r_go [(4, .p (.int .i64 x2))] [] [] (by kernel_rfl) trivial) ?_
        refine k_ret ?_
        refine b_r ?_
        refine q_r ?_
        refine lq_r ?_
        refine b_r ?_
        refine q_r ?_
        have hyy := hy_x2 _ (Option.some.inj h).symm
        subst hyy
        have h := hk_x2
        dsimp only [Sum.elim] at h
        obtain rfl := Option.some.inj h
        exact e_ret (ls := [(.p (.int .i64 x2), 4)]) (by kernel_rfl) rfl (by kernel_rfl) rfl
      · replace h := ite_f hc6_6 h
        refine k_skip ?_
        refine b_n ?_
        refine q_n ?_
        refine k_reg (r_go [(0, .d false [.sl none (a0.map eI)]), (1, .p (.func (.func F1) #[] #[])), (7, .p (.int .i64 (a0.length : Int))), (8, .p (.int .i64 (w64 (x2 + 1))))] [] [] (by kernel_rfl) trivial) ?_
        exact lq_n (w64 (x2 + 1)) (Option.some.inj h).symm (wk_of (by kernel_rfl) (by kernel_rfl))
    · replace h := ite_f hc5_3 h
      refine k_exit ?_
      refine q_x ?_
      refine lq_x ?_
      refine b_x ?_
      have hyy := hy_x2 _ (Option.some.inj h).symm
      subst hyy
      have h := hk_x2
      dsimp only [Sum.elim] at h
      refine q_n ?_
      exact ⟨(), h, (wk_of (by kernel_rfl) (by kernel_rfl))⟩
theorem wk_slices_ContainsFunc_Lint_int_v {a0 : (List Int)} {a1 : (Int → Option Bool)} {F1 : FuncId} (hp1 : ∀ x0 y, a1 x0 = some y → Meets Try.prog F1 ([.v (.int .i64 x0)] ++ []) { vals := [.p (.bool y)] }) {r : Bool} (h : slices_ContainsFunc_Lint_int a0 a1 = some r) : Meets Try.prog 88 [.d false [.sl none (a0.map eI)], .v (.func (.func F1) #[] #[])] { vals := [.p (.bool r)] } := by
  refine Meets_ofL (by kernel_rfl) Try.func88 rfl (by kernel_rfl) (l0 := [(0, .d false [.sl none (a0.map eI)]), (1, .p (.func (.func F1) #[] #[]))]) (by kernel_rfl) ?_
  unfold slices_ContainsFunc_Lint_int at h
  refine k_sreg (r_go [(0, .d false [.sl none (a0.map eI)]), (1, .p (.func (.func F1) #[] #[]))] [] [] (by kernel_rfl) trivial) ?_
  replace h := bind_some' h
  obtain ⟨v1, hv1, h⟩ := h
  refine k_sreg (r_go [(4, .p (.bool (decide (v1 ≥ 0))))] [(2, {call := some ([.d false [.sl none (a0.map eI)], .v (.func (.func F1) #[] #[])], [.p (.int .i64 v1)], true)})] [([.d false [.sl none (a0.map eI)], .v (.func (.func F1) #[] #[])] : List Arg) = [.d false [.sl none (a0.map eI)], .v (.func (.func F1) #[] #[])], Meets Try.prog 121 ([.d false [.sl none (a0.map eI)], .v (.func (.func F1) #[] #[])] ++ []) { vals := [.p (.int .i64 v1)] }, List.all [.p (.int .i64 v1)] simpleR = true] (by kernel_rfl) ⟨rfl, (wk_slices_IndexFunc_Lint_int_v hp1 hv1), rfl, trivial⟩) ?_
  refine k_ret ?_
  obtain rfl := Option.some.inj h
  exact e_ret (ls := [(.p (.bool (decide (v1 ≥ 0))), 4)]) (by kernel_rfl) rfl (by kernel_rfl) rfl
theorem wk_impl_isVector_1 {a0 : Int}  {r : Bool} (h : impl_isVector_1 a0 = some r) : Meets Try.prog 89 [.v (.int .i64 a0)] { vals := [.p (.bool r)] } := by
  refine Meets_ofL (by kernel_rfl) Try.func89 rfl (by kernel_rfl) (l0 := [(0, .p (.int .i64 a0))]) (by kernel_rfl) ?_
  unfold impl_isVector_1 at h
  refine k_sreg (r_go [(0, .p (.int .i64 a0))] [] [] (by kernel_rfl) trivial) ?_
  replace h := bind_some' h
  obtain ⟨v1, hv1, h⟩ := h
  refine k_sreg (r_go [(2, .p (.bool (!v1)))] [(1, {call := some ([.v (.int .i64 a0), .v (.int .i64 1), .v (.int .i64 1000000)], [.p (.bool v1)], true)})] [([.v (.int .i64 a0), .v (.int .i64 1), .v (.int .i64 1000000)] : List Arg) = [.v (.int .i64 a0), .v (.int .i64 1), .v (.int .i64 1000000)], Meets Try.prog 76 ([.v (.int .i64 a0), .v (.int .i64 1), .v (.int .i64 1000000)] ++ []) { vals := [.p (.bool v1)] }, List.all [.p (.bool v1)] simpleR = true] (by kernel_rfl) ⟨rfl, (wk_impl_within hv1), rfl, trivial⟩) ?_
  refine k_ret ?_
  obtain rfl := Option.some.inj h
  exact e_ret (ls := [(.p (.bool (!v1)), 2)]) (by kernel_rfl) rfl (by kernel_rfl) rfl
theorem wk_impl_isVector {a0 : (List Int)}  {r : Bool} (h : impl_isVector a0 = some r) : Meets Try.prog 50 [.d false [.sl none (a0.map eI)]] { vals := [.p (.bool r)] } := by
  refine Meets_ofL (by kernel_rfl) Try.func50 rfl (by kernel_rfl) (l0 := [(0, .d false [.sl none (a0.map eI)])]) (by kernel_rfl) ?_
  unfold impl_isVector at h
  refine k_sreg (r_go [(0, .d false [.sl none (a0.map eI)])] [] [] (by kernel_rfl) trivial) ?_
  replace h := bind_some' h
  obtain ⟨v1, hv1, h⟩ := h
  replace h := bind_some' h
  obtain ⟨w3, hw3, h⟩ := h
  refine k_sreg (l1 := [(2, .p (.bool w3))]) ?_ ?_
  · clear h
    rcases Bool.eq_false_or_eq_true v1 with ha0 | ha0
    · replace hw3 := ite_t ha0 hw3
      replace hw3 := bind_some' hw3
      obtain ⟨v2, hv2, hw3⟩ := hw3
      have hw3 := Option.some.inj hw3
      subst hw3
      exact (r_go [(2, .p (.bool (!v2)))] [(1, {n := some a0.length}), (2, {call := some ([.v (.int .i64 (a0.length : Int)), .v (.int .i64 1), .v (.int .i64 8)], [.p (.bool v1)], true)}), (4, {g := some true}), (5, {g := some true, call := some ([.d false [.sl none (a0.map eI)], .v (.func (.func 89) #[] #[])], [.p (.bool v2)], true)}), (6, {g := some true}), (7, {b := some true})] [(a0.map eI).length = a0.length, ([.v (.int .i64 (a0.length : Int)), .v (.int .i64 1), .v (.int .i64 8)] : List Arg) = [.v (.int .i64 (a0.length : Int)), .v (.int .i64 1), .v (.int .i64 8)], Meets Try.prog 76 ([.v (.int .i64 (a0.length : Int)), .v (.int .i64 1), .v (.int .i64 8)] ++ []) { vals := [.p (.bool v1)] }, List.all [.p (.bool v1)] simpleR = true, v1 = true, v1 = true, ([.d false [.sl none (a0.map eI)], .v (.func (.func 89) #[] #[])] : List Arg) = [.d false [.sl none (a0.map eI)], .v (.func (.func 89) #[] #[])], Meets Try.prog 88 ([.d false [.sl none (a0.map eI)], .v (.func (.func 89) #[] #[])] ++ []) { vals := [.p (.bool v2)] }, List.all [.p (.bool v2)] simpleR = true, v1 = true, v1 = true] (by kernel_rfl) ⟨(List.length_map ..), rfl, (wk_impl_within hv1), rfl, ha0, ha0, rfl, (wk_slices_ContainsFunc_Lint_int_v (fun x0 y hy => wk_impl_isVector_1 hy) hv2), rfl, ha0, ha0, trivial⟩)
    · replace hw3 := ite_f ha0 hw3
      have hw3 := Option.some.inj hw3
      subst hw3
      exact (r_go [(2, .p (.bool false))] [(1, {n := some a0.length}), (2, {call := some ([.v (.int .i64 (a0.length : Int)), .v (.int .i64 1), .v (.int .i64 8)], [.p (.bool v1)], true)}), (4, {g := some false}), (5, {g := some false}), (6, {g := some false}), (7, {b := some false})] [(a0.map eI).length = a0.length, ([.v (.int .i64 (a0.length : Int)), .v (.int .i64 1), .v (.int .i64 8)] : List Arg) = [.v (.int .i64 (a0.length : Int)), .v (.int .i64 1), .v (.int .i64 8)], Meets Try.prog 76 ([.v (.int .i64 (a0.length : Int)), .v (.int .i64 1), .v (.int .i64 8)] ++ []) { vals := [.p (.bool v1)] }, List.all [.p (.bool v1)] simpleR = true, v1 = false, v1 = false, v1 = false, v1 = false] (by kernel_rfl) ⟨(List.length_map ..), rfl, (wk_impl_within hv1), rfl, ha0, ha0, ha0, ha0, trivial⟩)
  · refine k_ret ?_
    obtain rfl := Option.some.inj h
    exact e_ret (ls := [(.p (.bool w3), 2)]) (by kernel_rfl) rfl (by kernel_rfl) rfl
theorem wk_impl_IsVector {a0 : (List Int)}  {r : Bool} (h : impl_IsVector a0 = some r) : Meets Try.prog 17 [.d false [.sl none (a0.map eI)]] { vals := [.p (.bool r)] } := by
  refine Meets_ofL (by kernel_rfl) Try.func17 rfl (by kernel_rfl) (l0 := [(0, .d false [.sl none (a0.map eI)])]) (by kernel_rfl) ?_
  unfold impl_IsVector at h
  refine k_sreg (r_go [(0, .d false [.sl none (a0.map eI)])] [] [] (by kernel_rfl) trivial) ?_
  replace h := bind_some' h
  obtain ⟨v1, hv1, h⟩ := h
  refine k_sreg (r_go [(2, .p (.bool v1))] [(1, {call := some ([.d false [.sl none (a0.map eI)]], [.p (.bool v1)], true)})] [([.d false [.sl none (a0.map eI)]] : List Arg) = [.d false [.sl none (a0.map eI)]], Meets Try.prog 50 ([.d false [.sl none (a0.map eI)]] ++ []) { vals := [.p (.bool v1)] }, List.all [.p (.bool v1)] simpleR = true] (by kernel_rfl) ⟨rfl, (wk_impl_isVector hv1), rfl, trivial⟩) ?_
  refine k_ret ?_
  obtain rfl := Option.some.inj h
  exact e_ret (ls := [(.p (.bool v1), 2)]) (by kernel_rfl) rfl (by kernel_rfl) rfl
theorem wk_laws_eqIntS {a0 : (List Int)} {a1 : (List Int)}  {r : Bool} (h : laws_eqIntS a0 a1 = some r) : Meets Try.prog 18 [.d false [.sl none (a0.map eI)], .d false [.sl none (a1.map eI)]] { vals := [.p (.bool r)] } := by
  refine Meets_ofL (by kernel_rfl) Try.func18 rfl (by kernel_rfl) (l0 := [(0, .d false [.sl none (a0.map eI)]), (1, .d false [.sl none (a1.map eI)])]) (by kernel_rfl) ?_
  unfold laws_eqIntS at h
  refine k_sreg (r_go [(0, .d false [.sl none (a0.map eI)]), (1, .d false [.sl none (a1.map eI)])] [] [] (by kernel_rfl) trivial) ?_
  refine k_seq ?_
  refine k_sreg (r_go [(0, .d false [.sl none (a0.map eI)]), (1, .d false [.sl none (a1.map eI)]), (10, .p (.bool ((a0.length : Int) != (a1.length : Int))))] [(1, {n := some a0.length}), (3, {n := some a1.length})] [(a0.map eI).length = a0.length, (a1.map eI).length = a1.length] (by kernel_rfl) ⟨(List.length_map ..), (List.length_map ..), trivial⟩) ?_
  refine k_cond (b := ((a0.length : Int) != (a1.length : Int))) (by kernel_rfl) (fun hc2_0 => ?_) (fun hc2_0 => ?_)
  · replace h := ite_t hc2_0 h
    refine k_sreg (r_go [(4, .p (.bool false))] [] [] (by kernel_rfl) trivial) ?_
    refine k_ret ?_
    refine q_r ?_
    obtain rfl := Option.some.inj h
    exact e_ret (ls := [(.p (.bool false), 4)]) (by kernel_rfl) rfl (by kernel_rfl) rfl
  · replace h := ite_f hc2_0 h
    refine k_skip ?_
    refine q_n ?_
    refine k_join (J := fun (x : Unit) => []) (K := fun x => laws_eqIntS_k1 x = some r) (fun x2 h => ?_) ?_
    · unfold laws_eqIntS_k1 at h
      refine k_sreg (r_go [(4, .p (.bool true))] [] [] (by kernel_rfl) trivial) ?_
      refine k_ret ?_
      obtain rfl := Option.some.inj h
      exact e_ret (ls := [(.p (.bool true), 4)]) (by kernel_rfl) rfl (by kernel_rfl) rfl
    · refine k_sreg (r_go [(0, .d false [.sl none (a0.map eI)]), (1, .d false [.sl none (a1.map eI)]), (5, .p (.int .i64 0))] [] [] (by kernel_rfl) trivial) ?_
      refine k_block ?_
      obtain ⟨y4, hl_x3, hk_x3⟩ := bind_some' h
      clear h
      refine k_loop (J := fun (x : Int) => [(0, .d false [.sl none (a0.map eI)]), (1, .d false [.sl none (a1.map eI)]), (5, .p (.int .i64 x))]) hl_x3 (wk_of (by kernel_rfl) (by kernel_rfl)) (fun x3 o_x3 h hy_x3 => ?_)
      unfold laws_eqIntS_b1 at h
      refine k_seq ?_
      refine k_sreg (r_go [(0, .d false [.sl none (a0.map eI)]), (1, .d false [.sl none (a1.map eI)]), (5, .p (.int .i64 x3)), (14, .p (.bool (decide (x3 < (a0.length : Int)))))] [(2, {n := some a0.length})] [(a0.map eI).length = a0.length] (by kernel_rfl) ⟨(List.length_map ..), trivial⟩) ?_
      refine k_cond (b := (decide (x3 < (a0.length : Int)))) (by kernel_rfl) (fun hc5_4 => ?_) (fun hc5_4 => ?_)
      · replace h := ite_t hc5_4 h
        refine k_skip ?_
        refine q_n ?_
        refine k_seq ?_
        refine k_block ?_
        replace h := bind_some' h
        obtain ⟨v6, hv6, h⟩ := h
        replace h := bind_some' h
        obtain ⟨v7, hv7, h⟩ := h
        refine k_sreg (r_draw Try_mixed 9 [(0, .d false [.sl none (a0.map eI)]), (1, .d false [.sl none (a1.map eI)]), (5, .p (.int .i64 x3)), (25, .p (.bool (v6 != v7)))] [(2, {row := some [.raw (.int .i64 v6)]}), (6, {row := some [.raw (.int .i64 v7)]})] [0 ≤ x3, (a0.map eI)[(Int.toNat x3)]? = some [.raw (.int .i64 v6)], 0 ≤ x3, (a1.map eI)[(Int.toNat x3)]? = some [.raw (.int .i64 v7)]] (by kernel_rfl) ⟨(idxO_some hv6).1, (map_get eI (idxO_some hv6).2), (idxO_some hv7).1, (map_get eI (idxO_some hv7).2), trivial⟩) ?_
        refine k_cond (b := (v6 != v7)) (by kernel_rfl) (fun hc6_7 => ?_) (fun hc6_7 => ?_)
        · replace h := ite_t hc6_7 h
          refine k_sreg (r_go [(4, .p (.bool false))] [] [] (by kernel_rfl) trivial) ?_
          refine k_ret ?_
          refine b_r ?_
          refine q_r ?_
          refine lq_r ?_
          refine b_r ?_
          refine q_r ?_
          have hyy := hy_x3 _ (Option.some.inj h).symm
          subst hyy
          have h := hk_x3
          dsimp only [Sum.elim] at h
          obtain rfl := Option.some.inj h
          exact e_ret (ls := [(.p (.bool false), 4)]) (by kernel_rfl) rfl (by kernel_rfl) rfl
        · replace h := ite_f hc6_7 h
          refine k_skip ?_
          refine b_n ?_
          refine q_n ?_
          refine k_reg (r_go [(0, .d false [.sl none (a0.map eI)]), (1, .d false [.sl none (a1.map eI)]), (5, .p (.int .i64 (w64 (x3 + 1))))] [] [] (by kernel_rfl) trivial) ?_
          exact lq_n (w64 (x3 + 1)) (Option.some.inj h).symm (wk_of (by kernel_rfl) (by kernel_rfl))
      · replace h := ite_f hc5_4 h
        refine k_exit ?_
        refine q_x ?_
        refine lq_x ?_
        refine b_x ?_
        have hyy := hy_x3 _ (Option.some.inj h).symm
        subst hyy
        have h := hk_x3
        dsimp only [Sum.elim] at h
        refine q_n ?_
        exact ⟨(), h, (wk_of (by kernel_rfl) (by kernel_rfl))⟩
theorem wk_laws_FnExactIsVector {a0 : (List Int)}  {r : Bool} (h : laws_FnExactIsVector a0 = some r) : Meets Try.prog 3 [.d false [.sl none (a0.map eI)]] { vals := [.p (.bool r)] } := by
  refine Meets_ofL (by kernel_rfl) Try.func3 rfl (by kernel_rfl) (l0 := [(0, .d false [.sl none (a0.map eI)])]) (by kernel_rfl) ?_
  unfold laws_FnExactIsVector at h
  refine k_sreg (r_go [(0, .d false [.sl none (a0.map eI)])] [] [] (by kernel_rfl) trivial) ?_
  refine k_seq ?_
  refine k_sreg (r_go [(0, .d false [.sl none (a0.map eI)]), (8, .p (.bool (decide ((a0.length : Int) > 1048576))))] [(1, {n := some a0.length})] [(a0.map eI).length = a0.length] (by kernel_rfl) ⟨(List.length_map ..), trivial⟩) ?_
  refine k_cond (b := (decide ((a0.length : Int) > 1048576))) (by kernel_rfl) (fun hc2_0 => ?_) (fun hc2_0 => ?_)
  · replace h := ite_t hc2_0 h
    refine k_sreg (r_go [(2, .p (.bool true))] [] [] (by kernel_rfl) trivial) ?_
    refine k_ret ?_
    refine q_r ?_
    obtain rfl := Option.some.inj h
    exact e_ret (ls := [(.p (.bool true), 2)]) (by kernel_rfl) rfl (by kernel_rfl) rfl
  · replace h := ite_f hc2_0 h
    refine k_skip ?_
    refine q_n ?_
    replace h := bind_some' h
    obtain ⟨v2, hv2, h⟩ := h
    replace h := bind_some' h
    obtain ⟨v3, hv3, h⟩ := h
    refine k_sreg (r_go [(0, .d false [.sl none (a0.map eI)]), (3, .p (.bool v3))] [(1, {call := some ([.d false [.sl none (a0.map eI)]], [.ov false [.sl (some 3) (v2.map eI)]], true)}), (2, {call := some ([.d false [.sl none (v2.map eI)]], [.p (.bool v3)], true)})] [([.d false [.sl none (a0.map eI)]] : List Arg) = [.d false [.sl none (a0.map eI)]], Meets Try.prog 16 ([.d false [.sl none (a0.map eI)]] ++ []) { vals := [.ov false [.sl (some 3) (v2.map eI)]] }, List.all [.ov false [.sl (some 3) (v2.map eI)]] simpleR = true, ([.d false [.sl none (eraL (v2.map eI))]] : List Arg) = [.d false [.sl none (v2.map eI)]], Meets Try.prog 15 ([.d false [.sl none (v2.map eI)]] ++ []) { vals := [.p (.bool v3)] }, List.all [.p (.bool v3)] simpleR = true] (by kernel_rfl) ⟨rfl, (wk_laws_toIntS hv2), (sa_o (wnR1 (wnL_enc wn_I) rfl) rfl), (by simp only [eraL_enc (h := eI) er_I]), (wk_spec_IsVector hv3), rfl, trivial⟩) ?_
    replace h := bind_some' h
    obtain ⟨v4, hv4, h⟩ := h
    refine k_sreg (r_go [(0, .d false [.sl none (a0.map eI)]), (3, .p (.bool v3)), (4, .ov false [.sl (some 3) (v4.map eI)])] [(1, {call := some ([.d false [.sl none (a0.map eI)]], [.ov false [.sl (some 3) (v4.map eI)]], true)})] [([.d false [.sl none (a0.map eI)]] : List Arg) = [.d false [.sl none (a0.map eI)]], Meets Try.prog 16 ([.d false [.sl none (a0.map eI)]] ++ []) { vals := [.ov false [.sl (some 3) (v4.map eI)]] }, List.all [.ov false [.sl (some 3) (v4.map eI)]] simpleR = true] (by kernel_rfl) ⟨rfl, (wk_laws_toIntS hv4), (sa_o (wnR1 (wnL_enc wn_I) rfl) rfl), trivial⟩) ?_
    replace h := bind_some' h
    obtain ⟨v5, hv5, h⟩ := h
    refine k_sreg (r_go [(0, .d false [.sl none (a0.map eI)]), (3, .p (.bool v3)), (4, .ov false [.sl (some 3) (v4.map eI)]), (5, .p (.bool v5))] [(1, {call := some ([.d false [.sl none (v4.map eI)]], [.p (.bool v5)], true)})] [([.d false [.sl none (eraL (v4.map eI))]] : List Arg) = [.d false [.sl none (v4.map eI)]], Meets Try.prog 17 ([.d false [.sl none (v4.map eI)]] ++ []) { vals := [.p (.bool v5)] }, List.all [.p (.bool v5)] simpleR = true] (by kernel_rfl) ⟨(by simp only [eraL_enc (h := eI) er_I]), (wk_impl_IsVector hv5), rfl, trivial⟩) ?_
    refine k_seq ?_
    refine k_sreg (r_go [(0, .d false [.sl none (a0.map eI)]), (4, .ov false [.sl (some 3) (v4.map eI)]), (18, .p (.bool (!(v5 == v3))))] [] [] (by kernel_rfl) trivial) ?_
    refine k_cond (b := (!(v5 == v3))) (by kernel_rfl) (fun hc2_5 => ?_) (fun hc2_5 => ?_)
    · replace h := ite_t hc2_5 h
      refine k_sreg (r_go [(2, .p (.bool false))] [] [] (by kernel_rfl) trivial) ?_
      refine k_ret ?_
      refine q_r ?_
      obtain rfl := Option.some.inj h
      exact e_ret (ls := [(.p (.bool false), 2)]) (by kernel_rfl) rfl (by kernel_rfl) rfl
    · replace h := ite_f hc2_5 h
      refine k_skip ?_
      refine q_n ?_
      refine k_seq ?_
      replace h := bind_some' h
      obtain ⟨v7, hv7, h⟩ := h
      replace h := bind_some' h
      obtain ⟨v8, hv8, h⟩ := h
      refine k_sreg (r_go [(23, .p (.bool (!v8)))] [(2, {call := some ([.d false [.sl none (a0.map eI)]], [.ov false [.sl (some 3) (v7.map eI)]], true)}), (3, {call := some ([.d false [.sl none (v4.map eI)], .d false [.sl none (v7.map eI)]], [.p (.bool v8)], true)})] [([.d false [.sl none (a0.map eI)]] : List Arg) = [.d false [.sl none (a0.map eI)]], Meets Try.prog 16 ([.d false [.sl none (a0.map eI)]] ++ []) { vals := [.ov false [.sl (some 3) (v7.map eI)]] }, List.all [.ov false [.sl (some 3) (v7.map eI)]] simpleR = true, ([.d false [.sl none (eraL (v4.map eI))], .d false [.sl none (eraL (v7.map eI))]] : List Arg) = [.d false [.sl none (v4.map eI)], .d false [.sl none (v7.map eI)]], Meets Try.prog 18 ([.d false [.sl none (v4.map eI)], .d false [.sl none (v7.map eI)]] ++ []) { vals := [.p (.bool v8)] }, List.all [.p (.bool v8)] simpleR = true] (by kernel_rfl) ⟨rfl, (wk_laws_toIntS hv7), (sa_o (wnR1 (wnL_enc wn_I) rfl) rfl), (by simp only [eraL_enc (h := eI) er_I, eraL_enc (h := eI) er_I]), (wk_laws_eqIntS hv8), rfl, trivial⟩) ?_
      refine k_cond (b := (!v8)) (by kernel_rfl) (fun hc2_8 => ?_) (fun hc2_8 => ?_)
      · replace h := ite_t hc2_8 h
        refine k_sreg (r_go [(2, .p (.bool false))] [] [] (by kernel_rfl) trivial) ?_
        refine k_ret ?_
        refine q_r ?_
        obtain rfl := Option.some.inj h
        exact e_ret (ls := [(.p (.bool false), 2)]) (by kernel_rfl) rfl (by kernel_rfl) rfl
      · replace h := ite_f hc2_8 h
        refine k_skip ?_
        refine q_n ?_
        refine k_sreg (r_go [(2, .p (.bool true))] [] [] (by kernel_rfl) trivial) ?_
        refine k_ret ?_
        obtain rfl := Option.some.inj h
        exact e_ret (ls := [(.p (.bool true), 2)]) (by kernel_rfl) rfl (by kernel_rfl) rfl
end Go.PV

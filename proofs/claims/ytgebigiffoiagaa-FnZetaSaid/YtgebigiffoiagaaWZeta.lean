/-
  Walks through the functions that the law reaches: each answers as its plain definition does.
  Conditions: none.
-/
import Derived.KernelRfl
import Derived.Test.YtgebigiffoiagaaWZetaPartA
import Derived.Test.YtgebigiffoiagaaProg
open Go Go.PV Go.Proofs
set_option linter.all false
namespace Go.PV
attribute [local irreducible] pvC pvL pvD sOp seqQ blockQ Meets MeetsB Ok OkL RegOk agree endQ seqL blockL loopQ endL endLB
theorem wk_impl_PowerSums {a0 : (List Int)} {a1 : Int}  {r : ((List Int) × Bool)} (h : impl_PowerSums a0 a1 = some r) : Meets Try.prog 17 [.d false [.sl none (a0.map eI)], wI a1] { vals := [.ov false [.sl (some 3) (r.1.map eI)], .p (.bool r.2)] } := by
 refine mo Try.func17 [(0, .d false [.sl none (a0.map eI)]), (1, .p (iV a1))] ?_
 unfold impl_PowerSums at h
 refine k_sreg (r_gq [(0, .d false [.sl none (a0.map eI)]), (1, .p (iV a1))] [] trivial) ?_
 refine k_sreg (r_gq [(0, .d false [.sl none (a0.map eI)]), (1, .p (iV a1)), (6, .p (iV (w64 ((a0.length : Int) - 1))))] [(1, {n := some a0.length})] (A1 (show (a0.map eI).length = a0.length from (List.length_map ..)))) ?_
 refine k_seq ?_
 replace h := bs h
 obtain ⟨v1, hv1, h⟩ := h
 replace h := bs h
 obtain ⟨w4, hw4, h⟩ := h
 refine k_sreg (l1 := [(0, .d false [.sl none (a0.map eI)]), (1, .p (iV a1)), (6, .p (iV (w64 ((a0.length : Int) - 1)))), (30, .p (.bool w4))]) ?_ ?_
 ·clear h
  rcases ft (!v1) with ha0 | ha0
  ·replace hw4 := ite_t ha0 hw4
   have hw4 := oi hw4
   subst hw4
   exact (r_gq [(0, .d false [.sl none (a0.map eI)]), (1, .p (iV a1)), (6, .p (iV (w64 ((a0.length : Int) - 1)))), (30, .p (.bool true))] [(1, {call := some (none, [.p (.bool v1)], true)}), (4, gT), (5, gT), (6, gT), (7, bT), (9, gT), (10, gT), (11, bT), (13, gT), (14, gT), (15, gT), (16, bT)] (B6 (wk_impl_isPolynomial hv1) ha0 ha0 ha0 ha0 (show true = true from rfl) (A6 (show true = true from rfl) (show true = true from rfl) (show true = true from rfl) (show true = true from rfl) (show true = true from rfl) (show true = true from rfl))))
  ·replace hw4 := ite_f ha0 hw4
   replace hw4 := bs hw4
   obtain ⟨v2, hv2, hw4⟩ := hw4
   rcases ft (!v2) with ha1 | ha1
   ·replace hw4 := ite_t ha1 hw4
    have hw4 := oi hw4
    subst hw4
    exact (r_gq [(0, .d false [.sl none (a0.map eI)]), (1, .p (iV a1)), (6, .p (iV (w64 ((a0.length : Int) - 1)))), (30, .p (.bool true))] [(1, {call := some (none, [.p (.bool v1)], true)}), (4, gF), (5, {g := some false, call := some (none, [.p (.bool v2)], true)}), (6, gF), (7, bF), (9, gT), (10, gT), (11, bT), (13, gT), (14, gT), (15, gT), (16, bT)] (B6 (wk_impl_isPolynomial hv1) ha0 ha0 (wk_impl_isMonic hv2) ha0 ha0 (B6 ha1 ha1 ha1 (show true = true from rfl) (show true = true from rfl) (show true = true from rfl) (A1 (show true = true from rfl)))))
   ·replace hw4 := ite_f ha1 hw4
    rcases ft (decide ((w64 ((a0.length : Int) - 1)) < 1)) with ha2 | ha2
    ·replace hw4 := ite_t ha2 hw4
     have hw4 := oi hw4
     subst hw4
     exact (r_gq [(0, .d false [.sl none (a0.map eI)]), (1, .p (iV a1)), (6, .p (iV (w64 ((a0.length : Int) - 1)))), (30, .p (.bool true))] [(1, {call := some (none, [.p (.bool v1)], true)}), (4, gF), (5, {g := some false, call := some (none, [.p (.bool v2)], true)}), (6, gF), (7, bF), (9, gF), (10, gF), (11, bF), (13, gT), (14, gT), (15, gT), (16, bT)] (B6 (wk_impl_isPolynomial hv1) ha0 ha0 (wk_impl_isMonic hv2) ha0 ha0 (B6 ha1 ha1 ha1 ha2 ha2 ha2 (A1 ha2))))
    ·replace hw4 := ite_f ha2 hw4
     replace hw4 := bs hw4
     obtain ⟨v3, hv3, hw4⟩ := hw4
     have hw4 := oi hw4
     subst hw4
     exact (r_gq [(0, .d false [.sl none (a0.map eI)]), (1, .p (iV a1)), (6, .p (iV (w64 ((a0.length : Int) - 1)))), (30, .p (.bool (!v3)))] [(1, {call := some (none, [.p (.bool v1)], true)}), (4, gF), (5, {g := some false, call := some (none, [.p (.bool v2)], true)}), (6, gF), (7, bF), (9, gF), (10, gF), (11, bF), (13, gF), (14, {g := some false, call := some (none, [.p (.bool v3)], true)}), (15, gF), (16, bF)] (B6 (wk_impl_isPolynomial hv1) ha0 ha0 (wk_impl_isMonic hv2) ha0 ha0 (B6 ha1 ha1 ha1 ha2 ha2 (wk_impl_within hv3) (A2 ha2 ha2))))
 ·refine kc w4 (fun hc2_4 => ?_) (fun hc2_4 => ?_)
  ·replace h := ite_t hc2_4 h
   refine k_sreg (r_gq [(4, .ov false [.sl (some 3) []]), (5, .p (.bool false))] [] trivial) ?_
   refine k_ret ?_
   refine q_r ?_
   obtain rfl := oi h
   exact er [(.ov false [.sl (some 3) []], 4), (.p (.bool false), 5)]
  ·replace h := ite_f hc2_4 h
   refine k_skip ?_
   refine q_n ?_
   refine k_sreg (r_gq [(0, .d false [.sl none (a0.map eI)]), (1, .p (iV a1)), (6, .p (iV (w64 ((a0.length : Int) - 1)))), (7, .ov false [.sl (some 3) []])] [] trivial) ?_
   refine k_join (J := fun (x : (List Int)) => [(7, .ov false [.sl (some 3) (x.map eI)])]) (K := fun x => impl_PowerSums_k1 x = some r) (fun x6 h => ?_) ?_
   ·unfold impl_PowerSums_k1 at h
    refine k_sreg (r_gq [(4, .ov false [.sl (some 3) (x6.map eI)]), (5, .p (.bool true))] [] trivial) ?_
    refine k_ret ?_
    obtain rfl := oi h
    exact er [(.ov false [.sl (some 3) (x6.map eI)], 4), (.p (.bool true), 5)]
   ·refine k_sreg (r_gq [(0, .d false [.sl none (a0.map eI)]), (1, .p (iV a1)), (6, .p (iV (w64 ((a0.length : Int) - 1)))), (7, .ov false [.sl (some 3) []]), (8, .p (iV 1))] [] trivial) ?_
    refine k_block ?_
    obtain ⟨y8, hl_x7, hk_x7⟩ := bs h
    clear h
    refine k_loop (J := fun (x : ((List Int) × Int)) => [(0, .d false [.sl none (a0.map eI)]), (1, .p (iV a1)), (6, .p (iV (w64 ((a0.length : Int) - 1)))), (7, .ov false [.sl (some 3) (x.1.map eI)]), (8, .p (iV x.2))]) hl_x7 (wk_of (by kernel_rfl) (by kernel_rfl)) (fun x7 o_x7 h hy_x7 => ?_)
    unfold impl_PowerSums_b1 at h
    refine k_seq ?_
    refine k_sreg (r_gq [(0, .d false [.sl none (a0.map eI)]), (1, .p (iV a1)), (6, .p (iV (w64 ((a0.length : Int) - 1)))), (7, .ov false [.sl (some 3) (x7.1.map eI)]), (8, .p (iV x7.2)), (33, .p (.bool (decide (x7.2 ≤ a1))))] [] trivial) ?_
    refine kc (decide (x7.2 ≤ a1)) (fun hc5_8 => ?_) (fun hc5_8 => ?_)
    ·replace h := ite_t hc5_8 h
     refine k_skip ?_
     refine q_n ?_
     refine k_join (J := fun (x : (List Int)) => [(0, .d false [.sl none (a0.map eI)]), (1, .p (iV a1)), (6, .p (iV (w64 ((a0.length : Int) - 1)))), (7, .ov false [.sl (some 3) (x.map eI)]), (8, .p (iV x7.2))]) (K := fun x => impl_PowerSums_k2 x7 x = some o_x7) (fun x10 h => ?_) ?_
     ·unfold impl_PowerSums_k2 at h
      refine k_reg (r_gq [(0, .d false [.sl none (a0.map eI)]), (1, .p (iV a1)), (6, .p (iV (w64 ((a0.length : Int) - 1)))), (7, .ov false [.sl (some 3) (x10.map eI)]), (8, .p (iV (w64 (x7.2 + 1))))] [] trivial) ?_
      exact lqn (x10, (w64 (x7.2 + 1))) h
     ·refine k_block ?_
      refine k_sreg (r_gq [(0, .d false [.sl none (a0.map eI)]), (1, .p (iV a1)), (6, .p (iV (w64 ((a0.length : Int) - 1)))), (7, .ov false [.sl (some 3) (x7.1.map eI)]), (8, .p (iV x7.2)), (9, .p (iV 0))] [] trivial) ?_
      refine k_join (J := fun (x : Int) => [(0, .d false [.sl none (a0.map eI)]), (1, .p (iV a1)), (6, .p (iV (w64 ((a0.length : Int) - 1)))), (7, .ov false [.sl (some 3) (x7.1.map eI)]), (8, .p (iV x7.2)), (9, .p (iV x))]) (K := fun x => impl_PowerSums_k3 a0 x7 x = some o_x7) (fun x11 h => ?_) ?_
      ·unfold impl_PowerSums_k3 at h
       refine k_join (J := fun (x : Int) => [(0, .d false [.sl none (a0.map eI)]), (1, .p (iV a1)), (6, .p (iV (w64 ((a0.length : Int) - 1)))), (7, .ov false [.sl (some 3) (x7.1.map eI)]), (8, .p (iV x7.2)), (9, .p (iV x))]) (K := fun x => impl_PowerSums_k4 x7 x = some o_x7) (fun x12 h => ?_) ?_
       ·unfold impl_PowerSums_k4 at h
        refine k_seq ?_
        replace h := bs h
        obtain ⟨v13, hv13, h⟩ := h
        refine k_sreg (r_gq [(0, .d false [.sl none (a0.map eI)]), (1, .p (iV a1)), (6, .p (iV (w64 ((a0.length : Int) - 1)))), (7, .ov false [.sl (some 3) (x7.1.map eI)]), (8, .p (iV x7.2)), (9, .p (iV x12)), (77, .p (.bool (!v13)))] [(1, {call := some (none, [.p (.bool v13)], true)})] (A1 (wk_impl_within hv13))) ?_
        refine kc (!v13) (fun hc7_13 => ?_) (fun hc7_13 => ?_)
        ·replace h := ite_t hc7_13 h
         refine k_sreg (r_gq [(4, .ov false [.sl (some 3) []]), (5, .p (.bool false))] [] trivial) ?_
         refine k_ret ?_
         refine q_r ?_
         refine b_r ?_
         refine q_r ?_
         refine lq_r ?_
         refine b_r ?_
         refine q_r ?_
         have hyy := hy_x7 _ (oi h).symm
         subst hyy
         have h := hk_x7
         dsimp only [Sum.elim] at h
         obtain rfl := oi h
         exact er [(.ov false [.sl (some 3) []], 4), (.p (.bool false), 5)]
        ·replace h := ite_f hc7_13 h
         refine k_skip ?_
         refine q_n ?_
         replace h := bs h
         obtain ⟨u15, hu15, h⟩ := h
         refine k_reg (r_gq [(0, .d false [.sl none (a0.map eI)]), (1, .p (iV a1)), (6, .p (iV (w64 ((a0.length : Int) - 1)))), (7, .ov false [.sl (some 3) ((x7.1 ++ [x12]).map eI)]), (8, .p (iV x7.2))] [(3, {fix := some (81, .ov false [.sl (some 3) ((x7.1 ++ [x12]).map eI)])})] (A3 (show List.length ((x7.1.map eI) : List (List C)) + List.length ((([x12]).map eI) : List (List C)) ≤ 1099511627776 from (by have hg := (yca hu15); simpa using hg)) (show ∀ row ∈ ((([x12]).map eI) : List (List C)), row.length = 1 from (yua fun _ => rfl)) (show (SV.ov false [.sl (some 3) ((x7.1.map eI) ++ (([x12]).map eI))] : SV) = .ov false [.sl (some 3) ((x7.1 ++ [x12]).map eI)] from (congrArg (fun z => SV.ov false [.sl (some 3) z]) (List.map_append ..).symm)))) ?_
         refine b_n ?_
         refine q_n ?_
         exact jx (x7.1 ++ [x12]) h
       ·refine k_sreg (r_gq [(0, .d false [.sl none (a0.map eI)]), (1, .p (iV a1)), (6, .p (iV (w64 ((a0.length : Int) - 1)))), (7, .ov false [.sl (some 3) (x7.1.map eI)]), (8, .p (iV x7.2)), (9, .p (iV x11)), (64, .p (.bool (decide (x7.2 ≤ (w64 ((a0.length : Int) - 1))))))] [] trivial) ?_
        refine kc (decide (x7.2 ≤ (w64 ((a0.length : Int) - 1)))) (fun hc7_15 => ?_) (fun hc7_15 => ?_)
        ·replace h := ite_t hc7_15 h
         replace h := bs h
         obtain ⟨v17, hv17, h⟩ := h
         refine k_reg (r_gq [(0, .d false [.sl none (a0.map eI)]), (1, .p (iV a1)), (6, .p (iV (w64 ((a0.length : Int) - 1)))), (7, .ov false [.sl (some 3) (x7.1.map eI)]), (8, .p (iV x7.2)), (9, .p (iV (w64 (x11 - (w64 (x7.2 * v17))))))] [(6, {row := some (eI v17)})] (A2 (yba hv17).1 (map_get eI (yba hv17).2))) ?_
         refine q_n ?_
         exact jx (w64 (x11 - (w64 (x7.2 * v17)))) h
        ·replace h := ite_f hc7_15 h
         refine k_skip ?_
         refine q_n ?_
         exact jx x11 h
      ·refine k_sreg (r_gq [(0, .d false [.sl none (a0.map eI)]), (1, .p (iV a1)), (6, .p (iV (w64 ((a0.length : Int) - 1)))), (7, .ov false [.sl (some 3) (x7.1.map eI)]), (8, .p (iV x7.2)), (9, .p (iV 0)), (10, .p (iV 1))] [] trivial) ?_
       refine k_block ?_
       obtain ⟨y19, hl_x18, hk_x18⟩ := bs h
       clear h
       refine k_loop (J := fun (x : Qr) => [(0, .d false [.sl none (a0.map eI)]), (1, .p (iV a1)), (6, .p (iV (w64 ((a0.length : Int) - 1)))), (7, .ov false [.sl (some 3) (x7.1.map eI)]), (8, .p (iV x7.2)), (9, .p (iV x.1)), (10, .p (iV x.2))]) hl_x18 (wk_of (by kernel_rfl) (by kernel_rfl)) (fun x18 o_x18 h hy_x18 => ?_)
       unfold impl_PowerSums_b2 at h
       refine k_seq ?_
       refine k_sreg (l1 := [(0, .d false [.sl none (a0.map eI)]), (1, .p (iV a1)), (6, .p (iV (w64 ((a0.length : Int) - 1)))), (7, .ov false [.sl (some 3) (x7.1.map eI)]), (8, .p (iV x7.2)), (9, .p (iV x18.1)), (10, .p (iV x18.2)), (43, .p (.bool ((decide (x18.2 < x7.2)) && (decide (x18.2 ≤ (w64 ((a0.length : Int) - 1)))))))]) ?_ ?_
       ·rcases ft (decide (x18.2 < x7.2)) with ha2 | ha2
        ·exact RegOk.of_eq (l2 := [(0, .d false [.sl none (a0.map eI)]), (1, .p (iV a1)), (6, .p (iV (w64 ((a0.length : Int) - 1)))), (7, .ov false [.sl (some 3) (x7.1.map eI)]), (8, .p (iV x7.2)), (9, .p (iV x18.1)), (10, .p (iV x18.2)), (43, .p (.bool ((decide (x18.2 < x7.2)) && (decide (x18.2 ≤ (w64 ((a0.length : Int) - 1)))))))]) (r_gq [(0, .d false [.sl none (a0.map eI)]), (1, .p (iV a1)), (6, .p (iV (w64 ((a0.length : Int) - 1)))), (7, .ov false [.sl (some 3) (x7.1.map eI)]), (8, .p (iV x7.2)), (9, .p (iV x18.1)), (10, .p (iV x18.2)), (43, .p (.bool (decide (x18.2 ≤ (w64 ((a0.length : Int) - 1))))))] [(4, gT), (5, gT), (6, gT), (7, bT)] (A4 ha2 ha2 ha2 ha2)) (by simp [ha2])
        ·exact RegOk.of_eq (l2 := [(0, .d false [.sl none (a0.map eI)]), (1, .p (iV a1)), (6, .p (iV (w64 ((a0.length : Int) - 1)))), (7, .ov false [.sl (some 3) (x7.1.map eI)]), (8, .p (iV x7.2)), (9, .p (iV x18.1)), (10, .p (iV x18.2)), (43, .p (.bool ((decide (x18.2 < x7.2)) && (decide (x18.2 ≤ (w64 ((a0.length : Int) - 1)))))))]) (r_gq [(0, .d false [.sl none (a0.map eI)]), (1, .p (iV a1)), (6, .p (iV (w64 ((a0.length : Int) - 1)))), (7, .ov false [.sl (some 3) (x7.1.map eI)]), (8, .p (iV x7.2)), (9, .p (iV x18.1)), (10, .p (iV x18.2)), (43, .p (.bool false))] [(4, gF), (5, gF), (6, gF), (7, bF)] (A4 ha2 ha2 ha2 ha2)) (by simp [ha2])
       ·refine kc ((decide (x18.2 < x7.2)) && (decide (x18.2 ≤ (w64 ((a0.length : Int) - 1))))) (fun hc10_19 => ?_) (fun hc10_19 => ?_)
        ·replace h := ite_t hc10_19 h
         refine k_skip ?_
         refine q_n ?_
         refine k_seq ?_
         refine k_block ?_
         replace h := bs h
         obtain ⟨v21, hv21, h⟩ := h
         replace h := bs h
         obtain ⟨v22, hv22, h⟩ := h
         refine k_reg (r_dq Try_mixed 15 [] [(0, .d false [.sl none (a0.map eI)]), (1, .p (iV a1)), (6, .p (iV (w64 ((a0.length : Int) - 1)))), (7, .ov false [.sl (some 3) (x7.1.map eI)]), (8, .p (iV x7.2)), (9, .p (iV (w64 (x18.1 - (w64 (v21 * v22)))))), (10, .p (iV x18.2))] [(5, {row := some (eI v21)}), (12, {row := some (eI v22)}), (13, {row := some (eI v22)})] (A5 (yba hv21).1 (map_get eI (yba hv21).2) (yba hv22).1 (map_get eI (yba hv22).2) (show getRow [[.sl (some 3) (x7.1.map eI)]] [(0, 0), ((Int.toNat (w64 ((w64 (x7.2 - x18.2)) - 1))), 0)] = some (eI v22) from ((gr0 rfl).trans (gre (map_get eI (yba hv22).2)))))) ?_
         refine b_n ?_
         refine q_n ?_
         refine k_reg (r_gq [(0, .d false [.sl none (a0.map eI)]), (1, .p (iV a1)), (6, .p (iV (w64 ((a0.length : Int) - 1)))), (7, .ov false [.sl (some 3) (x7.1.map eI)]), (8, .p (iV x7.2)), (9, .p (iV (w64 (x18.1 - (w64 (v21 * v22)))))), (10, .p (iV (w64 (x18.2 + 1))))] [] trivial) ?_
         exact lqn ((w64 (x18.1 - (w64 (v21 * v22)))), (w64 (x18.2 + 1))) h
        ·replace h := ite_f hc10_19 h
         refine k_exit ?_
         refine q_x ?_
         refine lq_x ?_
         refine b_x ?_
         have hyy := hy_x18 _ (oi h).symm
         subst hyy
         have h := hk_x18
         refine q_n ?_
         exact jx x18.1 h
    ·replace h := ite_f hc5_8 h
     refine k_exit ?_
     refine q_x ?_
     refine lq_x ?_
     refine b_x ?_
     have hyy := hy_x7 _ (oi h).symm
     subst hyy
     have h := hk_x7
     dsimp only [Sum.elim] at h
     refine q_n ?_
     exact jx x7.1 h
theorem wk_spec_poMonic {a0 : (List Int)}  {r : Bool} (h : spec_poMonic a0 = some r) : Meets Try.prog 76 [.d false [.sl none (a0.map eI)]] { vals := [.p (.bool r)] } := by
 refine mo Try.func76 [(0, .d false [.sl none (a0.map eI)])] ?_
 unfold spec_poMonic at h
 refine k_sreg (r_gq [(0, .d false [.sl none (a0.map eI)])] [] trivial) ?_
 replace h := bs h
 obtain ⟨w2, hw2, h⟩ := h
 refine k_sreg (l1 := [(2, .p (.bool w2))]) ?_ ?_
 ·clear h
  rcases ft (decide ((a0.length : Int) > 0)) with ha0 | ha0
  ·replace hw2 := ite_t ha0 hw2
   replace hw2 := bs hw2
   obtain ⟨v1, hv1, hw2⟩ := hw2
   have hw2 := oi hw2
   subst hw2
   exact (r_gq [(2, .p (.bool (v1 == 1)))] [(1, {n := some a0.length}), (4, gT), (5, gT), (6, {g := some true, n := some a0.length}), (7, gT), (8, {g := some true, row := some (eI v1)}), (9, gT), (10, gT), (11, bT)] (B6 (show (a0.map eI).length = a0.length from (List.length_map ..)) ha0 ha0 ha0 (show (a0.map eI).length = a0.length from (List.length_map ..)) ha0 (A6 ha0 (yba hv1).1 (map_get eI (yba hv1).2) ha0 ha0 ha0)))
  ·replace hw2 := ite_f ha0 hw2
   have hw2 := oi hw2
   subst hw2
   exact (r_gq [(2, .p (.bool false))] [(1, {n := some a0.length}), (4, gF), (5, gF), (6, gF), (7, gF), (8, gF), (9, gF), (10, gF), (11, bF)] (B6 (show (a0.map eI).length = a0.length from (List.length_map ..)) ha0 ha0 ha0 ha0 ha0 (A3 ha0 ha0 ha0)))
 ·refine k_ret ?_
  obtain rfl := oi h
  exact er [(.p (.bool w2), 2)]
theorem wk_spec_zeLength {a0 : Int}  {r : Bool} (h : spec_zeLength a0 = some r) : Meets Try.prog 77 [wI a0] { vals := [.p (.bool r)] } := by
 refine mo Try.func77 [(0, .p (iV a0))] ?_
 unfold spec_zeLength at h
 refine k_sreg (r_gq [(0, .p (iV a0))] [] trivial) ?_
 replace h := bs h
 obtain ⟨v1, hv1, h⟩ := h
 refine k_sreg (r_gq [(2, .p (.bool v1))] [(1, {call := some (none, [.p (.bool v1)], true)})] (A1 (wk_spec_l1In hv1))) ?_
 refine k_ret ?_
 obtain rfl := oi h
 exact er [(.p (.bool v1), 2)]
theorem wk_spec_PowerSums {a0 : (List Int)} {a1 : Int}  {r : ((List Int) × Bool)} (h : spec_PowerSums a0 a1 = some r) : Meets Try.prog 18 [.d false [.sl none (a0.map eI)], wI a1] { vals := [.ov false [.sl (some 3) (r.1.map eI)], .p (.bool r.2)] } := by
 refine mo Try.func18 [(0, .d false [.sl none (a0.map eI)]), (1, .p (iV a1))] ?_
 unfold spec_PowerSums at h
 refine k_sreg (r_gq [(0, .d false [.sl none (a0.map eI)]), (1, .p (iV a1))] [] trivial) ?_
 refine k_seq ?_
 replace h := bs h
 obtain ⟨v1, hv1, h⟩ := h
 replace h := bs h
 obtain ⟨w4, hw4, h⟩ := h
 refine k_sreg (l1 := [(0, .d false [.sl none (a0.map eI)]), (1, .p (iV a1)), (28, .p (.bool w4))]) ?_ ?_
 ·clear h
  rcases ft (!v1) with ha0 | ha0
  ·replace hw4 := ite_t ha0 hw4
   have hw4 := oi hw4
   subst hw4
   exact (r_gq [(0, .d false [.sl none (a0.map eI)]), (1, .p (iV a1)), (28, .p (.bool true))] [(1, {call := some (none, [.p (.bool v1)], true)}), (4, gT), (5, gT), (6, gT), (7, bT), (9, gT), (10, gT), (11, gT), (12, bT), (14, gT), (15, gT), (16, gT), (17, bT)] (B6 (wk_spec_poGood hv1) ha0 ha0 ha0 ha0 (show true = true from rfl) (B6 (show true = true from rfl) (show true = true from rfl) (show true = true from rfl) (show true = true from rfl) (show true = true from rfl) (show true = true from rfl) (A1 (show true = true from rfl)))))
  ·replace hw4 := ite_f ha0 hw4
   replace hw4 := bs hw4
   obtain ⟨v2, hv2, hw4⟩ := hw4
   rcases ft (!v2) with ha1 | ha1
   ·replace hw4 := ite_t ha1 hw4
    have hw4 := oi hw4
    subst hw4
    exact (r_gq [(0, .d false [.sl none (a0.map eI)]), (1, .p (iV a1)), (28, .p (.bool true))] [(1, {call := some (none, [.p (.bool v1)], true)}), (4, gF), (5, {g := some false, call := some (none, [.p (.bool v2)], true)}), (6, gF), (7, bF), (9, gT), (10, gT), (11, gT), (12, bT), (14, gT), (15, gT), (16, gT), (17, bT)] (B6 (wk_spec_poGood hv1) ha0 ha0 (wk_spec_poMonic hv2) ha0 ha0 (B6 ha1 ha1 ha1 ha1 (show true = true from rfl) (show true = true from rfl) (A2 (show true = true from rfl) (show true = true from rfl)))))
   ·replace hw4 := ite_f ha1 hw4
    rcases ft (decide ((a0.length : Int) < 2)) with ha2 | ha2
    ·replace hw4 := ite_t ha2 hw4
     have hw4 := oi hw4
     subst hw4
     exact (r_gq [(0, .d false [.sl none (a0.map eI)]), (1, .p (iV a1)), (28, .p (.bool true))] [(1, {call := some (none, [.p (.bool v1)], true)}), (4, gF), (5, {g := some false, call := some (none, [.p (.bool v2)], true)}), (6, gF), (7, bF), (9, gF), (10, {g := some false, n := some a0.length}), (11, gF), (12, bF), (14, gT), (15, gT), (16, gT), (17, bT)] (B6 (wk_spec_poGood hv1) ha0 ha0 (wk_spec_poMonic hv2) ha0 ha0 (B6 ha1 ha1 (show (a0.map eI).length = a0.length from (List.length_map ..)) ha1 ha1 ha2 (A3 ha2 ha2 ha2))))
    ·replace hw4 := ite_f ha2 hw4
     replace hw4 := bs hw4
     obtain ⟨v3, hv3, hw4⟩ := hw4
     have hw4 := oi hw4
     subst hw4
     exact (r_gq [(0, .d false [.sl none (a0.map eI)]), (1, .p (iV a1)), (28, .p (.bool (!v3)))] [(1, {call := some (none, [.p (.bool v1)], true)}), (4, gF), (5, {g := some false, call := some (none, [.p (.bool v2)], true)}), (6, gF), (7, bF), (9, gF), (10, {g := some false, n := some a0.length}), (11, gF), (12, bF), (14, gF), (15, {g := some false, call := some (none, [.p (.bool v3)], true)}), (16, gF), (17, bF)] (B6 (wk_spec_poGood hv1) ha0 ha0 (wk_spec_poMonic hv2) ha0 ha0 (B6 ha1 ha1 (show (a0.map eI).length = a0.length from (List.length_map ..)) ha1 ha1 ha2 (A4 ha2 (wk_spec_zeLength hv3) ha2 ha2))))
 ·refine kc w4 (fun hc2_4 => ?_) (fun hc2_4 => ?_)
  ·replace h := ite_t hc2_4 h
   refine k_sreg (r_gq [(4, .ov false [.sl (some 3) []]), (5, .p (.bool false))] [] trivial) ?_
   refine k_ret ?_
   refine q_r ?_
   obtain rfl := oi h
   exact er [(.ov false [.sl (some 3) []], 4), (.p (.bool false), 5)]
  ·replace h := ite_f hc2_4 h
   refine k_skip ?_
   refine q_n ?_
   refine k_sreg (r_gq [(0, .d false [.sl none (a0.map eI)]), (1, .p (iV a1)), (6, .p (iV (w64 ((a0.length : Int) - 1))))] [(1, {n := some a0.length})] (A1 (show (a0.map eI).length = a0.length from (List.length_map ..)))) ?_
   refine k_sreg (r_gq [(0, .d false [.sl none (a0.map eI)]), (1, .p (iV a1)), (6, .p (iV (w64 ((a0.length : Int) - 1)))), (7, .ov false [.sl (some 3) []])] [] trivial) ?_
   refine k_join (J := fun (x : (List Int)) => [(7, .ov false [.sl (some 3) (x.map eI)])]) (K := fun x => spec_PowerSums_k1 x = some r) (fun x6 h => ?_) ?_
   ·unfold spec_PowerSums_k1 at h
    refine k_sreg (r_gq [(4, .ov false [.sl (some 3) (x6.map eI)]), (5, .p (.bool true))] [] trivial) ?_
    refine k_ret ?_
    obtain rfl := oi h
    exact er [(.ov false [.sl (some 3) (x6.map eI)], 4), (.p (.bool true), 5)]
   ·refine k_sreg (r_gq [(0, .d false [.sl none (a0.map eI)]), (1, .p (iV a1)), (6, .p (iV (w64 ((a0.length : Int) - 1)))), (7, .ov false [.sl (some 3) []]), (8, .p (iV 1))] [] trivial) ?_
    refine k_block ?_
    obtain ⟨y8, hl_x7, hk_x7⟩ := bs h
    clear h
    refine k_loop (J := fun (x : ((List Int) × Int)) => [(0, .d false [.sl none (a0.map eI)]), (1, .p (iV a1)), (6, .p (iV (w64 ((a0.length : Int) - 1)))), (7, .ov false [.sl (some 3) (x.1.map eI)]), (8, .p (iV x.2))]) hl_x7 (wk_of (by kernel_rfl) (by kernel_rfl)) (fun x7 o_x7 h hy_x7 => ?_)
    unfold spec_PowerSums_b1 at h
    refine k_seq ?_
    refine k_sreg (r_gq [(0, .d false [.sl none (a0.map eI)]), (1, .p (iV a1)), (6, .p (iV (w64 ((a0.length : Int) - 1)))), (7, .ov false [.sl (some 3) (x7.1.map eI)]), (8, .p (iV x7.2)), (34, .p (.bool (decide (x7.2 ≤ a1))))] [] trivial) ?_
    refine kc (decide (x7.2 ≤ a1)) (fun hc5_8 => ?_) (fun hc5_8 => ?_)
    ·replace h := ite_t hc5_8 h
     refine k_skip ?_
     refine q_n ?_
     refine k_join (J := fun (x : (List Int)) => [(0, .d false [.sl none (a0.map eI)]), (1, .p (iV a1)), (6, .p (iV (w64 ((a0.length : Int) - 1)))), (7, .ov false [.sl (some 3) (x.map eI)]), (8, .p (iV x7.2))]) (K := fun x => spec_PowerSums_k2 x7 x = some o_x7) (fun x10 h => ?_) ?_
     ·unfold spec_PowerSums_k2 at h
      refine k_reg (r_gq [(0, .d false [.sl none (a0.map eI)]), (1, .p (iV a1)), (6, .p (iV (w64 ((a0.length : Int) - 1)))), (7, .ov false [.sl (some 3) (x10.map eI)]), (8, .p (iV (w64 (x7.2 + 1))))] [] trivial) ?_
      exact lqn (x10, (w64 (x7.2 + 1))) h
     ·refine k_block ?_
      refine k_sreg (r_gq [(0, .d false [.sl none (a0.map eI)]), (1, .p (iV a1)), (6, .p (iV (w64 ((a0.length : Int) - 1)))), (7, .ov false [.sl (some 3) (x7.1.map eI)]), (8, .p (iV x7.2)), (9, .p (iV 0))] [] trivial) ?_
      refine k_join (J := fun (x : Int) => [(0, .d false [.sl none (a0.map eI)]), (1, .p (iV a1)), (6, .p (iV (w64 ((a0.length : Int) - 1)))), (7, .ov false [.sl (some 3) (x7.1.map eI)]), (8, .p (iV x7.2)), (9, .p (iV x))]) (K := fun x => spec_PowerSums_k3 a0 x7 x = some o_x7) (fun x11 h => ?_) ?_
      ·unfold spec_PowerSums_k3 at h
       refine k_join (J := fun (x : Int) => [(0, .d false [.sl none (a0.map eI)]), (1, .p (iV a1)), (6, .p (iV (w64 ((a0.length : Int) - 1)))), (7, .ov false [.sl (some 3) (x7.1.map eI)]), (8, .p (iV x7.2)), (9, .p (iV x))]) (K := fun x => spec_PowerSums_k4 x7 x = some o_x7) (fun x12 h => ?_) ?_
       ·unfold spec_PowerSums_k4 at h
        refine k_seq ?_
        replace h := bs h
        obtain ⟨v13, hv13, h⟩ := h
        refine k_sreg (r_gq [(0, .d false [.sl none (a0.map eI)]), (1, .p (iV a1)), (6, .p (iV (w64 ((a0.length : Int) - 1)))), (7, .ov false [.sl (some 3) (x7.1.map eI)]), (8, .p (iV x7.2)), (9, .p (iV x12)), (78, .p (.bool (!v13)))] [(1, {call := some (none, [.p (.bool v13)], true)})] (A1 (wk_spec_l1In hv13))) ?_
        refine kc (!v13) (fun hc7_13 => ?_) (fun hc7_13 => ?_)
        ·replace h := ite_t hc7_13 h
         refine k_sreg (r_gq [(4, .ov false [.sl (some 3) []]), (5, .p (.bool false))] [] trivial) ?_
         refine k_ret ?_
         refine q_r ?_
         refine b_r ?_
         refine q_r ?_
         refine lq_r ?_
         refine b_r ?_
         refine q_r ?_
         have hyy := hy_x7 _ (oi h).symm
         subst hyy
         have h := hk_x7
         dsimp only [Sum.elim] at h
         obtain rfl := oi h
         exact er [(.ov false [.sl (some 3) []], 4), (.p (.bool false), 5)]
        ·replace h := ite_f hc7_13 h
         refine k_skip ?_
         refine q_n ?_
         replace h := bs h
         obtain ⟨u15, hu15, h⟩ := h
         refine k_reg (r_gq [(0, .d false [.sl none (a0.map eI)]), (1, .p (iV a1)), (6, .p (iV (w64 ((a0.length : Int) - 1)))), (7, .ov false [.sl (some 3) ((x7.1 ++ [x12]).map eI)]), (8, .p (iV x7.2))] [(3, {fix := some (82, .ov false [.sl (some 3) ((x7.1 ++ [x12]).map eI)])})] (A3 (show List.length ((x7.1.map eI) : List (List C)) + List.length ((([x12]).map eI) : List (List C)) ≤ 1099511627776 from (by have hg := (yca hu15); simpa using hg)) (show ∀ row ∈ ((([x12]).map eI) : List (List C)), row.length = 1 from (yua fun _ => rfl)) (show (SV.ov false [.sl (some 3) ((x7.1.map eI) ++ (([x12]).map eI))] : SV) = .ov false [.sl (some 3) ((x7.1 ++ [x12]).map eI)] from (congrArg (fun z => SV.ov false [.sl (some 3) z]) (List.map_append ..).symm)))) ?_
         refine b_n ?_
         refine q_n ?_
         exact jx (x7.1 ++ [x12]) h
       ·refine k_sreg (r_gq [(0, .d false [.sl none (a0.map eI)]), (1, .p (iV a1)), (6, .p (iV (w64 ((a0.length : Int) - 1)))), (7, .ov false [.sl (some 3) (x7.1.map eI)]), (8, .p (iV x7.2)), (9, .p (iV x11)), (65, .p (.bool (decide (x7.2 ≤ (w64 ((a0.length : Int) - 1))))))] [] trivial) ?_
        refine kc (decide (x7.2 ≤ (w64 ((a0.length : Int) - 1)))) (fun hc7_15 => ?_) (fun hc7_15 => ?_)
        ·replace h := ite_t hc7_15 h
         replace h := bs h
         obtain ⟨v17, hv17, h⟩ := h
         refine k_reg (r_gq [(0, .d false [.sl none (a0.map eI)]), (1, .p (iV a1)), (6, .p (iV (w64 ((a0.length : Int) - 1)))), (7, .ov false [.sl (some 3) (x7.1.map eI)]), (8, .p (iV x7.2)), (9, .p (iV (w64 (x11 - (w64 (x7.2 * v17))))))] [(6, {row := some (eI v17)})] (A2 (yba hv17).1 (map_get eI (yba hv17).2))) ?_
         refine q_n ?_
         exact jx (w64 (x11 - (w64 (x7.2 * v17)))) h
        ·replace h := ite_f hc7_15 h
         refine k_skip ?_
         refine q_n ?_
         exact jx x11 h
      ·refine k_sreg (r_gq [(0, .d false [.sl none (a0.map eI)]), (1, .p (iV a1)), (6, .p (iV (w64 ((a0.length : Int) - 1)))), (7, .ov false [.sl (some 3) (x7.1.map eI)]), (8, .p (iV x7.2)), (9, .p (iV 0)), (10, .p (iV 1))] [] trivial) ?_
       refine k_block ?_
       obtain ⟨y19, hl_x18, hk_x18⟩ := bs h
       clear h
       refine k_loop (J := fun (x : Qr) => [(0, .d false [.sl none (a0.map eI)]), (1, .p (iV a1)), (6, .p (iV (w64 ((a0.length : Int) - 1)))), (7, .ov false [.sl (some 3) (x7.1.map eI)]), (8, .p (iV x7.2)), (9, .p (iV x.1)), (10, .p (iV x.2))]) hl_x18 (wk_of (by kernel_rfl) (by kernel_rfl)) (fun x18 o_x18 h hy_x18 => ?_)
       unfold spec_PowerSums_b2 at h
       refine k_seq ?_
       refine k_sreg (l1 := [(0, .d false [.sl none (a0.map eI)]), (1, .p (iV a1)), (6, .p (iV (w64 ((a0.length : Int) - 1)))), (7, .ov false [.sl (some 3) (x7.1.map eI)]), (8, .p (iV x7.2)), (9, .p (iV x18.1)), (10, .p (iV x18.2)), (44, .p (.bool ((decide (x18.2 < x7.2)) && (decide (x18.2 ≤ (w64 ((a0.length : Int) - 1)))))))]) ?_ ?_
       ·rcases ft (decide (x18.2 < x7.2)) with ha2 | ha2
        ·exact RegOk.of_eq (l2 := [(0, .d false [.sl none (a0.map eI)]), (1, .p (iV a1)), (6, .p (iV (w64 ((a0.length : Int) - 1)))), (7, .ov false [.sl (some 3) (x7.1.map eI)]), (8, .p (iV x7.2)), (9, .p (iV x18.1)), (10, .p (iV x18.2)), (44, .p (.bool ((decide (x18.2 < x7.2)) && (decide (x18.2 ≤ (w64 ((a0.length : Int) - 1)))))))]) (r_gq [(0, .d false [.sl none (a0.map eI)]), (1, .p (iV a1)), (6, .p (iV (w64 ((a0.length : Int) - 1)))), (7, .ov false [.sl (some 3) (x7.1.map eI)]), (8, .p (iV x7.2)), (9, .p (iV x18.1)), (10, .p (iV x18.2)), (44, .p (.bool (decide (x18.2 ≤ (w64 ((a0.length : Int) - 1))))))] [(4, gT), (5, gT), (6, gT), (7, bT)] (A4 ha2 ha2 ha2 ha2)) (by simp [ha2])
        ·exact RegOk.of_eq (l2 := [(0, .d false [.sl none (a0.map eI)]), (1, .p (iV a1)), (6, .p (iV (w64 ((a0.length : Int) - 1)))), (7, .ov false [.sl (some 3) (x7.1.map eI)]), (8, .p (iV x7.2)), (9, .p (iV x18.1)), (10, .p (iV x18.2)), (44, .p (.bool ((decide (x18.2 < x7.2)) && (decide (x18.2 ≤ (w64 ((a0.length : Int) - 1)))))))]) (r_gq [(0, .d false [.sl none (a0.map eI)]), (1, .p (iV a1)), (6, .p (iV (w64 ((a0.length : Int) - 1)))), (7, .ov false [.sl (some 3) (x7.1.map eI)]), (8, .p (iV x7.2)), (9, .p (iV x18.1)), (10, .p (iV x18.2)), (44, .p (.bool false))] [(4, gF), (5, gF), (6, gF), (7, bF)] (A4 ha2 ha2 ha2 ha2)) (by simp [ha2])
       ·refine kc ((decide (x18.2 < x7.2)) && (decide (x18.2 ≤ (w64 ((a0.length : Int) - 1))))) (fun hc10_19 => ?_) (fun hc10_19 => ?_)
        ·replace h := ite_t hc10_19 h
         refine k_skip ?_
         refine q_n ?_
         refine k_seq ?_
         refine k_block ?_
         replace h := bs h
         obtain ⟨v21, hv21, h⟩ := h
         replace h := bs h
         obtain ⟨v22, hv22, h⟩ := h
         refine k_reg (r_dq Try_mixed 15 [] [(0, .d false [.sl none (a0.map eI)]), (1, .p (iV a1)), (6, .p (iV (w64 ((a0.length : Int) - 1)))), (7, .ov false [.sl (some 3) (x7.1.map eI)]), (8, .p (iV x7.2)), (9, .p (iV (w64 (x18.1 - (w64 (v21 * v22)))))), (10, .p (iV x18.2))] [(5, {row := some (eI v21)}), (12, {row := some (eI v22)}), (13, {row := some (eI v22)})] (A5 (yba hv21).1 (map_get eI (yba hv21).2) (yba hv22).1 (map_get eI (yba hv22).2) (show getRow [[.sl (some 3) (x7.1.map eI)]] [(0, 0), ((Int.toNat (w64 ((w64 (x7.2 - 1)) - x18.2))), 0)] = some (eI v22) from ((gr0 rfl).trans (gre (map_get eI (yba hv22).2)))))) ?_
         refine b_n ?_
         refine q_n ?_
         refine k_reg (r_gq [(0, .d false [.sl none (a0.map eI)]), (1, .p (iV a1)), (6, .p (iV (w64 ((a0.length : Int) - 1)))), (7, .ov false [.sl (some 3) (x7.1.map eI)]), (8, .p (iV x7.2)), (9, .p (iV (w64 (x18.1 - (w64 (v21 * v22)))))), (10, .p (iV (w64 (x18.2 + 1))))] [] trivial) ?_
         exact lqn ((w64 (x18.1 - (w64 (v21 * v22)))), (w64 (x18.2 + 1))) h
        ·replace h := ite_f hc10_19 h
         refine k_exit ?_
         refine q_x ?_
         refine lq_x ?_
         refine b_x ?_
         have hyy := hy_x18 _ (oi h).symm
         subst hyy
         have h := hk_x18
         refine q_n ?_
         exact jx x18.1 h
    ·replace h := ite_f hc5_8 h
     refine k_exit ?_
     refine q_x ?_
     refine lq_x ?_
     refine b_x ?_
     have hyy := hy_x7 _ (oi h).symm
     subst hyy
     have h := hk_x7
     dsimp only [Sum.elim] at h
     refine q_n ?_
     exact jx x7.1 h
theorem wk_impl_isWalk {a0 : (List (List Int))} {a1 : Int}  {r : Bool} (h : impl_isWalk a0 a1 = some r) : Meets Try.prog 79 [.d false [.sl none (a0.map (eF eI))], wI a1] { vals := [.p (.bool r)] } := by
 refine mo Try.func79 [(0, .d false [.sl none (a0.map (eF eI))]), (1, .p (iV a1))] ?_
 unfold impl_isWalk at h
 refine k_sreg (r_gq [(0, .d false [.sl none (a0.map (eF eI))]), (1, .p (iV a1))] [] trivial) ?_
 replace h := bs h
 obtain ⟨v1, hv1, h⟩ := h
 replace h := bs h
 obtain ⟨w3, hw3, h⟩ := h
 refine k_sreg (l1 := [(4, .p (.bool w3))]) ?_ ?_
 ·clear h
  rcases ft v1 with ha0 | ha0
  ·replace hw3 := ite_t ha0 hw3
   replace hw3 := bs hw3
   obtain ⟨v2, hv2, hw3⟩ := hw3
   have hw3 := oi hw3
   subst hw3
   exact (r_gq [(4, .p (.bool v2))] [(1, {call := some (none, [.p (.bool v1)], true)}), (3, gT), (4, {g := some true, call := some (none, [.p (.bool v2)], true)}), (5, bT)] (A5 (wk_impl_isGraph hv1) ha0 ha0 (wk_impl_within hv2) ha0))
  ·replace hw3 := ite_f ha0 hw3
   have hw3 := oi hw3
   subst hw3
   exact (r_gq [(4, .p (.bool false))] [(1, {call := some (none, [.p (.bool v1)], true)}), (3, gF), (4, gF), (5, bF)] (A4 (wk_impl_isGraph hv1) ha0 ha0 ha0))
 ·refine k_ret ?_
  obtain rfl := oi h
  exact er [(.p (.bool w3), 4)]
theorem wk_impl_ClosedWalks {a0 : (List (List Int))} {a1 : Int}  {r : (Int × Bool)} (h : impl_ClosedWalks a0 a1 = some r) : Meets Try.prog 19 [.d false [.sl none (a0.map (eF eI))], wI a1] { vals := [.p (iV r.1), .p (.bool r.2)] } := by
 refine mo Try.func19 [(0, .d false [.sl none (a0.map (eF eI))]), (1, .p (iV a1))] ?_
 unfold impl_ClosedWalks at h
 refine k_sreg (r_gq [(0, .d false [.sl none (a0.map (eF eI))]), (1, .p (iV a1))] [] trivial) ?_
 refine k_seq ?_
 replace h := bs h
 obtain ⟨v1, hv1, h⟩ := h
 refine k_sreg (r_gq [(0, .d false [.sl none (a0.map (eF eI))]), (1, .p (iV a1)), (9, .p (.bool (!v1)))] [(2, {call := some (none, [.p (.bool v1)], true)})] (A1 (wk_impl_isWalk hv1))) ?_
 refine kc (!v1) (fun hc2_1 => ?_) (fun hc2_1 => ?_)
 ·replace h := ite_t hc2_1 h
  refine k_sreg (r_gq [(4, .p (iV 0)), (5, .p (.bool false))] [] trivial) ?_
  refine k_ret ?_
  refine q_r ?_
  obtain rfl := oi h
  exact er [(.p (iV 0), 4), (.p (.bool false), 5)]
 ·replace h := ite_f hc2_1 h
  refine k_skip ?_
  refine q_n ?_
  replace h := bs h
  obtain ⟨v3, hv3, h⟩ := h
  refine k_sreg (r_gq [(4, .p (iV v3.1)), (5, .p (.bool v3.2))] [(2, {call := some (none, [.p (iV v3.1), .p (.bool v3.2)], true)})] (A1 (wk_impl_closedWalks hv3))) ?_
  refine k_ret ?_
  obtain rfl := oi h
  exact er [(.p (iV v3.1), 4), (.p (.bool v3.2), 5)]
theorem wk_spec_grSteps {a0 : Int}  {r : Bool} (h : spec_grSteps a0 = some r) : Meets Try.prog 80 [wI a0] { vals := [.p (.bool r)] } := by
 refine mo Try.func80 [(0, .p (iV a0))] ?_
 unfold spec_grSteps at h
 refine k_sreg (r_gq [(0, .p (iV a0))] [] trivial) ?_
 replace h := bs h
 obtain ⟨v1, hv1, h⟩ := h
 refine k_sreg (r_gq [(2, .p (.bool v1))] [(1, {call := some (none, [.p (.bool v1)], true)})] (A1 (wk_spec_l1In hv1))) ?_
 refine k_ret ?_
 obtain rfl := oi h
 exact er [(.p (.bool v1), 2)]
theorem wk_spec_l1Least {a0 : Int} {a1 : Int}  {r : Int} (h : spec_l1Least a0 a1 = some r) : Meets Try.prog 154 [wI a0, wI a1] { vals := [.p (iV r)] } := by
 refine mo Try.func154 [(0, .p (iV a0)), (1, .p (iV a1))] ?_
 unfold spec_l1Least at h
 refine k_sreg (r_gq [(0, .p (iV a0)), (1, .p (iV a1))] [] trivial) ?_
 refine k_seq ?_
 refine k_sreg (r_gq [(0, .p (iV a0)), (1, .p (iV a1)), (7, .p (.bool (decide (a0 < a1))))] [] trivial) ?_
 refine kc (decide (a0 < a1)) (fun hc2_0 => ?_) (fun hc2_0 => ?_)
 ·replace h := ite_t hc2_0 h
  refine k_sreg (r_gq [(4, .p (iV a0))] [] trivial) ?_
  refine k_ret ?_
  refine q_r ?_
  obtain rfl := oi h
  exact er [(.p (iV a0), 4)]
 ·replace h := ite_f hc2_0 h
  refine k_skip ?_
  refine q_n ?_
  refine k_sreg (r_gq [(4, .p (iV a1))] [] trivial) ?_
  refine k_ret ?_
  obtain rfl := oi h
  exact er [(.p (iV a1), 4)]
theorem wk_spec_grCap {a0 : Int}  {r : Int} (h : spec_grCap a0 = some r) : Meets Try.prog 131 [wI a0] { vals := [.p (iV r)] } := by
 refine mo Try.func131 [(0, .p (iV a0))] ?_
 unfold spec_grCap at h
 refine k_sreg (r_gq [(0, .p (iV a0))] [] trivial) ?_
 replace h := bs h
 obtain ⟨v1, hv1, h⟩ := h
 refine k_sreg (r_gq [(2, .p (iV v1))] [(1, {call := some (none, [.p (iV v1)], true)})] (A1 (wk_spec_l1Least hv1))) ?_
 refine k_ret ?_
 obtain rfl := oi h
 exact er [(.p (iV v1), 2)]
theorem wk_spec_grPower {a0 : (List (List Int))} {a1 : Int}  {r : (List (List Int))} (h : spec_grPower a0 a1 = some r) : Meets Try.prog 130 [.d false [.sl none (a0.map (eF eI))], wI a1] { vals := [.ov false [.sl (some 26) (r.map (eO 3 eI))]] } := by
 refine mo Try.func130 [(0, .d false [.sl none (a0.map (eF eI))]), (1, .p (iV a1))] ?_
 unfold spec_grPower at h
 refine k_sreg (r_gq [(0, .d false [.sl none (a0.map (eF eI))]), (1, .p (iV a1))] [] trivial) ?_
 refine k_sreg (r_gq [(0, .d false [.sl none (a0.map (eF eI))]), (1, .p (iV a1)), (5, .ov false [.sl (some 26) []])] [] trivial) ?_
 refine k_join (J := fun (x : (List (List Int))) => [(0, .d false [.sl none (a0.map (eF eI))]), (1, .p (iV a1)), (5, .ov false [.sl (some 26) (x.map (eO 3 eI))])]) (K := fun x => spec_grPower_k1 a0 a1 x = some r) (fun x1 h => ?_) ?_
 ·unfold spec_grPower_k1 at h
  refine k_join (J := fun (x : (List (List Int))) => [(5, .ov false [.sl (some 26) (x.map (eO 3 eI))])]) (K := fun x => spec_grPower_k2 x = some r) (fun x2 h => ?_) ?_
  ·unfold spec_grPower_k2 at h
   refine k_sreg (r_gq [(4, .ov false [.sl (some 26) (x2.map (eO 3 eI))])] [] trivial) ?_
   refine k_ret ?_
   obtain rfl := oi h
   exact er [(.ov false [.sl (some 26) (x2.map (eO 3 eI))], 4)]
  ·refine k_block ?_
   obtain ⟨y4, hl_x3, hk_x3⟩ := bs h
   clear h
   refine k_loop (J := fun (x : (Int × (List (List Int)))) => [(0, .d false [.sl none (a0.map (eF eI))]), (1, .p (iV x.1)), (5, .ov false [.sl (some 26) (x.2.map (eO 3 eI))])]) hl_x3 (wk_of (by kernel_rfl) (by kernel_rfl)) (fun x3 o_x3 h hy_x3 => ?_)
   unfold spec_grPower_b1 at h
   refine k_seq ?_
   refine k_sreg (r_gq [(0, .d false [.sl none (a0.map (eF eI))]), (1, .p (iV x3.1)), (5, .ov false [.sl (some 26) (x3.2.map (eO 3 eI))]), (31, .p (.bool (decide (x3.1 > 0))))] [] trivial) ?_
   refine kc (decide (x3.1 > 0)) (fun hc5_4 => ?_) (fun hc5_4 => ?_)
   ·replace h := ite_t hc5_4 h
    refine k_skip ?_
    refine q_n ?_
    refine k_join (J := fun (x : (List (List Int))) => [(0, .d false [.sl none (a0.map (eF eI))]), (1, .p (iV x3.1)), (5, .ov false [.sl (some 26) (x.map (eO 3 eI))])]) (K := fun x => spec_grPower_k3 x3 x = some o_x3) (fun x6 h => ?_) ?_
    ·unfold spec_grPower_k3 at h
     refine k_reg (r_gq [(0, .d false [.sl none (a0.map (eF eI))]), (1, .p (iV (w64 (x3.1 - 1)))), (5, .ov false [.sl (some 26) (x6.map (eO 3 eI))])] [] trivial) ?_
     exact lqn ((w64 (x3.1 - 1)), x6) h
    ·refine k_block ?_
     refine k_sreg (r_gq [(0, .d false [.sl none (a0.map (eF eI))]), (1, .p (iV x3.1)), (5, .ov false [.sl (some 26) (x3.2.map (eO 3 eI))]), (7, .ov false [.sl (some 26) []])] [] trivial) ?_
     refine k_join (J := fun (x : (List (List Int))) => [(0, .d false [.sl none (a0.map (eF eI))]), (1, .p (iV x3.1)), (7, .ov false [.sl (some 26) (x.map (eO 3 eI))])]) (K := fun x => spec_grPower_k4 x3 x = some o_x3) (fun x7 h => ?_) ?_
     ·unfold spec_grPower_k4 at h
      refine k_reg (r_gq [(0, .d false [.sl none (a0.map (eF eI))]), (1, .p (iV x3.1)), (5, .ov false [.sl (some 26) (x7.map (eO 3 eI))])] [] trivial) ?_
      refine b_n ?_
      refine q_n ?_
      exact jx x7 h
     ·refine k_sreg (r_gq [(0, .d false [.sl none (a0.map (eF eI))]), (1, .p (iV x3.1)), (5, .ov false [.sl (some 26) (x3.2.map (eO 3 eI))]), (7, .ov false [.sl (some 26) []]), (35, .p (iV (a0.length : Int))), (36, .p (iV 0))] [(1, {n := some a0.length})] (A1 (show (a0.map (eF eI)).length = a0.length from (List.length_map ..)))) ?_
      refine k_block ?_
      obtain ⟨y9, hl_x8, hk_x8⟩ := bs h
      clear h
      refine k_loop (J := fun (x : ((List (List Int)) × Int)) => [(0, .d false [.sl none (a0.map (eF eI))]), (1, .p (iV x3.1)), (5, .ov false [.sl (some 26) (x3.2.map (eO 3 eI))]), (7, .ov false [.sl (some 26) (x.1.map (eO 3 eI))]), (35, .p (iV (a0.length : Int))), (36, .p (iV x.2))]) hl_x8 (wk_of (by kernel_rfl) (by kernel_rfl)) (fun x8 o_x8 h hy_x8 => ?_)
      unfold spec_grPower_b2 at h
      refine k_sreg (r_gq [(0, .d false [.sl none (a0.map (eF eI))]), (1, .p (iV x3.1)), (5, .ov false [.sl (some 26) (x3.2.map (eO 3 eI))]), (7, .ov false [.sl (some 26) (x8.1.map (eO 3 eI))]), (35, .p (iV (a0.length : Int))), (36, .p (iV x8.2)), (37, .p (.bool (decide (x8.2 < (a0.length : Int)))))] [] trivial) ?_
      refine k_seq ?_
      refine kc (decide (x8.2 < (a0.length : Int))) (fun hc10_9 => ?_) (fun hc10_9 => ?_)
      ·replace h := ite_t hc10_9 h
       refine k_skip ?_
       refine q_n ?_
       refine k_join (J := fun (x : (List (List Int))) => [(0, .d false [.sl none (a0.map (eF eI))]), (1, .p (iV x3.1)), (5, .ov false [.sl (some 26) (x3.2.map (eO 3 eI))]), (7, .ov false [.sl (some 26) (x.map (eO 3 eI))]), (35, .p (iV (a0.length : Int))), (36, .p (iV x8.2))]) (K := fun x => spec_grPower_k5 x8 x = some o_x8) (fun x11 h => ?_) ?_
       ·unfold spec_grPower_k5 at h
        refine k_reg (r_gq [(0, .d false [.sl none (a0.map (eF eI))]), (1, .p (iV x3.1)), (5, .ov false [.sl (some 26) (x3.2.map (eO 3 eI))]), (7, .ov false [.sl (some 26) (x11.map (eO 3 eI))]), (35, .p (iV (a0.length : Int))), (36, .p (iV (w64 (x8.2 + 1))))] [] trivial) ?_
        exact lqn (x11, (w64 (x8.2 + 1))) h
       ·refine k_block ?_
        refine k_sreg (r_gq [(0, .d false [.sl none (a0.map (eF eI))]), (1, .p (iV x3.1)), (5, .ov false [.sl (some 26) (x3.2.map (eO 3 eI))]), (7, .ov false [.sl (some 26) (x8.1.map (eO 3 eI))]), (8, .p (iV x8.2)), (35, .p (iV (a0.length : Int))), (36, .p (iV x8.2))] [] trivial) ?_
        replace h := bs h
        obtain ⟨u12, hu12, h⟩ := h
        refine k_sreg (r_gq [(0, .d false [.sl none (a0.map (eF eI))]), (1, .p (iV x3.1)), (5, .ov false [.sl (some 26) (x3.2.map (eO 3 eI))]), (7, .ov false [.sl (some 26) (x8.1.map (eO 3 eI))]), (8, .p (iV x8.2)), (9, .ov false [.sl (some 3) ((List.replicate (Int.toNat (a0.length : Int)) (0 : Int)).map eI)]), (35, .p (iV (a0.length : Int))), (36, .p (iV x8.2))] [(1, {n := some a0.length}), (2, {fix := some (41, .ov false [.sl (some 3) ((List.replicate (Int.toNat (a0.length : Int)) (0 : Int)).map eI)])})] (A5 (show (a0.map (eF eI)).length = a0.length from (List.length_map ..)) (show (a0.length : Int) = (a0.length : Int) from rfl) (yca hu12).1 (yca hu12).2 (show (SV.ov false [.sl (some 3) (List.replicate (Int.toNat (a0.length : Int)) [rI 0])] : SV) = .ov false [.sl (some 3) ((List.replicate (Int.toNat (a0.length : Int)) (0 : Int)).map eI)] from (congrArg (fun z => SV.ov false [.sl (some 3) z]) (rep_fix eI (0 : Int)))))) ?_
        refine k_join (J := fun (x : (List Int)) => [(0, .d false [.sl none (a0.map (eF eI))]), (1, .p (iV x3.1)), (5, .ov false [.sl (some 26) (x3.2.map (eO 3 eI))]), (7, .ov false [.sl (some 26) (x8.1.map (eO 3 eI))]), (9, .ov false [.sl (some 3) (x.map eI)]), (35, .p (iV (a0.length : Int))), (36, .p (iV x8.2))]) (K := fun x => spec_grPower_k6 x8 x = some o_x8) (fun x13 h => ?_) ?_
        ·unfold spec_grPower_k6 at h
         replace h := bs h
         obtain ⟨u14, hu14, h⟩ := h
         refine k_reg (r_gq [(0, .d false [.sl none (a0.map (eF eI))]), (1, .p (iV x3.1)), (5, .ov false [.sl (some 26) (x3.2.map (eO 3 eI))]), (7, .ov false [.sl (some 26) ((x8.1 ++ [x13]).map (eO 3 eI))]), (35, .p (iV (a0.length : Int))), (36, .p (iV x8.2))] [(3, {fix := some (81, .ov false [.sl (some 26) ((x8.1 ++ [x13]).map (eO 3 eI))])})] (A3 (show List.length ((x8.1.map (eO 3 eI)) : List (List C)) + List.length ((([x13]).map (eO 3 eI)) : List (List C)) ≤ 1099511627776 from (by have hg := (yca hu14); simpa using hg)) (show ∀ row ∈ ((([x13]).map (eO 3 eI)) : List (List C)), row.length = 1 from (yua fun _ => rfl)) (show (SV.ov false [.sl (some 26) ((x8.1.map (eO 3 eI)) ++ (([x13]).map (eO 3 eI)))] : SV) = .ov false [.sl (some 26) ((x8.1 ++ [x13]).map (eO 3 eI))] from (congrArg (fun z => SV.ov false [.sl (some 26) z]) (List.map_append ..).symm)))) ?_
         refine b_n ?_
         refine q_n ?_
         exact jx (x8.1 ++ [x13]) h
        ·refine k_sreg (r_gq [(0, .d false [.sl none (a0.map (eF eI))]), (1, .p (iV x3.1)), (5, .ov false [.sl (some 26) (x3.2.map (eO 3 eI))]), (7, .ov false [.sl (some 26) (x8.1.map (eO 3 eI))]), (8, .p (iV x8.2)), (9, .ov false [.sl (some 3) ((List.replicate (Int.toNat (a0.length : Int)) (0 : Int)).map eI)]), (35, .p (iV (a0.length : Int))), (36, .p (iV x8.2)), (43, .p (iV (a0.length : Int))), (44, .p (iV 0))] [(1, {n := some a0.length})] (A1 (show (a0.map (eF eI)).length = a0.length from (List.length_map ..)))) ?_
         refine k_block ?_
         obtain ⟨y16, hl_x15, hk_x15⟩ := bs h
         clear h
         refine k_loop (J := fun (x : ((List Int) × Int)) => [(0, .d false [.sl none (a0.map (eF eI))]), (1, .p (iV x3.1)), (5, .ov false [.sl (some 26) (x3.2.map (eO 3 eI))]), (7, .ov false [.sl (some 26) (x8.1.map (eO 3 eI))]), (8, .p (iV x8.2)), (9, .ov false [.sl (some 3) (x.1.map eI)]), (35, .p (iV (a0.length : Int))), (36, .p (iV x8.2)), (43, .p (iV (a0.length : Int))), (44, .p (iV x.2))]) hl_x15 (wk_of (by kernel_rfl) (by kernel_rfl)) (fun x15 o_x15 h hy_x15 => ?_)
         unfold spec_grPower_b3 at h
         refine k_sreg (r_gq [(0, .d false [.sl none (a0.map (eF eI))]), (1, .p (iV x3.1)), (5, .ov false [.sl (some 26) (x3.2.map (eO 3 eI))]), (7, .ov false [.sl (some 26) (x8.1.map (eO 3 eI))]), (8, .p (iV x8.2)), (9, .ov false [.sl (some 3) (x15.1.map eI)]), (35, .p (iV (a0.length : Int))), (36, .p (iV x8.2)), (43, .p (iV (a0.length : Int))), (44, .p (iV x15.2)), (45, .p (.bool (decide (x15.2 < (a0.length : Int)))))] [] trivial) ?_
         refine k_seq ?_
         refine kc (decide (x15.2 < (a0.length : Int))) (fun hc15_16 => ?_) (fun hc15_16 => ?_)
         ·replace h := ite_t hc15_16 h
          refine k_skip ?_
          refine q_n ?_
          refine k_join (J := fun (x : (List Int)) => [(0, .d false [.sl none (a0.map (eF eI))]), (1, .p (iV x3.1)), (5, .ov false [.sl (some 26) (x3.2.map (eO 3 eI))]), (7, .ov false [.sl (some 26) (x8.1.map (eO 3 eI))]), (8, .p (iV x8.2)), (9, .ov false [.sl (some 3) (x.map eI)]), (35, .p (iV (a0.length : Int))), (36, .p (iV x8.2)), (43, .p (iV (a0.length : Int))), (44, .p (iV x15.2))]) (K := fun x => spec_grPower_k7 x15 x = some o_x15) (fun x18 h => ?_) ?_
          ·unfold spec_grPower_k7 at h
           refine k_reg (r_gq [(0, .d false [.sl none (a0.map (eF eI))]), (1, .p (iV x3.1)), (5, .ov false [.sl (some 26) (x3.2.map (eO 3 eI))]), (7, .ov false [.sl (some 26) (x8.1.map (eO 3 eI))]), (8, .p (iV x8.2)), (9, .ov false [.sl (some 3) (x18.map eI)]), (35, .p (iV (a0.length : Int))), (36, .p (iV x8.2)), (43, .p (iV (a0.length : Int))), (44, .p (iV (w64 (x15.2 + 1))))] [] trivial) ?_
           exact lqn (x18, (w64 (x15.2 + 1))) h
          ·refine k_block ?_
           refine k_sreg (r_gq [(0, .d false [.sl none (a0.map (eF eI))]), (1, .p (iV x3.1)), (5, .ov false [.sl (some 26) (x3.2.map (eO 3 eI))]), (7, .ov false [.sl (some 26) (x8.1.map (eO 3 eI))]), (8, .p (iV x8.2)), (9, .ov false [.sl (some 3) (x15.1.map eI)]), (10, .p (iV x15.2)), (35, .p (iV (a0.length : Int))), (36, .p (iV x8.2)), (43, .p (iV (a0.length : Int))), (44, .p (iV x15.2))] [] trivial) ?_
           refine k_sreg (r_gq [(0, .d false [.sl none (a0.map (eF eI))]), (1, .p (iV x3.1)), (5, .ov false [.sl (some 26) (x3.2.map (eO 3 eI))]), (7, .ov false [.sl (some 26) (x8.1.map (eO 3 eI))]), (8, .p (iV x8.2)), (9, .ov false [.sl (some 3) (x15.1.map eI)]), (10, .p (iV x15.2)), (35, .p (iV (a0.length : Int))), (36, .p (iV x8.2)), (43, .p (iV (a0.length : Int))), (44, .p (iV x15.2)), (48, .p (iV (a0.length : Int))), (49, .p (iV 0))] [(1, {n := some a0.length})] (A1 (show (a0.map (eF eI)).length = a0.length from (List.length_map ..)))) ?_
           refine k_block ?_
           obtain ⟨y20, hl_x19, hk_x19⟩ := bs h
           clear h
           refine k_loop (J := fun (x : ((List Int) × Int)) => [(0, .d false [.sl none (a0.map (eF eI))]), (1, .p (iV x3.1)), (5, .ov false [.sl (some 26) (x3.2.map (eO 3 eI))]), (7, .ov false [.sl (some 26) (x8.1.map (eO 3 eI))]), (8, .p (iV x8.2)), (9, .ov false [.sl (some 3) (x.1.map eI)]), (10, .p (iV x15.2)), (35, .p (iV (a0.length : Int))), (36, .p (iV x8.2)), (43, .p (iV (a0.length : Int))), (44, .p (iV x15.2)), (48, .p (iV (a0.length : Int))), (49, .p (iV x.2))]) hl_x19 (wk_of (by kernel_rfl) (by kernel_rfl)) (fun x19 o_x19 h hy_x19 => ?_)
           unfold spec_grPower_b4 at h
           refine k_sreg (r_gq [(0, .d false [.sl none (a0.map (eF eI))]), (1, .p (iV x3.1)), (5, .ov false [.sl (some 26) (x3.2.map (eO 3 eI))]), (7, .ov false [.sl (some 26) (x8.1.map (eO 3 eI))]), (8, .p (iV x8.2)), (9, .ov false [.sl (some 3) (x19.1.map eI)]), (10, .p (iV x15.2)), (35, .p (iV (a0.length : Int))), (36, .p (iV x8.2)), (43, .p (iV (a0.length : Int))), (44, .p (iV x15.2)), (48, .p (iV (a0.length : Int))), (49, .p (iV x19.2)), (50, .p (.bool (decide (x19.2 < (a0.length : Int)))))] [] trivial) ?_
           refine k_seq ?_
           refine kc (decide (x19.2 < (a0.length : Int))) (fun hc19_20 => ?_) (fun hc19_20 => ?_)
           ·replace h := ite_t hc19_20 h
            refine k_skip ?_
            refine q_n ?_
            refine k_seq ?_
            refine k_block ?_
            refine k_sreg (r_gq [(0, .d false [.sl none (a0.map (eF eI))]), (1, .p (iV x3.1)), (5, .ov false [.sl (some 26) (x3.2.map (eO 3 eI))]), (7, .ov false [.sl (some 26) (x8.1.map (eO 3 eI))]), (8, .p (iV x8.2)), (9, .ov false [.sl (some 3) (x19.1.map eI)]), (10, .p (iV x15.2)), (11, .p (iV x19.2)), (35, .p (iV (a0.length : Int))), (36, .p (iV x8.2)), (43, .p (iV (a0.length : Int))), (44, .p (iV x15.2)), (48, .p (iV (a0.length : Int))), (49, .p (iV x19.2))] [] trivial) ?_
            replace h := bs h
            obtain ⟨v22, hv22, h⟩ := h
            replace h := bs h
            obtain ⟨v23, hv23, h⟩ := h
            replace h := bs h
            obtain ⟨v24, hv24, h⟩ := h
            replace h := bs h
            obtain ⟨v25, hv25, h⟩ := h
            replace h := bs h
            obtain ⟨v26, hv26, h⟩ := h
            replace h := bs h
            obtain ⟨v27, hv27, h⟩ := h
            refine k_reg (r_dq Try_mixed 23 [] [(0, .d false [.sl none (a0.map (eF eI))]), (1, .p (iV x3.1)), (5, .ov false [.sl (some 26) (x3.2.map (eO 3 eI))]), (7, .ov false [.sl (some 26) (x8.1.map (eO 3 eI))]), (8, .p (iV x8.2)), (9, .ov false [.sl (some 3) ((x19.1.set (Int.toNat x15.2) v27).map eI)]), (10, .p (iV x15.2)), (35, .p (iV (a0.length : Int))), (36, .p (iV x8.2)), (43, .p (iV (a0.length : Int))), (44, .p (iV x15.2)), (48, .p (iV (a0.length : Int))), (49, .p (iV x19.2))] [(4, {row := some (eI v22)}), (5, {row := some (eI v22)}), (8, {row := some [.sl (some 3) (v23.map eI)]}), (9, {row := some [.sl (some 3) (v23.map eI)]}), (11, {deep := some [.sl (some 3) (v23.map eI)], row := some (eI v24)}), (12, {row := some (eI v24)}), (15, {row := some [.sl none (v25.map eI)]}), (18, {row := some (eI v26)}), (22, {call := some (none, [.p (iV v27)], true)}), (23, {row := some (eI v22)}), (24, {row := some (eI v22), fix := some (9, .ov false [.sl (some 3) ((x19.1.set (Int.toNat x15.2) v27).map eI)])})] (B6 (yba hv22).1 (map_get eI (yba hv22).2) (show getRow [[.sl (some 3) (x19.1.map eI)]] [(0, 0), ((Int.toNat x15.2), 0)] = some (eI v22) from ((gr0 rfl).trans (gre (map_get eI (yba hv22).2)))) (yba hv23).1 (map_get (eO 3 eI) (yba hv23).2) (show frR [.sl (some 3) (v23.map eI)] = false from rfl) (B6 (show getRow [[.sl (some 26) (x3.2.map (eO 3 eI))]] [(0, 0), ((Int.toNat x8.2), 0)] = some [.sl (some 3) (v23.map eI)] from ((gr0 rfl).trans (gre (map_get (eO 3 eI) (yba hv23).2)))) (yba hv24).1 (map_get eI (yba hv24).2) (show getRow [[.sl (some 26) (x3.2.map (eO 3 eI))]] [(0, 0), ((Int.toNat x8.2), 0)] = some [.sl (some 3) (v23.map eI)] from ((gr0 rfl).trans (gre (map_get (eO 3 eI) (yba hv23).2)))) (show getRow [[.sl (some 26) (x3.2.map (eO 3 eI))]] [(0, 0), ((Int.toNat x8.2), 0), ((Int.toNat x19.2), 0)] = some (eI v24) from ((gr0 rfl).trans ((grs (map_get (eO 3 eI) (yba hv23).2) rfl).trans (gre (map_get eI (yba hv24).2))))) (yba hv25).1 (B6 (map_get (eF eI) (yba hv25).2) (yba hv26).1 (map_get eI (yba hv26).2) (wk_spec_grCap hv27) (yba hv22).1 (map_get eI (yba hv22).2) (A2 (show getRow [[.sl (some 3) (x19.1.map eI)]] [(0, 0), ((Int.toNat x15.2), 0)] = some (eI v22) from ((gr0 rfl).trans (gre (map_get eI (yba hv22).2)))) (show (SV.ov false [.sl (some 3) (setL (x19.1.map eI) [((Int.toNat x15.2), 0)] (eI v27))] : SV) = .ov false [.sl (some 3) ((x19.1.set (Int.toNat x15.2) v27).map eI)] from (congrArg (fun z => SV.ov false [.sl (some 3) z]) (set1 (f := eI) (y := v27) (yba hv22).2 rfl)))))))) ?_
            refine b_n ?_
            refine q_n ?_
            refine k_reg (r_gq [(0, .d false [.sl none (a0.map (eF eI))]), (1, .p (iV x3.1)), (5, .ov false [.sl (some 26) (x3.2.map (eO 3 eI))]), (7, .ov false [.sl (some 26) (x8.1.map (eO 3 eI))]), (8, .p (iV x8.2)), (9, .ov false [.sl (some 3) ((x19.1.set (Int.toNat x15.2) v27).map eI)]), (10, .p (iV x15.2)), (35, .p (iV (a0.length : Int))), (36, .p (iV x8.2)), (43, .p (iV (a0.length : Int))), (44, .p (iV x15.2)), (48, .p (iV (a0.length : Int))), (49, .p (iV (w64 (x19.2 + 1))))] [] trivial) ?_
            exact lqn ((x19.1.set (Int.toNat x15.2) v27), (w64 (x19.2 + 1))) h
           ·replace h := ite_f hc19_20 h
            refine k_exit ?_
            refine q_x ?_
            refine lq_x ?_
            refine b_x ?_
            refine b_n ?_
            have hyy := hy_x19 _ (oi h).symm
            subst hyy
            have h := hk_x19
            refine q_n ?_
            exact jx x19.1 h
         ·replace h := ite_f hc15_16 h
          refine k_exit ?_
          refine q_x ?_
          refine lq_x ?_
          refine b_x ?_
          have hyy := hy_x15 _ (oi h).symm
          subst hyy
          have h := hk_x15
          refine q_n ?_
          exact jx x15.1 h
      ·replace h := ite_f hc10_9 h
       refine k_exit ?_
       refine q_x ?_
       refine lq_x ?_
       refine b_x ?_
       have hyy := hy_x8 _ (oi h).symm
       subst hyy
       have h := hk_x8
       refine q_n ?_
       exact jx x8.1 h
   ·replace h := ite_f hc5_4 h
    refine k_exit ?_
    refine q_x ?_
    refine lq_x ?_
    refine b_x ?_
    have hyy := hy_x3 _ (oi h).symm
    subst hyy
    have h := hk_x3
    refine q_n ?_
    exact jx x3.2 h
 ·refine k_sreg (r_gq [(0, .d false [.sl none (a0.map (eF eI))]), (1, .p (iV a1)), (5, .ov false [.sl (some 26) []]), (13, .p (iV (a0.length : Int))), (14, .p (iV 0))] [(1, {n := some a0.length})] (A1 (show (a0.map (eF eI)).length = a0.length from (List.length_map ..)))) ?_
  refine k_block ?_
  obtain ⟨y29, hl_x28, hk_x28⟩ := bs h
  clear h
  refine k_loop (J := fun (x : ((List (List Int)) × Int)) => [(0, .d false [.sl none (a0.map (eF eI))]), (1, .p (iV a1)), (5, .ov false [.sl (some 26) (x.1.map (eO 3 eI))]), (13, .p (iV (a0.length : Int))), (14, .p (iV x.2))]) hl_x28 (wk_of (by kernel_rfl) (by kernel_rfl)) (fun x28 o_x28 h hy_x28 => ?_)
  unfold spec_grPower_b5 at h
  refine k_sreg (r_gq [(0, .d false [.sl none (a0.map (eF eI))]), (1, .p (iV a1)), (5, .ov false [.sl (some 26) (x28.1.map (eO 3 eI))]), (13, .p (iV (a0.length : Int))), (14, .p (iV x28.2)), (15, .p (.bool (decide (x28.2 < (a0.length : Int)))))] [] trivial) ?_
  refine k_seq ?_
  refine kc (decide (x28.2 < (a0.length : Int))) (fun hc5_29 => ?_) (fun hc5_29 => ?_)
  ·replace h := ite_t hc5_29 h
   refine k_skip ?_
   refine q_n ?_
   refine k_seq ?_
   refine k_block ?_
   refine k_sreg (r_gq [(0, .d false [.sl none (a0.map (eF eI))]), (1, .p (iV a1)), (5, .ov false [.sl (some 26) (x28.1.map (eO 3 eI))]), (6, .p (iV x28.2)), (13, .p (iV (a0.length : Int))), (14, .p (iV x28.2))] [] trivial) ?_
   replace h := bs h
   obtain ⟨u31, hu31, h⟩ := h
   replace h := bs h
   obtain ⟨u32, hu32, h⟩ := h
   refine k_sreg (r_gq [(0, .d false [.sl none (a0.map (eF eI))]), (1, .p (iV a1)), (5, .ov false [.sl (some 26) ((x28.1 ++ [(List.replicate (Int.toNat (a0.length : Int)) (0 : Int))]).map (eO 3 eI))]), (6, .p (iV x28.2)), (13, .p (iV (a0.length : Int))), (14, .p (iV x28.2))] [(2, {n := some a0.length}), (3, {fix := some (20, .ov false [.sl (some 3) ((List.replicate (Int.toNat (a0.length : Int)) (0 : Int)).map eI)])}), (5, {fix := some (22, .ov false [.sl (some 26) ((x28.1 ++ [(List.replicate (Int.toNat (a0.length : Int)) (0 : Int))]).map (eO 3 eI))])})] (B6 (show (a0.map (eF eI)).length = a0.length from (List.length_map ..)) (show (a0.length : Int) = (a0.length : Int) from rfl) (yca hu31).1 (yca hu31).2 (show (SV.ov false [.sl (some 3) (List.replicate (Int.toNat (a0.length : Int)) [rI 0])] : SV) = .ov false [.sl (some 3) ((List.replicate (Int.toNat (a0.length : Int)) (0 : Int)).map eI)] from (congrArg (fun z => SV.ov false [.sl (some 3) z]) (rep_fix eI (0 : Int)))) (show List.length ((x28.1.map (eO 3 eI)) : List (List C)) + List.length ((([(List.replicate (Int.toNat (a0.length : Int)) (0 : Int))]).map (eO 3 eI)) : List (List C)) ≤ 1099511627776 from (by have hg := (yca hu32); simpa using hg)) (A2 (show ∀ row ∈ ((([(List.replicate (Int.toNat (a0.length : Int)) (0 : Int))]).map (eO 3 eI)) : List (List C)), row.length = 1 from (yua fun _ => rfl)) (show (SV.ov false [.sl (some 26) ((x28.1.map (eO 3 eI)) ++ (([(List.replicate (Int.toNat (a0.length : Int)) (0 : Int))]).map (eO 3 eI)))] : SV) = .ov false [.sl (some 26) ((x28.1 ++ [(List.replicate (Int.toNat (a0.length : Int)) (0 : Int))]).map (eO 3 eI))] from (congrArg (fun z => SV.ov false [.sl (some 26) z]) (List.map_append ..).symm))))) ?_
   replace h := bs h
   obtain ⟨v33, hv33, h⟩ := h
   replace h := bs h
   obtain ⟨v34, hv34, h⟩ := h
   refine k_reg (r_gq [(0, .d false [.sl none (a0.map (eF eI))]), (1, .p (iV a1)), (5, .ov false [.sl (some 26) (((x28.1 ++ [(List.replicate (Int.toNat (a0.length : Int)) (0 : Int))]).set (Int.toNat x28.2) (v33.set (Int.toNat x28.2) 1)).map (eO 3 eI))]), (13, .p (iV (a0.length : Int))), (14, .p (iV x28.2))] [(2, {row := some [.sl (some 3) (v33.map eI)]}), (3, {row := some [.sl (some 3) (v33.map eI)]}), (5, {deep := some [.sl (some 3) (v33.map eI)], row := some (eI v34)}), (6, {row := some (eI v34), fix := some (5, .ov false [.sl (some 26) (((x28.1 ++ [(List.replicate (Int.toNat (a0.length : Int)) (0 : Int))]).set (Int.toNat x28.2) (v33.set (Int.toNat x28.2) 1)).map (eO 3 eI))])})] (B6 (yba hv33).1 (map_get (eO 3 eI) (yba hv33).2) (show frR [.sl (some 3) (v33.map eI)] = false from rfl) (show getRow [[.sl (some 26) ((x28.1 ++ [(List.replicate (Int.toNat (a0.length : Int)) (0 : Int))]).map (eO 3 eI))]] [(0, 0), ((Int.toNat x28.2), 0)] = some [.sl (some 3) (v33.map eI)] from ((gr0 rfl).trans (gre (map_get (eO 3 eI) (yba hv33).2)))) (yba hv34).1 (map_get eI (yba hv34).2) (A3 (show getRow [[.sl (some 26) ((x28.1 ++ [(List.replicate (Int.toNat (a0.length : Int)) (0 : Int))]).map (eO 3 eI))]] [(0, 0), ((Int.toNat x28.2), 0)] = some [.sl (some 3) (v33.map eI)] from ((gr0 rfl).trans (gre (map_get (eO 3 eI) (yba hv33).2)))) (show getRow [[.sl (some 26) ((x28.1 ++ [(List.replicate (Int.toNat (a0.length : Int)) (0 : Int))]).map (eO 3 eI))]] [(0, 0), ((Int.toNat x28.2), 0), ((Int.toNat x28.2), 0)] = some (eI v34) from ((gr0 rfl).trans ((grs (map_get (eO 3 eI) (yba hv33).2) rfl).trans (gre (map_get eI (yba hv34).2))))) (show (SV.ov false [.sl (some 26) (setL ((x28.1 ++ [(List.replicate (Int.toNat (a0.length : Int)) (0 : Int))]).map (eO 3 eI)) [((Int.toNat x28.2), 0), ((Int.toNat x28.2), 0)] [rI 1])] : SV) = .ov false [.sl (some 26) (((x28.1 ++ [(List.replicate (Int.toNat (a0.length : Int)) (0 : Int))]).set (Int.toNat x28.2) (v33.set (Int.toNat x28.2) 1)).map (eO 3 eI))] from (congrArg (fun z => SV.ov false [.sl (some 26) z]) (set2 (f := (eO 3 eI)) (y := (v33.set (Int.toNat x28.2) 1)) (yba hv33).2 rfl (set1 (f := eI) (y := 1) (yba hv34).2 rfl) rfl)))))) ?_
   refine b_n ?_
   refine q_n ?_
   refine k_reg (r_gq [(0, .d false [.sl none (a0.map (eF eI))]), (1, .p (iV a1)), (5, .ov false [.sl (some 26) (((x28.1 ++ [(List.replicate (Int.toNat (a0.length : Int)) (0 : Int))]).set (Int.toNat x28.2) (v33.set (Int.toNat x28.2) 1)).map (eO 3 eI))]), (13, .p (iV (a0.length : Int))), (14, .p (iV (w64 (x28.2 + 1))))] [] trivial) ?_
   exact lqn (((x28.1 ++ [(List.replicate (Int.toNat (a0.length : Int)) (0 : Int))]).set (Int.toNat x28.2) (v33.set (Int.toNat x28.2) 1)), (w64 (x28.2 + 1))) h
  ·replace h := ite_f hc5_29 h
   refine k_exit ?_
   refine q_x ?_
   refine lq_x ?_
   refine b_x ?_
   have hyy := hy_x28 _ (oi h).symm
   subst hyy
   have h := hk_x28
   refine q_n ?_
   exact jx x28.1 h
theorem wk_spec_grClosed {a0 : (List (List Int))} {a1 : Int}  {r : Int} (h : spec_grClosed a0 a1 = some r) : Meets Try.prog 81 [.d false [.sl none (a0.map (eF eI))], wI a1] { vals := [.p (iV r)] } := by
 refine mo Try.func81 [(0, .d false [.sl none (a0.map (eF eI))]), (1, .p (iV a1))] ?_
 unfold spec_grClosed at h
 refine k_sreg (r_gq [(0, .d false [.sl none (a0.map (eF eI))]), (1, .p (iV a1))] [] trivial) ?_
 refine k_sreg (r_gq [(0, .d false [.sl none (a0.map (eF eI))]), (1, .p (iV a1)), (5, .p (iV 0))] [] trivial) ?_
 refine k_join (J := fun (x : Int) => [(5, .p (iV x))]) (K := fun x => spec_grClosed_k1 x = some r) (fun x1 h => ?_) ?_
 ·unfold spec_grClosed_k1 at h
  refine k_sreg (r_gq [(4, .p (iV x1))] [] trivial) ?_
  refine k_ret ?_
  obtain rfl := oi h
  exact er [(.p (iV x1), 4)]
 ·replace h := bs h
  obtain ⟨v2, hv2, h⟩ := h
  refine k_sreg (r_gq [(5, .p (iV 0)), (10, .ov false [.sl (some 26) (v2.map (eO 3 eI))]), (11, .p (iV (v2.length : Int))), (12, .p (iV 0))] [(2, {call := some (none, [.ov false [.sl (some 26) (v2.map (eO 3 eI))]], true)}), (3, {n := some v2.length})] (A3 (wk_spec_grPower hv2) (show List.all [.ov false [.sl (some 26) (v2.map (eO 3 eI))]] simpleR = true from (sa_o (wnR1 (wnL_enc (wn_O wn_I)) rfl) rfl)) (show (v2.map (eO 3 eI)).length = v2.length from (List.length_map ..)))) ?_
  refine k_block ?_
  obtain ⟨y4, hl_x3, hk_x3⟩ := bs h
  clear h
  refine k_loop (J := fun (x : Qr) => [(5, .p (iV x.1)), (10, .ov false [.sl (some 26) (v2.map (eO 3 eI))]), (11, .p (iV (v2.length : Int))), (12, .p (iV x.2))]) hl_x3 (wk_of (by kernel_rfl) (by kernel_rfl)) (fun x3 o_x3 h hy_x3 => ?_)
  unfold spec_grClosed_b1 at h
  refine k_sreg (r_gq [(5, .p (iV x3.1)), (10, .ov false [.sl (some 26) (v2.map (eO 3 eI))]), (11, .p (iV (v2.length : Int))), (12, .p (iV x3.2)), (13, .p (.bool (decide (x3.2 < (v2.length : Int)))))] [] trivial) ?_
  refine k_seq ?_
  refine kc (decide (x3.2 < (v2.length : Int))) (fun hc5_4 => ?_) (fun hc5_4 => ?_)
  ·replace h := ite_t hc5_4 h
   refine k_skip ?_
   refine q_n ?_
   refine k_seq ?_
   refine k_block ?_
   replace h := bs h
   obtain ⟨v6, hv6, h⟩ := h
   refine k_sreg (r_gq [(5, .p (iV x3.1)), (6, .p (iV x3.2)), (7, .ref 10 [(0, 0), ((Int.toNat x3.2), 0)] none), (10, .ov false [.sl (some 26) (v2.map (eO 3 eI))]), (11, .p (iV (v2.length : Int))), (12, .p (iV x3.2))] [(1, {row := some [.sl (some 3) (v6.map eI)]}), (2, {row := some [.sl (some 3) (v6.map eI)]})] (A4 (yba hv6).1 (map_get (eO 3 eI) (yba hv6).2) (show frR [.sl (some 3) (v6.map eI)] = false from rfl) (show getRow [[.sl (some 26) (v2.map (eO 3 eI))]] [(0, 0), ((Int.toNat x3.2), 0)] = some [.sl (some 3) (v6.map eI)] from ((gr0 rfl).trans (gre (map_get (eO 3 eI) (yba hv6).2)))))) ?_
   replace h := bs h
   obtain ⟨v7, hv7, h⟩ := h
   replace h := bs h
   obtain ⟨v8, hv8, h⟩ := h
   refine k_reg (r_gq [(5, .p (iV v8)), (10, .ov false [.sl (some 26) (v2.map (eO 3 eI))]), (11, .p (iV (v2.length : Int))), (12, .p (iV x3.2))] [(3, {deep := some [.sl (some 3) (v6.map eI)], row := some (eI v7)}), (4, {row := some (eI v7)}), (6, {call := some (none, [.p (iV v8)], true)})] (A5 (yba hv7).1 (map_get eI (yba hv7).2) (show getRow [[.sl (some 26) (v2.map (eO 3 eI))]] [(0, 0), ((Int.toNat x3.2), 0)] = some [.sl (some 3) (v6.map eI)] from ((gr0 rfl).trans (gre (map_get (eO 3 eI) (yba hv6).2)))) (show getRow [[.sl (some 26) (v2.map (eO 3 eI))]] [(0, 0), ((Int.toNat x3.2), 0), ((Int.toNat x3.2), 0)] = some (eI v7) from ((gr0 rfl).trans ((grs (map_get (eO 3 eI) (yba hv6).2) rfl).trans (gre (map_get eI (yba hv7).2))))) (wk_spec_grCap hv8))) ?_
   refine b_n ?_
   refine q_n ?_
   refine k_reg (r_gq [(5, .p (iV v8)), (10, .ov false [.sl (some 26) (v2.map (eO 3 eI))]), (11, .p (iV (v2.length : Int))), (12, .p (iV (w64 (x3.2 + 1))))] [] trivial) ?_
   exact lqn (v8, (w64 (x3.2 + 1))) h
  ·replace h := ite_f hc5_4 h
   refine k_exit ?_
   refine q_x ?_
   refine lq_x ?_
   refine b_x ?_
   have hyy := hy_x3 _ (oi h).symm
   subst hyy
   have h := hk_x3
   refine q_n ?_
   exact jx x3.1 h
theorem wk_spec_ClosedWalks {a0 : (List (List Int))} {a1 : Int}  {r : (Int × Bool)} (h : spec_ClosedWalks a0 a1 = some r) : Meets Try.prog 20 [.d false [.sl none (a0.map (eF eI))], wI a1] { vals := [.p (iV r.1), .p (.bool r.2)] } := by
 refine mo Try.func20 [(0, .d false [.sl none (a0.map (eF eI))]), (1, .p (iV a1))] ?_
 unfold spec_ClosedWalks at h
 refine k_sreg (r_gq [(0, .d false [.sl none (a0.map (eF eI))]), (1, .p (iV a1))] [] trivial) ?_
 refine k_seq ?_
 replace h := bs h
 obtain ⟨v1, hv1, h⟩ := h
 replace h := bs h
 obtain ⟨w4, hw4, h⟩ := h
 refine k_sreg (l1 := [(0, .d false [.sl none (a0.map (eF eI))]), (1, .p (iV a1)), (19, .p (.bool w4))]) ?_ ?_
 ·clear h
  rcases ft (!v1) with ha0 | ha0
  ·replace hw4 := ite_t ha0 hw4
   have hw4 := oi hw4
   subst hw4
   exact (r_gq [(0, .d false [.sl none (a0.map (eF eI))]), (1, .p (iV a1)), (19, .p (.bool true))] [(1, {call := some (none, [.p (.bool v1)], true)}), (4, gT), (5, gT), (6, gT), (7, bT), (9, gT), (10, gT), (11, gT), (12, gT), (13, bT)] (B6 (wk_spec_grGood hv1) ha0 ha0 ha0 ha0 (show true = true from rfl) (A4 (show true = true from rfl) (show true = true from rfl) (show true = true from rfl) (show true = true from rfl))))
  ·replace hw4 := ite_f ha0 hw4
   replace hw4 := bs hw4
   obtain ⟨v2, hv2, hw4⟩ := hw4
   rcases ft (!v2) with ha1 | ha1
   ·replace hw4 := ite_t ha1 hw4
    have hw4 := oi hw4
    subst hw4
    exact (r_gq [(0, .d false [.sl none (a0.map (eF eI))]), (1, .p (iV a1)), (19, .p (.bool true))] [(1, {call := some (none, [.p (.bool v1)], true)}), (4, gF), (5, {g := some false, call := some (none, [.p (.bool v2)], true)}), (6, gF), (7, bF), (9, gT), (10, gT), (11, gT), (12, gT), (13, bT)] (B6 (wk_spec_grGood hv1) ha0 ha0 (wk_spec_grSteps hv2) ha0 ha0 (A5 ha1 ha1 ha1 ha1 ha1)))
   ·replace hw4 := ite_f ha1 hw4
    replace hw4 := bs hw4
    obtain ⟨v3, hv3, hw4⟩ := hw4
    have hw4 := oi hw4
    subst hw4
    exact (r_gq [(0, .d false [.sl none (a0.map (eF eI))]), (1, .p (iV a1)), (19, .p (.bool (decide (v3 > 1000000000))))] [(1, {call := some (none, [.p (.bool v1)], true)}), (4, gF), (5, {g := some false, call := some (none, [.p (.bool v2)], true)}), (6, gF), (7, bF), (9, gF), (10, gF), (11, {g := some false, call := some (none, [.p (iV v3)], true)}), (12, gF), (13, bF)] (B6 (wk_spec_grGood hv1) ha0 ha0 (wk_spec_grSteps hv2) ha0 ha0 (A6 ha1 ha1 ha1 (wk_spec_grClosed hv3) ha1 ha1)))
 ·refine kc w4 (fun hc2_4 => ?_) (fun hc2_4 => ?_)
  ·replace h := ite_t hc2_4 h
   refine k_sreg (r_gq [(4, .p (iV 0)), (5, .p (.bool false))] [] trivial) ?_
   refine k_ret ?_
   refine q_r ?_
   obtain rfl := oi h
   exact er [(.p (iV 0), 4), (.p (.bool false), 5)]
  ·replace h := ite_f hc2_4 h
   refine k_skip ?_
   refine q_n ?_
   replace h := bs h
   obtain ⟨v6, hv6, h⟩ := h
   refine k_sreg (r_gq [(4, .p (iV v6)), (5, .p (.bool true))] [(2, {call := some (none, [.p (iV v6)], true)})] (A1 (wk_spec_grClosed hv6))) ?_
   refine k_ret ?_
   obtain rfl := oi h
   exact er [(.p (iV v6), 4), (.p (.bool true), 5)]
theorem wk_spec_DrawCycleCount {a0 : (List Int)}  {r : ((List (List Int)) × Int)} (h : spec_DrawCycleCount a0 = some r) : Meets Try.prog 59 [.d false [.sl none (a0.map (eU .u8))]] { vals := [.ov false [.sl (some 26) (r.1.map (eO 3 eI))], .p (iV r.2)] } := by
 refine mo Try.func59 [(0, .d false [.sl none (a0.map (eU .u8))])] ?_
 unfold spec_DrawCycleCount at h
 refine k_sreg (r_gq [(0, .d false [.sl none (a0.map (eU .u8))])] [] trivial) ?_
 refine k_sreg (r_gq [(4, .addr 7 [(0, 0)]), (7, .box (eCu (a0, 0, 0)))] [] trivial) ?_
 replace h := bs h
 obtain ⟨v1, hv1, h⟩ := h
 replace h := bs h
 obtain ⟨v2, hv2, h⟩ := h
 replace h := bs h
 obtain ⟨v3, hv3, h⟩ := h
 refine k_sreg (r_gq [(2, .ov false [.sl (some 26) (v1.1.map (eO 3 eI))]), (3, .p (iV v3.1))] [(1, {lend := some (none, [.ov false [.sl (some 26) (v1.1.map (eO 3 eI))]], .box (eCu v1.2), false)}), (5, {lend := some (some [.d false [.sl none (([0, 13]).map eI)]], [.p (iV v2.1)], .box (eCu v2.2), false), fix := some (12, .d false [.sl none (([0, 13]).map eI)])}), (7, {lend := some (some [.d false [.sl none (([1, 2, 3, 4, 6, 12, v2.1]).map eI)]], [.p (iV v3.1)], .box (eCu v3.2), false), fix := some (14, .d false [.sl none (([1, 2, 3, 4, 6, 12, v2.1]).map eI)])})] (B6 (wk_spec_l1Cur_anyGraph hv1) (show ([.d false [.sl none (eraL (([0, 13]).map eI))]] : List Arg) = [.d false [.sl none (([0, 13]).map eI)]] from (by simp only [yea (h := eI) er_I])) (wk_spec_l1Cur_among hv2) (show (SV.d false (eraR [.sl (some 3) (([0, 13]).map eI)]) : SV) = .d false [.sl none (([0, 13]).map eI)] from (congrArg (fun z => SV.d false z) (erc_sl (yea er_I) rfl))) (show ([.d false [.sl none (eraL (([1, 2, 3, 4, 6, 12, v2.1]).map eI))]] : List Arg) = [.d false [.sl none (([1, 2, 3, 4, 6, 12, v2.1]).map eI)]] from (by simp only [yea (h := eI) er_I])) (wk_spec_l1Cur_among hv3) (A1 (show (SV.d false (eraR [.sl (some 3) (([1, 2, 3, 4, 6, 12, v2.1]).map eI)]) : SV) = .d false [.sl none (([1, 2, 3, 4, 6, 12, v2.1]).map eI)] from (congrArg (fun z => SV.d false z) (erc_sl (yea er_I) rfl)))))) ?_
 refine k_ret ?_
 obtain rfl := oi h
 exact er [(.ov false [.sl (some 26) (v1.1.map (eO 3 eI))], 2), (.p (iV v3.1), 3)]
theorem wk_spec_DrawCycleTable {a0 : (List Int)}  {r : ((List (List Int)) × Int)} (h : spec_DrawCycleTable a0 = some r) : Meets Try.prog 21 [.d false [.sl none (a0.map (eU .u8))]] { vals := [.ov false [.sl (some 26) (r.1.map (eO 3 eI))], .p (iV r.2)] } := by
 refine mo Try.func21 [(0, .d false [.sl none (a0.map (eU .u8))])] ?_
 unfold spec_DrawCycleTable at h
 refine k_sreg (r_gq [(0, .d false [.sl none (a0.map (eU .u8))])] [] trivial) ?_
 replace h := bs h
 obtain ⟨v1, hv1, h⟩ := h
 refine k_sreg (r_gq [(2, .ov false [.sl (some 26) (v1.1.map (eO 3 eI))]), (3, .p (iV v1.2))] [(1, {call := some (none, [.ov false [.sl (some 26) (v1.1.map (eO 3 eI))], .p (iV v1.2)], true)})] (A2 (wk_spec_DrawCycleCount hv1) (show List.all [.ov false [.sl (some 26) (v1.1.map (eO 3 eI))], .p (iV v1.2)] simpleR = true from (sa_o (wnR1 (wnL_enc (wn_O wn_I)) rfl) (sa_p rfl))))) ?_
 refine k_ret ?_
 obtain rfl := oi h
 exact er [(.ov false [.sl (some 26) (v1.1.map (eO 3 eI))], 2), (.p (iV v1.2), 3)]
theorem wk_impl_isLength {a0 : (List (List Int))} {a1 : Int}  {r : Bool} (h : impl_isLength a0 a1 = some r) : Meets Try.prog 82 [.d false [.sl none (a0.map (eF eI))], wI a1] { vals := [.p (.bool r)] } := by
 refine mo Try.func82 [(0, .d false [.sl none (a0.map (eF eI))]), (1, .p (iV a1))] ?_
 unfold impl_isLength at h
 refine k_sreg (r_gq [(0, .d false [.sl none (a0.map (eF eI))]), (1, .p (iV a1))] [] trivial) ?_
 replace h := bs h
 obtain ⟨v1, hv1, h⟩ := h
 replace h := bs h
 obtain ⟨w3, hw3, h⟩ := h
 refine k_sreg (l1 := [(4, .p (.bool w3))]) ?_ ?_
 ·clear h
  rcases ft v1 with ha0 | ha0
  ·replace hw3 := ite_t ha0 hw3
   replace hw3 := bs hw3
   obtain ⟨v2, hv2, hw3⟩ := hw3
   have hw3 := oi hw3
   subst hw3
   exact (r_gq [(4, .p (.bool v2))] [(1, {call := some (none, [.p (.bool v1)], true)}), (3, gT), (4, {g := some true, call := some (none, [.p (.bool v2)], true)}), (5, bT)] (A5 (wk_impl_isGraph hv1) ha0 ha0 (wk_impl_within hv2) ha0))
  ·replace hw3 := ite_f ha0 hw3
   have hw3 := oi hw3
   subst hw3
   exact (r_gq [(4, .p (.bool false))] [(1, {call := some (none, [.p (.bool v1)], true)}), (3, gF), (4, gF), (5, bF)] (A4 (wk_impl_isGraph hv1) ha0 ha0 ha0))
 ·refine k_ret ?_
  obtain rfl := oi h
  exact er [(.p (.bool w3), 4)]
theorem wk_impl_moebius {a0 : Int}  {r : Int} (h : impl_moebius a0 = some r) : Meets Try.prog 132 [wI a0] { vals := [.p (iV r)] } := by
 refine mo Try.func132 [(0, .p (iV a0))] ?_
 unfold impl_moebius at h
 refine k_sreg (r_gq [(0, .p (iV a0))] [] trivial) ?_
 refine k_sreg (r_gq [(0, .p (iV a0)), (3, .p (iV 1))] [] trivial) ?_
 refine k_join (J := fun (x : Int) => [(3, .p (iV x))]) (K := fun x => impl_moebius_k1 x = some r) (fun x1 h => ?_) ?_
 ·unfold impl_moebius_k1 at h
  refine k_sreg (r_gq [(2, .p (iV x1))] [] trivial) ?_
  refine k_ret ?_
  obtain rfl := oi h
  exact er [(.p (iV x1), 2)]
 ·refine k_sreg (r_gq [(0, .p (iV a0)), (3, .p (iV 1)), (4, .p (iV 2))] [] trivial) ?_
  refine k_block ?_
  obtain ⟨y3, hl_x2, hk_x2⟩ := bs h
  clear h
  refine k_loop (J := fun (x : (Int × Int × Int)) => [(0, .p (iV x.1)), (3, .p (iV x.2.1)), (4, .p (iV x.2.2))]) hl_x2 (wk_of (by kernel_rfl) (by kernel_rfl)) (fun x2 o_x2 h hy_x2 => ?_)
  unfold impl_moebius_b1 at h
  refine k_seq ?_
  refine k_sreg (r_gq [(0, .p (iV x2.1)), (3, .p (iV x2.2.1)), (4, .p (iV x2.2.2)), (7, .p (.bool (decide (x2.2.2 ≤ x2.1))))] [] trivial) ?_
  refine kc (decide (x2.2.2 ≤ x2.1)) (fun hc5_3 => ?_) (fun hc5_3 => ?_)
  ·replace h := ite_t hc5_3 h
   refine k_skip ?_
   refine q_n ?_
   refine k_seq ?_
   refine k_block ?_
   replace h := bs h
   obtain ⟨u5, hu5, h⟩ := h
   refine k_sreg (r_gq [(0, .p (iV x2.1)), (3, .p (iV x2.2.1)), (4, .p (iV x2.2.2)), (13, .p (.bool ((Int.tmod x2.1 x2.2.2) == 0)))] [] (A1 (yca hu5))) ?_
   refine kc ((Int.tmod x2.1 x2.2.2) == 0) (fun hc6_5 => ?_) (fun hc6_5 => ?_)
   ·replace h := ite_t hc6_5 h
    refine k_sreg (r_gq [(0, .p (iV (w64 (Int.tdiv x2.1 x2.2.2)))), (3, .p (iV x2.2.1)), (4, .p (iV x2.2.2))] [] (A1 (yca hu5))) ?_
    refine k_sreg (r_gq [(0, .p (iV (w64 (Int.tdiv x2.1 x2.2.2)))), (3, .p (iV (w64 (0 - x2.2.1)))), (4, .p (iV x2.2.2))] [] trivial) ?_
    refine k_sreg (r_gq [(0, .p (iV (w64 (Int.tdiv x2.1 x2.2.2)))), (3, .p (iV (w64 (0 - x2.2.1)))), (4, .p (iV x2.2.2)), (22, .p (.bool ((Int.tmod (w64 (Int.tdiv x2.1 x2.2.2)) x2.2.2) == 0)))] [] (A1 (yca hu5))) ?_
    refine kc ((Int.tmod (w64 (Int.tdiv x2.1 x2.2.2)) x2.2.2) == 0) (fun hc6_6 => ?_) (fun hc6_6 => ?_)
    ·replace h := ite_t hc6_6 h
     refine k_sreg (r_gq [(2, .p (iV 0))] [] trivial) ?_
     refine k_ret ?_
     refine b_r ?_
     refine q_r ?_
     refine lq_r ?_
     refine b_r ?_
     refine q_r ?_
     have hyy := hy_x2 _ (oi h).symm
     subst hyy
     have h := hk_x2
     dsimp only [Sum.elim] at h
     obtain rfl := oi h
     exact er [(.p (iV 0), 2)]
    ·replace h := ite_f hc6_6 h
     refine k_skip ?_
     refine b_n ?_
     refine q_n ?_
     refine k_reg (r_gq [(0, .p (iV (w64 (Int.tdiv x2.1 x2.2.2)))), (3, .p (iV (w64 (0 - x2.2.1)))), (4, .p (iV (w64 (x2.2.2 + 1))))] [] trivial) ?_
     exact lqn ((w64 (Int.tdiv x2.1 x2.2.2)), (w64 (0 - x2.2.1)), (w64 (x2.2.2 + 1))) h
   ·replace h := ite_f hc6_5 h
    refine k_skip ?_
    refine b_n ?_
    refine q_n ?_
    refine k_reg (r_gq [(0, .p (iV x2.1)), (3, .p (iV x2.2.1)), (4, .p (iV (w64 (x2.2.2 + 1))))] [] trivial) ?_
    exact lqn (x2.1, x2.2.1, (w64 (x2.2.2 + 1))) h
  ·replace h := ite_f hc5_3 h
   refine k_exit ?_
   refine q_x ?_
   refine lq_x ?_
   refine b_x ?_
   have hyy := hy_x2 _ (oi h).symm
   subst hyy
   have h := hk_x2
   dsimp only [Sum.elim] at h
   refine q_n ?_
   exact jx x2.2.1 h
theorem wk_impl_cycleCount {a0 : (List (List Int))} {a1 : Int}  {r : (Int × Bool)} (h : impl_cycleCount a0 a1 = some r) : Meets Try.prog 83 [.d false [.sl none (a0.map (eF eI))], wI a1] { vals := [.p (iV r.1), .p (.bool r.2)] } := by
 refine mo Try.func83 [(0, .d false [.sl none (a0.map (eF eI))]), (1, .p (iV a1))] ?_
 unfold impl_cycleCount at h
 refine k_sreg (r_gq [(0, .d false [.sl none (a0.map (eF eI))]), (1, .p (iV a1))] [] trivial) ?_
 refine k_sreg (r_gq [(0, .d false [.sl none (a0.map (eF eI))]), (1, .p (iV a1)), (6, .p (iV 0))] [] trivial) ?_
 refine k_join (J := fun (x : Int) => [(1, .p (iV a1)), (6, .p (iV x))]) (K := fun x => impl_cycleCount_k1 a1 x = some r) (fun x1 h => ?_) ?_
 ·unfold impl_cycleCount_k1 at h
  replace h := bs h
  obtain ⟨u2, hu2, h⟩ := h
  refine k_sreg (r_gq [(4, .p (iV (w64 (Int.tdiv x1 a1)))), (5, .p (.bool true))] [] (A1 (yca hu2))) ?_
  refine k_ret ?_
  obtain rfl := oi h
  exact er [(.p (iV (w64 (Int.tdiv x1 a1))), 4), (.p (.bool true), 5)]
 ·refine k_sreg (r_gq [(0, .d false [.sl none (a0.map (eF eI))]), (1, .p (iV a1)), (6, .p (iV 0)), (7, .p (iV 1))] [] trivial) ?_
  refine k_block ?_
  obtain ⟨y4, hl_x3, hk_x3⟩ := bs h
  clear h
  refine k_loop (J := fun (x : Qr) => [(0, .d false [.sl none (a0.map (eF eI))]), (1, .p (iV a1)), (6, .p (iV x.1)), (7, .p (iV x.2))]) hl_x3 (wk_of (by kernel_rfl) (by kernel_rfl)) (fun x3 o_x3 h hy_x3 => ?_)
  unfold impl_cycleCount_b1 at h
  refine k_seq ?_
  refine k_sreg (r_gq [(0, .d false [.sl none (a0.map (eF eI))]), (1, .p (iV a1)), (6, .p (iV x3.1)), (7, .p (iV x3.2)), (12, .p (.bool (decide (x3.2 ≤ a1))))] [] trivial) ?_
  refine kc (decide (x3.2 ≤ a1)) (fun hc5_4 => ?_) (fun hc5_4 => ?_)
  ·replace h := ite_t hc5_4 h
   refine k_skip ?_
   refine q_n ?_
   refine k_seq ?_
   refine k_block ?_
   replace h := bs h
   obtain ⟨u6, hu6, h⟩ := h
   refine k_sreg (r_gq [(0, .d false [.sl none (a0.map (eF eI))]), (1, .p (iV a1)), (6, .p (iV x3.1)), (7, .p (iV x3.2)), (18, .p (.bool ((Int.tmod a1 x3.2) == 0)))] [] (A1 (yca hu6))) ?_
   refine kc ((Int.tmod a1 x3.2) == 0) (fun hc6_6 => ?_) (fun hc6_6 => ?_)
   ·replace h := ite_t hc6_6 h
    replace h := bs h
    obtain ⟨v8, hv8, h⟩ := h
    refine k_sreg (r_gq [(0, .d false [.sl none (a0.map (eF eI))]), (1, .p (iV a1)), (6, .p (iV x3.1)), (7, .p (iV x3.2)), (8, .p (iV v8.1)), (9, .p (.bool v8.2))] [(2, {call := some (none, [.p (iV v8.1), .p (.bool v8.2)], true)})] (A1 (wk_impl_closedWalks hv8))) ?_
    refine k_seq ?_
    refine k_sreg (r_gq [(0, .d false [.sl none (a0.map (eF eI))]), (1, .p (iV a1)), (6, .p (iV x3.1)), (7, .p (iV x3.2)), (8, .p (iV v8.1)), (26, .p (.bool (!v8.2)))] [] trivial) ?_
    refine kc (!v8.2) (fun hc7_8 => ?_) (fun hc7_8 => ?_)
    ·replace h := ite_t hc7_8 h
     refine k_sreg (r_gq [(4, .p (iV 0)), (5, .p (.bool false))] [] trivial) ?_
     refine k_ret ?_
     refine q_r ?_
     refine b_r ?_
     refine q_r ?_
     refine lq_r ?_
     refine b_r ?_
     refine q_r ?_
     have hyy := hy_x3 _ (oi h).symm
     subst hyy
     have h := hk_x3
     dsimp only [Sum.elim] at h
     obtain rfl := oi h
     exact er [(.p (iV 0), 4), (.p (.bool false), 5)]
    ·replace h := ite_f hc7_8 h
     refine k_skip ?_
     refine q_n ?_
     replace h := bs h
     obtain ⟨v10, hv10, h⟩ := h
     refine k_reg (r_gq [(0, .d false [.sl none (a0.map (eF eI))]), (1, .p (iV a1)), (6, .p (iV (w64 (x3.1 + (w64 (v10 * v8.1)))))), (7, .p (iV x3.2))] [(4, {call := some (none, [.p (iV v10)], true)})] (A2 (yca hu6) (wk_impl_moebius hv10))) ?_
     refine b_n ?_
     refine q_n ?_
     refine k_reg (r_gq [(0, .d false [.sl none (a0.map (eF eI))]), (1, .p (iV a1)), (6, .p (iV (w64 (x3.1 + (w64 (v10 * v8.1)))))), (7, .p (iV (w64 (x3.2 + 1))))] [] trivial) ?_
     exact lqn ((w64 (x3.1 + (w64 (v10 * v8.1)))), (w64 (x3.2 + 1))) h
   ·replace h := ite_f hc6_6 h
    refine k_skip ?_
    refine b_n ?_
    refine q_n ?_
    refine k_reg (r_gq [(0, .d false [.sl none (a0.map (eF eI))]), (1, .p (iV a1)), (6, .p (iV x3.1)), (7, .p (iV (w64 (x3.2 + 1))))] [] trivial) ?_
    exact lqn (x3.1, (w64 (x3.2 + 1))) h
  ·replace h := ite_f hc5_4 h
   refine k_exit ?_
   refine q_x ?_
   refine lq_x ?_
   refine b_x ?_
   have hyy := hy_x3 _ (oi h).symm
   subst hyy
   have h := hk_x3
   dsimp only [Sum.elim] at h
   refine q_n ?_
   exact jx x3.1 h
theorem wk_impl_CycleTable {a0 : (List (List Int))} {a1 : Int}  {r : ((List Int) × Bool)} (h : impl_CycleTable a0 a1 = some r) : Meets Try.prog 22 [.d false [.sl none (a0.map (eF eI))], wI a1] { vals := [.ov false [.sl (some 3) (r.1.map eI)], .p (.bool r.2)] } := by
 refine mo Try.func22 [(0, .d false [.sl none (a0.map (eF eI))]), (1, .p (iV a1))] ?_
 unfold impl_CycleTable at h
 refine k_sreg (r_gq [(0, .d false [.sl none (a0.map (eF eI))]), (1, .p (iV a1))] [] trivial) ?_
 refine k_seq ?_
 replace h := bs h
 obtain ⟨v1, hv1, h⟩ := h
 refine k_sreg (r_gq [(0, .d false [.sl none (a0.map (eF eI))]), (1, .p (iV a1)), (13, .p (.bool (!v1)))] [(2, {call := some (none, [.p (.bool v1)], true)})] (A1 (wk_impl_isLength hv1))) ?_
 refine kc (!v1) (fun hc2_1 => ?_) (fun hc2_1 => ?_)
 ·replace h := ite_t hc2_1 h
  refine k_sreg (r_gq [(4, .ov false [.sl (some 3) []]), (5, .p (.bool false))] [] trivial) ?_
  refine k_ret ?_
  refine q_r ?_
  obtain rfl := oi h
  exact er [(.ov false [.sl (some 3) []], 4), (.p (.bool false), 5)]
 ·replace h := ite_f hc2_1 h
  refine k_skip ?_
  refine q_n ?_
  refine k_sreg (r_gq [(0, .d false [.sl none (a0.map (eF eI))]), (1, .p (iV a1)), (6, .ov false [.sl (some 3) []])] [] trivial) ?_
  refine k_join (J := fun (x : (List Int)) => [(6, .ov false [.sl (some 3) (x.map eI)])]) (K := fun x => impl_CycleTable_k1 x = some r) (fun x3 h => ?_) ?_
  ·unfold impl_CycleTable_k1 at h
   refine k_sreg (r_gq [(4, .ov false [.sl (some 3) (x3.map eI)]), (5, .p (.bool true))] [] trivial) ?_
   refine k_ret ?_
   obtain rfl := oi h
   exact er [(.ov false [.sl (some 3) (x3.map eI)], 4), (.p (.bool true), 5)]
  ·refine k_sreg (r_gq [(0, .d false [.sl none (a0.map (eF eI))]), (1, .p (iV a1)), (6, .ov false [.sl (some 3) []]), (7, .p (iV 1))] [] trivial) ?_
   refine k_block ?_
   obtain ⟨y5, hl_x4, hk_x4⟩ := bs h
   clear h
   refine k_loop (J := fun (x : ((List Int) × Int)) => [(0, .d false [.sl none (a0.map (eF eI))]), (1, .p (iV a1)), (6, .ov false [.sl (some 3) (x.1.map eI)]), (7, .p (iV x.2))]) hl_x4 (wk_of (by kernel_rfl) (by kernel_rfl)) (fun x4 o_x4 h hy_x4 => ?_)
   unfold impl_CycleTable_b1 at h
   refine k_seq ?_
   refine k_sreg (r_gq [(0, .d false [.sl none (a0.map (eF eI))]), (1, .p (iV a1)), (6, .ov false [.sl (some 3) (x4.1.map eI)]), (7, .p (iV x4.2)), (16, .p (.bool (decide (x4.2 ≤ a1))))] [] trivial) ?_
   refine kc (decide (x4.2 ≤ a1)) (fun hc5_5 => ?_) (fun hc5_5 => ?_)
   ·replace h := ite_t hc5_5 h
    refine k_skip ?_
    refine q_n ?_
    refine k_seq ?_
    refine k_block ?_
    replace h := bs h
    obtain ⟨v7, hv7, h⟩ := h
    refine k_sreg (r_gq [(0, .d false [.sl none (a0.map (eF eI))]), (1, .p (iV a1)), (6, .ov false [.sl (some 3) (x4.1.map eI)]), (7, .p (iV x4.2)), (8, .p (iV v7.1)), (9, .p (.bool v7.2))] [(2, {call := some (none, [.p (iV v7.1), .p (.bool v7.2)], true)})] (A1 (wk_impl_cycleCount hv7))) ?_
    refine k_seq ?_
    refine k_sreg (r_gq [(0, .d false [.sl none (a0.map (eF eI))]), (1, .p (iV a1)), (6, .ov false [.sl (some 3) (x4.1.map eI)]), (7, .p (iV x4.2)), (8, .p (iV v7.1)), (26, .p (.bool (!v7.2)))] [] trivial) ?_
    refine kc (!v7.2) (fun hc7_7 => ?_) (fun hc7_7 => ?_)
    ·replace h := ite_t hc7_7 h
     refine k_sreg (r_gq [(4, .ov false [.sl (some 3) []]), (5, .p (.bool false))] [] trivial) ?_
     refine k_ret ?_
     refine q_r ?_
     refine b_r ?_
     refine q_r ?_
     refine lq_r ?_
     refine b_r ?_
     refine q_r ?_
     have hyy := hy_x4 _ (oi h).symm
     subst hyy
     have h := hk_x4
     dsimp only [Sum.elim] at h
     obtain rfl := oi h
     exact er [(.ov false [.sl (some 3) []], 4), (.p (.bool false), 5)]
    ·replace h := ite_f hc7_7 h
     refine k_skip ?_
     refine q_n ?_
     replace h := bs h
     obtain ⟨u9, hu9, h⟩ := h
     refine k_reg (r_gq [(0, .d false [.sl none (a0.map (eF eI))]), (1, .p (iV a1)), (6, .ov false [.sl (some 3) ((x4.1 ++ [v7.1]).map eI)]), (7, .p (iV x4.2))] [(3, {fix := some (30, .ov false [.sl (some 3) ((x4.1 ++ [v7.1]).map eI)])})] (A3 (show List.length ((x4.1.map eI) : List (List C)) + List.length ((([v7.1]).map eI) : List (List C)) ≤ 1099511627776 from (by have hg := (yca hu9); simpa using hg)) (show ∀ row ∈ ((([v7.1]).map eI) : List (List C)), row.length = 1 from (yua fun _ => rfl)) (show (SV.ov false [.sl (some 3) ((x4.1.map eI) ++ (([v7.1]).map eI))] : SV) = .ov false [.sl (some 3) ((x4.1 ++ [v7.1]).map eI)] from (congrArg (fun z => SV.ov false [.sl (some 3) z]) (List.map_append ..).symm)))) ?_
     refine b_n ?_
     refine q_n ?_
     refine k_reg (r_gq [(0, .d false [.sl none (a0.map (eF eI))]), (1, .p (iV a1)), (6, .ov false [.sl (some 3) ((x4.1 ++ [v7.1]).map eI)]), (7, .p (iV (w64 (x4.2 + 1))))] [] trivial) ?_
     exact lqn ((x4.1 ++ [v7.1]), (w64 (x4.2 + 1))) h
   ·replace h := ite_f hc5_5 h
    refine k_exit ?_
    refine q_x ?_
    refine lq_x ?_
    refine b_x ?_
    have hyy := hy_x4 _ (oi h).symm
    subst hyy
    have h := hk_x4
    dsimp only [Sum.elim] at h
    refine q_n ?_
    exact jx x4.1 h
theorem wk_spec_zeCycles_r {rc : ((List (List Int)) → Int → Option Int)} {a0 : (List (List Int))} {a1 : Int} (hrc : ∀ x0 x1 y, rc x0 x1 = some y → Meets Try.prog 84 [.d false [.sl none (x0.map (eF eI))], wI x1] { vals := [.p (iV y)] }) {r : Int} (h : spec_zeCycles_r rc a0 a1 = some r) : Meets Try.prog 84 [.d false [.sl none (a0.map (eF eI))], wI a1] { vals := [.p (iV r)] } := by
 refine mo Try.func84 [(0, .d false [.sl none (a0.map (eF eI))]), (1, .p (iV a1))] ?_
 unfold spec_zeCycles_r at h
 refine k_sreg (r_gq [(0, .d false [.sl none (a0.map (eF eI))]), (1, .p (iV a1))] [] trivial) ?_
 replace h := bs h
 obtain ⟨v1, hv1, h⟩ := h
 refine k_sreg (r_gq [(0, .d false [.sl none (a0.map (eF eI))]), (1, .p (iV a1)), (5, .p (iV v1))] [(2, {call := some (none, [.p (iV v1)], true)})] (A1 (wk_spec_grClosed hv1))) ?_
 refine k_seq ?_
 refine k_sreg (r_gq [(0, .d false [.sl none (a0.map (eF eI))]), (1, .p (iV a1)), (5, .p (iV v1)), (11, .p (.bool (decide (v1 > 1000000000))))] [] trivial) ?_
 refine kc (decide (v1 > 1000000000)) (fun hc2_1 => ?_) (fun hc2_1 => ?_)
 ·replace h := ite_t hc2_1 h
  refine k_sreg (r_gq [(4, .p (iV (-1)))] [] trivial) ?_
  refine k_ret ?_
  refine q_r ?_
  obtain rfl := oi h
  exact er [(.p (iV (-1)), 4)]
 ·replace h := ite_f hc2_1 h
  refine k_skip ?_
  refine q_n ?_
  refine k_join (J := fun (x : Int) => [(1, .p (iV a1)), (5, .p (iV x))]) (K := fun x => spec_zeCycles_r_k1 a1 x = some r) (fun x3 h => ?_) ?_
  ·unfold spec_zeCycles_r_k1 at h
   replace h := bs h
   obtain ⟨u4, hu4, h⟩ := h
   refine k_sreg (r_gq [(4, .p (iV (w64 (Int.tdiv x3 a1))))] [] (A1 (yca hu4))) ?_
   refine k_ret ?_
   obtain rfl := oi h
   exact er [(.p (iV (w64 (Int.tdiv x3 a1))), 4)]
  ·refine k_sreg (r_gq [(0, .d false [.sl none (a0.map (eF eI))]), (1, .p (iV a1)), (5, .p (iV v1)), (6, .p (iV 1))] [] trivial) ?_
   refine k_block ?_
   obtain ⟨y6, hl_x5, hk_x5⟩ := bs h
   clear h
   refine k_loop (J := fun (x : Qr) => [(0, .d false [.sl none (a0.map (eF eI))]), (1, .p (iV a1)), (5, .p (iV x.1)), (6, .p (iV x.2))]) hl_x5 (wk_of (by kernel_rfl) (by kernel_rfl)) (fun x5 o_x5 h hy_x5 => ?_)
   unfold spec_zeCycles_r_b1 at h
   refine k_seq ?_
   refine k_sreg (r_gq [(0, .d false [.sl none (a0.map (eF eI))]), (1, .p (iV a1)), (5, .p (iV x5.1)), (6, .p (iV x5.2)), (14, .p (.bool (decide (x5.2 < a1))))] [] trivial) ?_
   refine kc (decide (x5.2 < a1)) (fun hc5_6 => ?_) (fun hc5_6 => ?_)
   ·replace h := ite_t hc5_6 h
    refine k_skip ?_
    refine q_n ?_
    refine k_seq ?_
    refine k_block ?_
    replace h := bs h
    obtain ⟨u8, hu8, h⟩ := h
    refine k_sreg (r_gq [(0, .d false [.sl none (a0.map (eF eI))]), (1, .p (iV a1)), (5, .p (iV x5.1)), (6, .p (iV x5.2)), (20, .p (.bool ((Int.tmod a1 x5.2) == 0)))] [] (A1 (yca hu8))) ?_
    refine kc ((Int.tmod a1 x5.2) == 0) (fun hc6_8 => ?_) (fun hc6_8 => ?_)
    ·replace h := ite_t hc6_8 h
     replace h := bs h
     obtain ⟨v10, hv10, h⟩ := h
     refine k_reg (r_gq [(0, .d false [.sl none (a0.map (eF eI))]), (1, .p (iV a1)), (5, .p (iV (w64 (x5.1 - (w64 (x5.2 * v10)))))), (6, .p (iV x5.2))] [(4, {call := some (none, [.p (iV v10)], true)})] (A1 (hrc _ _ _ hv10))) ?_
     refine b_n ?_
     refine q_n ?_
     refine k_reg (r_gq [(0, .d false [.sl none (a0.map (eF eI))]), (1, .p (iV a1)), (5, .p (iV (w64 (x5.1 - (w64 (x5.2 * v10)))))), (6, .p (iV (w64 (x5.2 + 1))))] [] trivial) ?_
     exact lqn ((w64 (x5.1 - (w64 (x5.2 * v10)))), (w64 (x5.2 + 1))) h
    ·replace h := ite_f hc6_8 h
     refine k_skip ?_
     refine b_n ?_
     refine q_n ?_
     refine k_reg (r_gq [(0, .d false [.sl none (a0.map (eF eI))]), (1, .p (iV a1)), (5, .p (iV x5.1)), (6, .p (iV (w64 (x5.2 + 1))))] [] trivial) ?_
     exact lqn (x5.1, (w64 (x5.2 + 1))) h
   ·replace h := ite_f hc5_6 h
    refine k_exit ?_
    refine q_x ?_
    refine lq_x ?_
    refine b_x ?_
    have hyy := hy_x5 _ (oi h).symm
    subst hyy
    have h := hk_x5
    refine q_n ?_
    exact jx x5.1 h
theorem wk_spec_zeCycles_f : ∀ (k : Nat) {a0 : (List (List Int))} {a1 : Int} {r : Int} (h : spec_zeCycles_f k a0 a1 = some r), Meets Try.prog 84 [.d false [.sl none (a0.map (eF eI))], wI a1] { vals := [.p (iV r)] }
 | 0, _, _, _, h => by cases h
 | k + 1, _, _, _, h => wk_spec_zeCycles_r (fun _ _ _ hy => wk_spec_zeCycles_f k hy) h
theorem wk_spec_zeCycles {a0 : (List (List Int))} {a1 : Int} {r : Int} (h : spec_zeCycles a0 a1 = some r) : Meets Try.prog 84 [.d false [.sl none (a0.map (eF eI))], wI a1] { vals := [.p (iV r)] } := by
 obtain ⟨k, hk⟩ := yik h
 exact wk_spec_zeCycles_f k hk
theorem wk_spec_CycleTable {a0 : (List (List Int))} {a1 : Int}  {r : ((List Int) × Bool)} (h : spec_CycleTable a0 a1 = some r) : Meets Try.prog 23 [.d false [.sl none (a0.map (eF eI))], wI a1] { vals := [.ov false [.sl (some 3) (r.1.map eI)], .p (.bool r.2)] } := by
 refine mo Try.func23 [(0, .d false [.sl none (a0.map (eF eI))]), (1, .p (iV a1))] ?_
 unfold spec_CycleTable at h
 refine k_sreg (r_gq [(0, .d false [.sl none (a0.map (eF eI))]), (1, .p (iV a1))] [] trivial) ?_
 refine k_seq ?_
 replace h := bs h
 obtain ⟨v1, hv1, h⟩ := h
 replace h := bs h
 obtain ⟨w3, hw3, h⟩ := h
 refine k_sreg (l1 := [(0, .d false [.sl none (a0.map (eF eI))]), (1, .p (iV a1)), (16, .p (.bool w3))]) ?_ ?_
 ·clear h
  rcases ft (!v1) with ha0 | ha0
  ·replace hw3 := ite_t ha0 hw3
   have hw3 := oi hw3
   subst hw3
   exact (r_gq [(0, .d false [.sl none (a0.map (eF eI))]), (1, .p (iV a1)), (16, .p (.bool true))] [(1, {call := some (none, [.p (.bool v1)], true)}), (4, gT), (5, gT), (6, gT), (7, bT)] (A5 (wk_spec_grGood hv1) ha0 ha0 ha0 ha0))
  ·replace hw3 := ite_f ha0 hw3
   replace hw3 := bs hw3
   obtain ⟨v2, hv2, hw3⟩ := hw3
   have hw3 := oi hw3
   subst hw3
   exact (r_gq [(0, .d false [.sl none (a0.map (eF eI))]), (1, .p (iV a1)), (16, .p (.bool (!v2)))] [(1, {call := some (none, [.p (.bool v1)], true)}), (4, gF), (5, {g := some false, call := some (none, [.p (.bool v2)], true)}), (6, gF), (7, bF)] (A6 (wk_spec_grGood hv1) ha0 ha0 (wk_spec_zeLength hv2) ha0 ha0))
 ·refine kc w3 (fun hc2_3 => ?_) (fun hc2_3 => ?_)
  ·replace h := ite_t hc2_3 h
   refine k_sreg (r_gq [(4, .ov false [.sl (some 3) []]), (5, .p (.bool false))] [] trivial) ?_
   refine k_ret ?_
   refine q_r ?_
   obtain rfl := oi h
   exact er [(.ov false [.sl (some 3) []], 4), (.p (.bool false), 5)]
  ·replace h := ite_f hc2_3 h
   refine k_skip ?_
   refine q_n ?_
   refine k_sreg (r_gq [(0, .d false [.sl none (a0.map (eF eI))]), (1, .p (iV a1)), (6, .ov false [.sl (some 3) []])] [] trivial) ?_
   refine k_join (J := fun (x : (List Int)) => [(6, .ov false [.sl (some 3) (x.map eI)])]) (K := fun x => spec_CycleTable_k1 x = some r) (fun x5 h => ?_) ?_
   ·unfold spec_CycleTable_k1 at h
    refine k_sreg (r_gq [(4, .ov false [.sl (some 3) (x5.map eI)]), (5, .p (.bool true))] [] trivial) ?_
    refine k_ret ?_
    obtain rfl := oi h
    exact er [(.ov false [.sl (some 3) (x5.map eI)], 4), (.p (.bool true), 5)]
   ·refine k_sreg (r_gq [(0, .d false [.sl none (a0.map (eF eI))]), (1, .p (iV a1)), (6, .ov false [.sl (some 3) []]), (7, .p (iV 1))] [] trivial) ?_
    refine k_block ?_
    obtain ⟨y7, hl_x6, hk_x6⟩ := bs h
    clear h
    refine k_loop (J := fun (x : ((List Int) × Int)) => [(0, .d false [.sl none (a0.map (eF eI))]), (1, .p (iV a1)), (6, .ov false [.sl (some 3) (x.1.map eI)]), (7, .p (iV x.2))]) hl_x6 (wk_of (by kernel_rfl) (by kernel_rfl)) (fun x6 o_x6 h hy_x6 => ?_)
    unfold spec_CycleTable_b1 at h
    refine k_seq ?_
    refine k_sreg (r_gq [(0, .d false [.sl none (a0.map (eF eI))]), (1, .p (iV a1)), (6, .ov false [.sl (some 3) (x6.1.map eI)]), (7, .p (iV x6.2)), (19, .p (.bool (decide (x6.2 ≤ a1))))] [] trivial) ?_
    refine kc (decide (x6.2 ≤ a1)) (fun hc5_7 => ?_) (fun hc5_7 => ?_)
    ·replace h := ite_t hc5_7 h
     refine k_skip ?_
     refine q_n ?_
     refine k_seq ?_
     refine k_block ?_
     replace h := bs h
     obtain ⟨v9, hv9, h⟩ := h
     refine k_sreg (r_gq [(0, .d false [.sl none (a0.map (eF eI))]), (1, .p (iV a1)), (6, .ov false [.sl (some 3) (x6.1.map eI)]), (7, .p (iV x6.2)), (8, .p (iV v9))] [(2, {call := some (none, [.p (iV v9)], true)})] (A1 (wk_spec_zeCycles hv9))) ?_
     refine k_seq ?_
     refine k_sreg (r_gq [(0, .d false [.sl none (a0.map (eF eI))]), (1, .p (iV a1)), (6, .ov false [.sl (some 3) (x6.1.map eI)]), (7, .p (iV x6.2)), (8, .p (iV v9)), (26, .p (.bool (decide (v9 < 0))))] [] trivial) ?_
     refine kc (decide (v9 < 0)) (fun hc7_9 => ?_) (fun hc7_9 => ?_)
     ·replace h := ite_t hc7_9 h
      refine k_sreg (r_gq [(4, .ov false [.sl (some 3) []]), (5, .p (.bool false))] [] trivial) ?_
      refine k_ret ?_
      refine q_r ?_
      refine b_r ?_
      refine q_r ?_
      refine lq_r ?_
      refine b_r ?_
      refine q_r ?_
      have hyy := hy_x6 _ (oi h).symm
      subst hyy
      have h := hk_x6
      dsimp only [Sum.elim] at h
      obtain rfl := oi h
      exact er [(.ov false [.sl (some 3) []], 4), (.p (.bool false), 5)]
     ·replace h := ite_f hc7_9 h
      refine k_skip ?_
      refine q_n ?_
      replace h := bs h
      obtain ⟨u11, hu11, h⟩ := h
      refine k_reg (r_gq [(0, .d false [.sl none (a0.map (eF eI))]), (1, .p (iV a1)), (6, .ov false [.sl (some 3) ((x6.1 ++ [v9]).map eI)]), (7, .p (iV x6.2))] [(3, {fix := some (30, .ov false [.sl (some 3) ((x6.1 ++ [v9]).map eI)])})] (A3 (show List.length ((x6.1.map eI) : List (List C)) + List.length ((([v9]).map eI) : List (List C)) ≤ 1099511627776 from (by have hg := (yca hu11); simpa using hg)) (show ∀ row ∈ ((([v9]).map eI) : List (List C)), row.length = 1 from (yua fun _ => rfl)) (show (SV.ov false [.sl (some 3) ((x6.1.map eI) ++ (([v9]).map eI))] : SV) = .ov false [.sl (some 3) ((x6.1 ++ [v9]).map eI)] from (congrArg (fun z => SV.ov false [.sl (some 3) z]) (List.map_append ..).symm)))) ?_
      refine b_n ?_
      refine q_n ?_
      refine k_reg (r_gq [(0, .d false [.sl none (a0.map (eF eI))]), (1, .p (iV a1)), (6, .ov false [.sl (some 3) ((x6.1 ++ [v9]).map eI)]), (7, .p (iV (w64 (x6.2 + 1))))] [] trivial) ?_
      exact lqn ((x6.1 ++ [v9]), (w64 (x6.2 + 1))) h
    ·replace h := ite_f hc5_7 h
     refine k_exit ?_
     refine q_x ?_
     refine lq_x ?_
     refine b_x ?_
     have hyy := hy_x6 _ (oi h).symm
     subst hyy
     have h := hk_x6
     dsimp only [Sum.elim] at h
     refine q_n ?_
     exact jx x6.1 h
theorem wk_impl_CycleCount {a0 : (List (List Int))} {a1 : Int}  {r : (Int × Bool)} (h : impl_CycleCount a0 a1 = some r) : Meets Try.prog 24 [.d false [.sl none (a0.map (eF eI))], wI a1] { vals := [.p (iV r.1), .p (.bool r.2)] } := by
 refine mo Try.func24 [(0, .d false [.sl none (a0.map (eF eI))]), (1, .p (iV a1))] ?_
 unfold impl_CycleCount at h
 refine k_sreg (r_gq [(0, .d false [.sl none (a0.map (eF eI))]), (1, .p (iV a1))] [] trivial) ?_
 refine k_seq ?_
 replace h := bs h
 obtain ⟨v1, hv1, h⟩ := h
 refine k_sreg (r_gq [(0, .d false [.sl none (a0.map (eF eI))]), (1, .p (iV a1)), (9, .p (.bool (!v1)))] [(2, {call := some (none, [.p (.bool v1)], true)})] (A1 (wk_impl_isLength hv1))) ?_
 refine kc (!v1) (fun hc2_1 => ?_) (fun hc2_1 => ?_)
 ·replace h := ite_t hc2_1 h
  refine k_sreg (r_gq [(4, .p (iV 0)), (5, .p (.bool false))] [] trivial) ?_
  refine k_ret ?_
  refine q_r ?_
  obtain rfl := oi h
  exact er [(.p (iV 0), 4), (.p (.bool false), 5)]
 ·replace h := ite_f hc2_1 h
  refine k_skip ?_
  refine q_n ?_
  replace h := bs h
  obtain ⟨v3, hv3, h⟩ := h
  refine k_sreg (r_gq [(4, .p (iV v3.1)), (5, .p (.bool v3.2))] [(2, {call := some (none, [.p (iV v3.1), .p (.bool v3.2)], true)})] (A1 (wk_impl_cycleCount hv3))) ?_
  refine k_ret ?_
  obtain rfl := oi h
  exact er [(.p (iV v3.1), 4), (.p (.bool v3.2), 5)]
theorem wk_impl_EulerProduct_1 {a0 : Int}  {r : Bool} (h : impl_EulerProduct_1 a0 = some r) : Meets Try.prog 86 [wI a0] { vals := [.p (.bool r)] } := by
 refine mo Try.func86 [(0, .p (iV a0))] ?_
 unfold impl_EulerProduct_1 at h
 refine k_sreg (r_gq [(0, .p (iV a0))] [] trivial) ?_
 replace h := bs h
 obtain ⟨v1, hv1, h⟩ := h
 refine k_sreg (r_gq [(2, .p (.bool (!v1)))] [(1, {call := some (none, [.p (.bool v1)], true)})] (A1 (wk_impl_within hv1))) ?_
 refine k_ret ?_
 obtain rfl := oi h
 exact er [(.p (.bool (!v1)), 2)]
theorem wk_impl_EulerProduct_2 {a0 : Int}  {r : Bool} (h : impl_EulerProduct_2 a0 = some r) : Meets Try.prog 87 [wI a0] { vals := [.p (.bool r)] } := by
 refine mo Try.func87 [(0, .p (iV a0))] ?_
 unfold impl_EulerProduct_2 at h
 refine k_sreg (r_gq [(0, .p (iV a0))] [] trivial) ?_
 replace h := bs h
 obtain ⟨v1, hv1, h⟩ := h
 refine k_sreg (r_gq [(2, .p (.bool (!v1)))] [(1, {call := some (none, [.p (.bool v1)], true)})] (A1 (wk_impl_within hv1))) ?_
 refine k_ret ?_
 obtain rfl := oi h
 exact er [(.p (.bool (!v1)), 2)]
theorem wk_impl_EulerProduct {a0 : (List Int)}  {r : ((List Int) × Bool)} (h : impl_EulerProduct a0 = some r) : Meets Try.prog 25 [.d false [.sl none (a0.map eI)]] { vals := [.ov false [.sl (some 3) (r.1.map eI)], .p (.bool r.2)] } := by
 refine mo Try.func25 [(0, .d false [.sl none (a0.map eI)])] ?_
 unfold impl_EulerProduct at h
 refine k_sreg (r_gq [(0, .d false [.sl none (a0.map eI)])] [] trivial) ?_
 refine k_seq ?_
 replace h := bs h
 obtain ⟨v1, hv1, h⟩ := h
 replace h := bs h
 obtain ⟨w3, hw3, h⟩ := h
 refine k_sreg (l1 := [(0, .d false [.sl none (a0.map eI)]), (15, .p (.bool w3))]) ?_ ?_
 ·clear h
  rcases ft (!v1) with ha0 | ha0
  ·replace hw3 := ite_t ha0 hw3
   have hw3 := oi hw3
   subst hw3
   exact (r_gq [(0, .d false [.sl none (a0.map eI)]), (15, .p (.bool true))] [(1, {n := some a0.length}), (2, {call := some (none, [.p (.bool v1)], true)}), (5, gT), (6, gT), (7, bT)] (A5 (show (a0.map eI).length = a0.length from (List.length_map ..)) (wk_impl_within hv1) ha0 ha0 ha0))
  ·replace hw3 := ite_f ha0 hw3
   replace hw3 := bs hw3
   obtain ⟨v2, hv2, hw3⟩ := hw3
   have hw3 := oi hw3
   subst hw3
   exact (r_gq [(0, .d false [.sl none (a0.map eI)]), (15, .p (.bool v2))] [(1, {n := some a0.length}), (2, {call := some (none, [.p (.bool v1)], true)}), (5, gF), (6, {g := some false, call := some (none, [.p (.bool v2)], true)}), (7, bF)] (A6 (show (a0.map eI).length = a0.length from (List.length_map ..)) (wk_impl_within hv1) ha0 ha0 (show Meets Try.prog 85 ([.d false [.sl none (a0.map eI)], .v (.func (.func 86) #[] #[])] ++ []) { vals := [.p (.bool v2)] } from (wk_slices_ContainsFunc_Lint_int_v (fun x0 y hy => wk_impl_EulerProduct_1 hy) hv2)) ha0))
 ·refine kc w3 (fun hc2_3 => ?_) (fun hc2_3 => ?_)
  ·replace h := ite_t hc2_3 h
   refine k_sreg (r_gq [(2, .ov false [.sl (some 3) []]), (3, .p (.bool false))] [] trivial) ?_
   refine k_ret ?_
   refine q_r ?_
   obtain rfl := oi h
   exact er [(.ov false [.sl (some 3) []], 2), (.p (.bool false), 3)]
  ·replace h := ite_f hc2_3 h
   refine k_skip ?_
   refine q_n ?_
   replace h := bs h
   obtain ⟨u5, hu5, h⟩ := h
   refine k_sreg (r_gq [(0, .d false [.sl none (a0.map eI)]), (4, .ov false [.sl (some 3) ((List.replicate (Int.toNat (w64 ((a0.length : Int) + 1))) (0 : Int)).map eI)])] [(1, {n := some a0.length}), (3, {fix := some (19, .ov false [.sl (some 3) ((List.replicate (Int.toNat (w64 ((a0.length : Int) + 1))) (0 : Int)).map eI)])})] (A5 (show (a0.map eI).length = a0.length from (List.length_map ..)) (show (w64 ((a0.length : Int) + 1)) = (w64 ((a0.length : Int) + 1)) from rfl) (yca hu5).1 (yca hu5).2 (show (SV.ov false [.sl (some 3) (List.replicate (Int.toNat (w64 ((a0.length : Int) + 1))) [rI 0])] : SV) = .ov false [.sl (some 3) ((List.replicate (Int.toNat (w64 ((a0.length : Int) + 1))) (0 : Int)).map eI)] from (congrArg (fun z => SV.ov false [.sl (some 3) z]) (rep_fix eI (0 : Int)))))) ?_
   replace h := bs h
   obtain ⟨v6, hv6, h⟩ := h
   refine k_sreg (r_gq [(0, .d false [.sl none (a0.map eI)]), (4, .ov false [.sl (some 3) (((List.replicate (Int.toNat (w64 ((a0.length : Int) + 1))) (0 : Int)).set (Int.toNat 0) 1).map eI)])] [(1, {row := some (eI v6)}), (2, {row := some (eI v6), fix := some (4, .ov false [.sl (some 3) (((List.replicate (Int.toNat (w64 ((a0.length : Int) + 1))) (0 : Int)).set (Int.toNat 0) 1).map eI)])})] (A4 (yba hv6).1 (map_get eI (yba hv6).2) (show getRow [[.sl (some 3) ((List.replicate (Int.toNat (w64 ((a0.length : Int) + 1))) (0 : Int)).map eI)]] [(0, 0), ((Int.toNat 0), 0)] = some (eI v6) from ((gr0 rfl).trans (gre (map_get eI (yba hv6).2)))) (show (SV.ov false [.sl (some 3) (setL ((List.replicate (Int.toNat (w64 ((a0.length : Int) + 1))) (0 : Int)).map eI) [((Int.toNat 0), 0)] [rI 1])] : SV) = .ov false [.sl (some 3) (((List.replicate (Int.toNat (w64 ((a0.length : Int) + 1))) (0 : Int)).set (Int.toNat 0) 1).map eI)] from (congrArg (fun z => SV.ov false [.sl (some 3) z]) (set1 (f := eI) (y := 1) (yba hv6).2 rfl))))) ?_
   refine k_join (J := fun (x : (List Int)) => [(4, .ov false [.sl (some 3) (x.map eI)])]) (K := fun x => impl_EulerProduct_k1 x = some r) (fun x7 h => ?_) ?_
   ·unfold impl_EulerProduct_k1 at h
    refine k_seq ?_
    replace h := bs h
    obtain ⟨v8, hv8, h⟩ := h
    refine k_sreg (r_gq [(4, .ov false [.sl (some 3) (x7.map eI)]), (55, .p (.bool v8))] [(1, {call := some (some [.d false [.sl none (x7.map eI)], .v (.func (.func 87) #[] #[])], [.p (.bool v8)], true)})] (A2 (show ([.d false [.sl none (eraL (x7.map eI))], .v (.func (.func 87) #[] #[])] : List Arg) = [.d false [.sl none (x7.map eI)], .v (.func (.func 87) #[] #[])] from (by simp only [yea (h := eI) er_I])) (show Meets Try.prog 85 ([.d false [.sl none (x7.map eI)], .v (.func (.func 87) #[] #[])] ++ []) { vals := [.p (.bool v8)] } from (wk_slices_ContainsFunc_Lint_int_v (fun x0 y hy => wk_impl_EulerProduct_2 hy) hv8)))) ?_
    refine kc v8 (fun hc2_8 => ?_) (fun hc2_8 => ?_)
    ·replace h := ite_t hc2_8 h
     refine k_sreg (r_gq [(2, .ov false [.sl (some 3) []]), (3, .p (.bool false))] [] trivial) ?_
     refine k_ret ?_
     refine q_r ?_
     obtain rfl := oi h
     exact er [(.ov false [.sl (some 3) []], 2), (.p (.bool false), 3)]
    ·replace h := ite_f hc2_8 h
     refine k_skip ?_
     refine q_n ?_
     refine k_sreg (r_gq [(2, .ov false [.sl (some 3) (x7.map eI)]), (3, .p (.bool true))] [] trivial) ?_
     refine k_ret ?_
     obtain rfl := oi h
     exact er [(.ov false [.sl (some 3) (x7.map eI)], 2), (.p (.bool true), 3)]
   ·refine k_sreg (r_gq [(0, .d false [.sl none (a0.map eI)]), (4, .ov false [.sl (some 3) (((List.replicate (Int.toNat (w64 ((a0.length : Int) + 1))) (0 : Int)).set (Int.toNat 0) 1).map eI)]), (22, .d false [.sl none (a0.map eI)]), (23, .p (iV (a0.length : Int))), (24, .p (iV 0))] [(1, {n := some a0.length})] (A1 (show (a0.map eI).length = a0.length from (List.length_map ..)))) ?_
    refine k_block ?_
    obtain ⟨y11, hl_x10, hk_x10⟩ := bs h
    clear h
    refine k_loop (J := fun (x : ((List Int) × Int)) => [(0, .d false [.sl none (a0.map eI)]), (4, .ov false [.sl (some 3) (x.1.map eI)]), (22, .d false [.sl none (a0.map eI)]), (23, .p (iV (a0.length : Int))), (24, .p (iV x.2))]) hl_x10 (wk_of (by kernel_rfl) (by kernel_rfl)) (fun x10 o_x10 h hy_x10 => ?_)
    unfold impl_EulerProduct_b1 at h
    refine k_sreg (r_gq [(0, .d false [.sl none (a0.map eI)]), (4, .ov false [.sl (some 3) (x10.1.map eI)]), (22, .d false [.sl none (a0.map eI)]), (23, .p (iV (a0.length : Int))), (24, .p (iV x10.2)), (25, .p (.bool (decide (x10.2 < (a0.length : Int)))))] [] trivial) ?_
    refine k_seq ?_
    refine kc (decide (x10.2 < (a0.length : Int))) (fun hc5_11 => ?_) (fun hc5_11 => ?_)
    ·replace h := ite_t hc5_11 h
     refine k_skip ?_
     refine q_n ?_
     refine k_join (J := fun (x : (List Int)) => [(0, .d false [.sl none (a0.map eI)]), (4, .ov false [.sl (some 3) (x.map eI)]), (22, .d false [.sl none (a0.map eI)]), (23, .p (iV (a0.length : Int))), (24, .p (iV x10.2))]) (K := fun x => impl_EulerProduct_k2 x10 x = some o_x10) (fun x13 h => ?_) ?_
     ·unfold impl_EulerProduct_k2 at h
      refine k_reg (r_gq [(0, .d false [.sl none (a0.map eI)]), (4, .ov false [.sl (some 3) (x13.map eI)]), (22, .d false [.sl none (a0.map eI)]), (23, .p (iV (a0.length : Int))), (24, .p (iV (w64 (x10.2 + 1))))] [] trivial) ?_
      exact lqn (x13, (w64 (x10.2 + 1))) h
     ·refine k_block ?_
      replace h := bs h
      obtain ⟨v14, hv14, h⟩ := h
      refine k_sreg (r_gq [(0, .d false [.sl none (a0.map eI)]), (4, .ov false [.sl (some 3) (x10.1.map eI)]), (5, .p (iV x10.2)), (6, .p (iV v14)), (22, .d false [.sl none (a0.map eI)]), (23, .p (iV (a0.length : Int))), (24, .p (iV x10.2))] [(1, {row := some (eI v14)})] (A2 (yba hv14).1 (map_get eI (yba hv14).2))) ?_
      refine k_sreg (r_gq [(0, .d false [.sl none (a0.map eI)]), (4, .ov false [.sl (some 3) (x10.1.map eI)]), (5, .p (iV x10.2)), (22, .d false [.sl none (a0.map eI)]), (23, .p (iV (a0.length : Int))), (24, .p (iV x10.2)), (29, .p (iV v14)), (30, .p (iV 0))] [] trivial) ?_
      refine k_block ?_
      obtain ⟨y16, hl_x15, hk_x15⟩ := bs h
      clear h
      refine k_loop (J := fun (x : ((List Int) × Int)) => [(0, .d false [.sl none (a0.map eI)]), (4, .ov false [.sl (some 3) (x.1.map eI)]), (5, .p (iV x10.2)), (22, .d false [.sl none (a0.map eI)]), (23, .p (iV (a0.length : Int))), (24, .p (iV x10.2)), (29, .p (iV v14)), (30, .p (iV x.2))]) hl_x15 (wk_of (by kernel_rfl) (by kernel_rfl)) (fun x15 o_x15 h hy_x15 => ?_)
      unfold impl_EulerProduct_b2 at h
      refine k_sreg (r_gq [(0, .d false [.sl none (a0.map eI)]), (4, .ov false [.sl (some 3) (x15.1.map eI)]), (5, .p (iV x10.2)), (22, .d false [.sl none (a0.map eI)]), (23, .p (iV (a0.length : Int))), (24, .p (iV x10.2)), (29, .p (iV v14)), (30, .p (iV x15.2)), (31, .p (.bool (decide (x15.2 < v14))))] [] trivial) ?_
      refine k_seq ?_
      refine kc (decide (x15.2 < v14)) (fun hc9_16 => ?_) (fun hc9_16 => ?_)
      ·replace h := ite_t hc9_16 h
       refine k_skip ?_
       refine q_n ?_
       refine k_join (J := fun (x : (List Int)) => [(0, .d false [.sl none (a0.map eI)]), (4, .ov false [.sl (some 3) (x.map eI)]), (5, .p (iV x10.2)), (22, .d false [.sl none (a0.map eI)]), (23, .p (iV (a0.length : Int))), (24, .p (iV x10.2)), (29, .p (iV v14)), (30, .p (iV x15.2))]) (K := fun x => impl_EulerProduct_k3 x15 x = some o_x15) (fun x18 h => ?_) ?_
       ·unfold impl_EulerProduct_k3 at h
        refine k_reg (r_gq [(0, .d false [.sl none (a0.map eI)]), (4, .ov false [.sl (some 3) (x18.map eI)]), (5, .p (iV x10.2)), (22, .d false [.sl none (a0.map eI)]), (23, .p (iV (a0.length : Int))), (24, .p (iV x10.2)), (29, .p (iV v14)), (30, .p (iV (w64 (x15.2 + 1))))] [] trivial) ?_
        exact lqn (x18, (w64 (x15.2 + 1))) h
       ·refine k_block ?_
        refine k_sreg (r_gq [(0, .d false [.sl none (a0.map eI)]), (4, .ov false [.sl (some 3) (x15.1.map eI)]), (5, .p (iV x10.2)), (7, .p (iV (a0.length : Int))), (22, .d false [.sl none (a0.map eI)]), (23, .p (iV (a0.length : Int))), (24, .p (iV x10.2)), (29, .p (iV v14)), (30, .p (iV x15.2))] [(1, {n := some a0.length})] (A1 (show (a0.map eI).length = a0.length from (List.length_map ..)))) ?_
        refine k_block ?_
        obtain ⟨y20, hl_x19, hk_x19⟩ := bs h
        clear h
        refine k_loop (J := fun (x : ((List Int) × Int)) => [(0, .d false [.sl none (a0.map eI)]), (4, .ov false [.sl (some 3) (x.1.map eI)]), (5, .p (iV x10.2)), (7, .p (iV x.2)), (22, .d false [.sl none (a0.map eI)]), (23, .p (iV (a0.length : Int))), (24, .p (iV x10.2)), (29, .p (iV v14)), (30, .p (iV x15.2))]) hl_x19 (wk_of (by kernel_rfl) (by kernel_rfl)) (fun x19 o_x19 h hy_x19 => ?_)
        unfold impl_EulerProduct_b3 at h
        refine k_seq ?_
        refine k_sreg (r_gq [(0, .d false [.sl none (a0.map eI)]), (4, .ov false [.sl (some 3) (x19.1.map eI)]), (5, .p (iV x10.2)), (7, .p (iV x19.2)), (22, .d false [.sl none (a0.map eI)]), (23, .p (iV (a0.length : Int))), (24, .p (iV x10.2)), (29, .p (iV v14)), (30, .p (iV x15.2)), (36, .p (.bool (decide (x19.2 > x10.2))))] [] trivial) ?_
        refine kc (decide (x19.2 > x10.2)) (fun hc13_20 => ?_) (fun hc13_20 => ?_)
        ·replace h := ite_t hc13_20 h
         refine k_skip ?_
         refine q_n ?_
         refine k_seq ?_
         refine k_block ?_
         replace h := bs h
         obtain ⟨v22, hv22, h⟩ := h
         replace h := bs h
         obtain ⟨v23, hv23, h⟩ := h
         refine k_reg (r_dq Try_mixed 11 [] [(0, .d false [.sl none (a0.map eI)]), (4, .ov false [.sl (some 3) ((x19.1.set (Int.toNat x19.2) (w64 (v22 - v23))).map eI)]), (5, .p (iV x10.2)), (7, .p (iV x19.2)), (22, .d false [.sl none (a0.map eI)]), (23, .p (iV (a0.length : Int))), (24, .p (iV x10.2)), (29, .p (iV v14)), (30, .p (iV x15.2))] [(2, {row := some (eI v22)}), (3, {row := some (eI v22)}), (9, {row := some (eI v23)}), (10, {row := some (eI v23)}), (12, {row := some (eI v22)}), (13, {row := some (eI v22), fix := some (4, .ov false [.sl (some 3) ((x19.1.set (Int.toNat x19.2) (w64 (v22 - v23))).map eI)])})] (B6 (yba hv22).1 (map_get eI (yba hv22).2) (show getRow [[.sl (some 3) (x19.1.map eI)]] [(0, 0), ((Int.toNat x19.2), 0)] = some (eI v22) from ((gr0 rfl).trans (gre (map_get eI (yba hv22).2)))) (yba hv23).1 (map_get eI (yba hv23).2) (show getRow [[.sl (some 3) (x19.1.map eI)]] [(0, 0), ((Int.toNat (w64 ((w64 (x19.2 - x10.2)) - 1))), 0)] = some (eI v23) from ((gr0 rfl).trans (gre (map_get eI (yba hv23).2)))) (A4 (yba hv22).1 (map_get eI (yba hv22).2) (show getRow [[.sl (some 3) (x19.1.map eI)]] [(0, 0), ((Int.toNat x19.2), 0)] = some (eI v22) from ((gr0 rfl).trans (gre (map_get eI (yba hv22).2)))) (show (SV.ov false [.sl (some 3) (setL (x19.1.map eI) [((Int.toNat x19.2), 0)] [rI (w64 (v22 - v23))])] : SV) = .ov false [.sl (some 3) ((x19.1.set (Int.toNat x19.2) (w64 (v22 - v23))).map eI)] from (congrArg (fun z => SV.ov false [.sl (some 3) z]) (set1 (f := eI) (y := (w64 (v22 - v23))) (yba hv22).2 rfl)))))) ?_
         refine b_n ?_
         refine q_n ?_
         refine k_reg (r_gq [(0, .d false [.sl none (a0.map eI)]), (4, .ov false [.sl (some 3) ((x19.1.set (Int.toNat x19.2) (w64 (v22 - v23))).map eI)]), (5, .p (iV x10.2)), (7, .p (iV (w64 (x19.2 - 1)))), (22, .d false [.sl none (a0.map eI)]), (23, .p (iV (a0.length : Int))), (24, .p (iV x10.2)), (29, .p (iV v14)), (30, .p (iV x15.2))] [] trivial) ?_
         exact lqn ((x19.1.set (Int.toNat x19.2) (w64 (v22 - v23))), (w64 (x19.2 - 1))) h
        ·replace h := ite_f hc13_20 h
         refine k_exit ?_
         refine q_x ?_
         refine lq_x ?_
         refine b_x ?_
         refine b_n ?_
         have hyy := hy_x19 _ (oi h).symm
         subst hyy
         have h := hk_x19
         refine q_n ?_
         exact jx x19.1 h
      ·replace h := ite_f hc9_16 h
       refine k_exit ?_
       refine q_x ?_
       refine lq_x ?_
       refine b_x ?_
       refine b_n ?_
       have hyy := hy_x15 _ (oi h).symm
       subst hyy
       have h := hk_x15
       refine q_n ?_
       exact jx x15.1 h
    ·replace h := ite_f hc5_11 h
     refine k_exit ?_
     refine q_x ?_
     refine lq_x ?_
     refine b_x ?_
     have hyy := hy_x10 _ (oi h).symm
     subst hyy
     have h := hk_x10
     refine q_n ?_
     exact jx x10.1 h
theorem wk_spec_EulerProduct {a0 : (List Int)}  {r : ((List Int) × Bool)} (h : spec_EulerProduct a0 = some r) : Meets Try.prog 26 [.d false [.sl none (a0.map eI)]] { vals := [.ov false [.sl (some 3) (r.1.map eI)], .p (.bool r.2)] } := by
 refine mo Try.func26 [(0, .d false [.sl none (a0.map eI)])] ?_
 unfold spec_EulerProduct at h
 refine k_sreg (r_gq [(0, .d false [.sl none (a0.map eI)])] [] trivial) ?_
 refine k_sreg (r_gq [(0, .d false [.sl none (a0.map eI)]), (4, .p (iV (a0.length : Int)))] [(1, {n := some a0.length})] (A1 (show (a0.map eI).length = a0.length from (List.length_map ..)))) ?_
 refine k_seq ?_
 replace h := bs h
 obtain ⟨v1, hv1, h⟩ := h
 replace h := bs h
 obtain ⟨w3, hw3, h⟩ := h
 refine k_sreg (l1 := [(0, .d false [.sl none (a0.map eI)]), (4, .p (iV (a0.length : Int))), (19, .p (.bool w3))]) ?_ ?_
 ·clear h
  rcases ft (!v1) with ha0 | ha0
  ·replace hw3 := ite_t ha0 hw3
   have hw3 := oi hw3
   subst hw3
   exact (r_gq [(0, .d false [.sl none (a0.map eI)]), (4, .p (iV (a0.length : Int))), (19, .p (.bool true))] [(1, {call := some (none, [.p (.bool v1)], true)}), (4, gT), (5, gT), (6, gT), (7, bT)] (A5 (wk_spec_l1In hv1) ha0 ha0 ha0 ha0))
  ·replace hw3 := ite_f ha0 hw3
   replace hw3 := bs hw3
   obtain ⟨v2, hv2, hw3⟩ := hw3
   have hw3 := oi hw3
   subst hw3
   exact (r_gq [(0, .d false [.sl none (a0.map eI)]), (4, .p (iV (a0.length : Int))), (19, .p (.bool (!v2)))] [(1, {call := some (none, [.p (.bool v1)], true)}), (4, gF), (5, {g := some false, call := some (none, [.p (.bool v2)], true)}), (6, gF), (7, bF)] (A6 (wk_spec_l1In hv1) ha0 ha0 (wk_spec_l1All hv2) ha0 ha0))
 ·refine kc w3 (fun hc2_3 => ?_) (fun hc2_3 => ?_)
  ·replace h := ite_t hc2_3 h
   refine k_sreg (r_gq [(2, .ov false [.sl (some 3) []]), (3, .p (.bool false))] [] trivial) ?_
   refine k_ret ?_
   refine q_r ?_
   obtain rfl := oi h
   exact er [(.ov false [.sl (some 3) []], 2), (.p (.bool false), 3)]
  ·replace h := ite_f hc2_3 h
   refine k_skip ?_
   refine q_n ?_
   replace h := bs h
   obtain ⟨u5, hu5, h⟩ := h
   refine k_sreg (r_gq [(0, .d false [.sl none (a0.map eI)]), (4, .p (iV (a0.length : Int))), (5, .ov false [.sl (some 3) ((List.replicate (Int.toNat (w64 ((a0.length : Int) + 1))) (0 : Int)).map eI)])] [(2, {fix := some (22, .ov false [.sl (some 3) ((List.replicate (Int.toNat (w64 ((a0.length : Int) + 1))) (0 : Int)).map eI)])})] (A4 (show (w64 ((a0.length : Int) + 1)) = (w64 ((a0.length : Int) + 1)) from rfl) (yca hu5).1 (yca hu5).2 (show (SV.ov false [.sl (some 3) (List.replicate (Int.toNat (w64 ((a0.length : Int) + 1))) [rI 0])] : SV) = .ov false [.sl (some 3) ((List.replicate (Int.toNat (w64 ((a0.length : Int) + 1))) (0 : Int)).map eI)] from (congrArg (fun z => SV.ov false [.sl (some 3) z]) (rep_fix eI (0 : Int)))))) ?_
   replace h := bs h
   obtain ⟨v6, hv6, h⟩ := h
   refine k_sreg (r_gq [(0, .d false [.sl none (a0.map eI)]), (4, .p (iV (a0.length : Int))), (5, .ov false [.sl (some 3) (((List.replicate (Int.toNat (w64 ((a0.length : Int) + 1))) (0 : Int)).set (Int.toNat 0) 1).map eI)])] [(1, {row := some (eI v6)}), (2, {row := some (eI v6), fix := some (5, .ov false [.sl (some 3) (((List.replicate (Int.toNat (w64 ((a0.length : Int) + 1))) (0 : Int)).set (Int.toNat 0) 1).map eI)])})] (A4 (yba hv6).1 (map_get eI (yba hv6).2) (show getRow [[.sl (some 3) ((List.replicate (Int.toNat (w64 ((a0.length : Int) + 1))) (0 : Int)).map eI)]] [(0, 0), ((Int.toNat 0), 0)] = some (eI v6) from ((gr0 rfl).trans (gre (map_get eI (yba hv6).2)))) (show (SV.ov false [.sl (some 3) (setL ((List.replicate (Int.toNat (w64 ((a0.length : Int) + 1))) (0 : Int)).map eI) [((Int.toNat 0), 0)] [rI 1])] : SV) = .ov false [.sl (some 3) (((List.replicate (Int.toNat (w64 ((a0.length : Int) + 1))) (0 : Int)).set (Int.toNat 0) 1).map eI)] from (congrArg (fun z => SV.ov false [.sl (some 3) z]) (set1 (f := eI) (y := 1) (yba hv6).2 rfl))))) ?_
   refine k_join (J := fun (x : (List Int)) => [(5, .ov false [.sl (some 3) (x.map eI)])]) (K := fun x => spec_EulerProduct_k1 x = some r) (fun x7 h => ?_) ?_
   ·unfold spec_EulerProduct_k1 at h
    refine k_seq ?_
    replace h := bs h
    obtain ⟨v8, hv8, h⟩ := h
    refine k_sreg (r_gq [(5, .ov false [.sl (some 3) (x7.map eI)]), (59, .p (.bool (!v8)))] [(1, {call := some (some [.d false [.sl none (x7.map eI)], wI (-1000000), wI 1000000], [.p (.bool v8)], true)})] (A2 (show ([.d false [.sl none (eraL (x7.map eI))], wI (-1000000), wI 1000000] : List Arg) = [.d false [.sl none (x7.map eI)], wI (-1000000), wI 1000000] from (by simp only [yea (h := eI) er_I])) (wk_spec_l1All hv8))) ?_
    refine kc (!v8) (fun hc2_8 => ?_) (fun hc2_8 => ?_)
    ·replace h := ite_t hc2_8 h
     refine k_sreg (r_gq [(2, .ov false [.sl (some 3) []]), (3, .p (.bool false))] [] trivial) ?_
     refine k_ret ?_
     refine q_r ?_
     obtain rfl := oi h
     exact er [(.ov false [.sl (some 3) []], 2), (.p (.bool false), 3)]
    ·replace h := ite_f hc2_8 h
     refine k_skip ?_
     refine q_n ?_
     refine k_sreg (r_gq [(2, .ov false [.sl (some 3) (x7.map eI)]), (3, .p (.bool true))] [] trivial) ?_
     refine k_ret ?_
     obtain rfl := oi h
     exact er [(.ov false [.sl (some 3) (x7.map eI)], 2), (.p (.bool true), 3)]
   ·refine k_sreg (r_gq [(4, .p (iV (a0.length : Int))), (5, .ov false [.sl (some 3) (((List.replicate (Int.toNat (w64 ((a0.length : Int) + 1))) (0 : Int)).set (Int.toNat 0) 1).map eI)]), (25, .d false [.sl none (a0.map eI)]), (26, .p (iV (a0.length : Int))), (27, .p (iV 0))] [(1, {n := some a0.length})] (A1 (show (a0.map eI).length = a0.length from (List.length_map ..)))) ?_
    refine k_block ?_
    obtain ⟨y11, hl_x10, hk_x10⟩ := bs h
    clear h
    refine k_loop (J := fun (x : ((List Int) × Int)) => [(4, .p (iV (a0.length : Int))), (5, .ov false [.sl (some 3) (x.1.map eI)]), (25, .d false [.sl none (a0.map eI)]), (26, .p (iV (a0.length : Int))), (27, .p (iV x.2))]) hl_x10 (wk_of (by kernel_rfl) (by kernel_rfl)) (fun x10 o_x10 h hy_x10 => ?_)
    unfold spec_EulerProduct_b1 at h
    refine k_sreg (r_gq [(4, .p (iV (a0.length : Int))), (5, .ov false [.sl (some 3) (x10.1.map eI)]), (25, .d false [.sl none (a0.map eI)]), (26, .p (iV (a0.length : Int))), (27, .p (iV x10.2)), (28, .p (.bool (decide (x10.2 < (a0.length : Int)))))] [] trivial) ?_
    refine k_seq ?_
    refine kc (decide (x10.2 < (a0.length : Int))) (fun hc5_11 => ?_) (fun hc5_11 => ?_)
    ·replace h := ite_t hc5_11 h
     refine k_skip ?_
     refine q_n ?_
     refine k_join (J := fun (x : (List Int)) => [(4, .p (iV (a0.length : Int))), (5, .ov false [.sl (some 3) (x.map eI)]), (25, .d false [.sl none (a0.map eI)]), (26, .p (iV (a0.length : Int))), (27, .p (iV x10.2))]) (K := fun x => spec_EulerProduct_k2 x10 x = some o_x10) (fun x13 h => ?_) ?_
     ·unfold spec_EulerProduct_k2 at h
      refine k_reg (r_gq [(4, .p (iV (a0.length : Int))), (5, .ov false [.sl (some 3) (x13.map eI)]), (25, .d false [.sl none (a0.map eI)]), (26, .p (iV (a0.length : Int))), (27, .p (iV (w64 (x10.2 + 1))))] [] trivial) ?_
      exact lqn (x13, (w64 (x10.2 + 1))) h
     ·refine k_block ?_
      replace h := bs h
      obtain ⟨v14, hv14, h⟩ := h
      refine k_sreg (r_gq [(4, .p (iV (a0.length : Int))), (5, .ov false [.sl (some 3) (x10.1.map eI)]), (6, .p (iV x10.2)), (7, .p (iV v14)), (25, .d false [.sl none (a0.map eI)]), (26, .p (iV (a0.length : Int))), (27, .p (iV x10.2))] [(1, {row := some (eI v14)})] (A2 (yba hv14).1 (map_get eI (yba hv14).2))) ?_
      refine k_sreg (r_gq [(4, .p (iV (a0.length : Int))), (5, .ov false [.sl (some 3) (x10.1.map eI)]), (7, .p (iV v14)), (8, .p (iV (w64 (x10.2 + 1)))), (25, .d false [.sl none (a0.map eI)]), (26, .p (iV (a0.length : Int))), (27, .p (iV x10.2))] [] trivial) ?_
      refine k_block ?_
      obtain ⟨y16, hl_x15, hk_x15⟩ := bs h
      clear h
      refine k_loop (J := fun (x : ((List Int) × Int)) => [(4, .p (iV (a0.length : Int))), (5, .ov false [.sl (some 3) (x.1.map eI)]), (7, .p (iV x.2)), (8, .p (iV (w64 (x10.2 + 1)))), (25, .d false [.sl none (a0.map eI)]), (26, .p (iV (a0.length : Int))), (27, .p (iV x10.2))]) hl_x15 (wk_of (by kernel_rfl) (by kernel_rfl)) (fun x15 o_x15 h hy_x15 => ?_)
      unfold spec_EulerProduct_b2 at h
      refine k_seq ?_
      refine k_sreg (r_gq [(4, .p (iV (a0.length : Int))), (5, .ov false [.sl (some 3) (x15.1.map eI)]), (7, .p (iV x15.2)), (8, .p (iV (w64 (x10.2 + 1)))), (25, .d false [.sl none (a0.map eI)]), (26, .p (iV (a0.length : Int))), (27, .p (iV x10.2)), (35, .p (.bool (decide (x15.2 > 0))))] [] trivial) ?_
      refine kc (decide (x15.2 > 0)) (fun hc9_16 => ?_) (fun hc9_16 => ?_)
      ·replace h := ite_t hc9_16 h
       refine k_skip ?_
       refine q_n ?_
       refine k_join (J := fun (x : (List Int)) => [(4, .p (iV (a0.length : Int))), (5, .ov false [.sl (some 3) (x.map eI)]), (7, .p (iV x15.2)), (8, .p (iV (w64 (x10.2 + 1)))), (25, .d false [.sl none (a0.map eI)]), (26, .p (iV (a0.length : Int))), (27, .p (iV x10.2))]) (K := fun x => spec_EulerProduct_k3 x15 x = some o_x15) (fun x18 h => ?_) ?_
       ·unfold spec_EulerProduct_k3 at h
        refine k_reg (r_gq [(4, .p (iV (a0.length : Int))), (5, .ov false [.sl (some 3) (x18.map eI)]), (7, .p (iV (w64 (x15.2 - 1)))), (8, .p (iV (w64 (x10.2 + 1)))), (25, .d false [.sl none (a0.map eI)]), (26, .p (iV (a0.length : Int))), (27, .p (iV x10.2))] [] trivial) ?_
        exact lqn (x18, (w64 (x15.2 - 1))) h
       ·refine k_block ?_
        refine k_sreg (r_gq [(4, .p (iV (a0.length : Int))), (5, .ov false [.sl (some 3) (x15.1.map eI)]), (7, .p (iV x15.2)), (8, .p (iV (w64 (x10.2 + 1)))), (9, .p (iV (a0.length : Int))), (25, .d false [.sl none (a0.map eI)]), (26, .p (iV (a0.length : Int))), (27, .p (iV x10.2))] [] trivial) ?_
        refine k_block ?_
        obtain ⟨y20, hl_x19, hk_x19⟩ := bs h
        clear h
        refine k_loop (J := fun (x : ((List Int) × Int)) => [(4, .p (iV (a0.length : Int))), (5, .ov false [.sl (some 3) (x.1.map eI)]), (7, .p (iV x15.2)), (8, .p (iV (w64 (x10.2 + 1)))), (9, .p (iV x.2)), (25, .d false [.sl none (a0.map eI)]), (26, .p (iV (a0.length : Int))), (27, .p (iV x10.2))]) hl_x19 (wk_of (by kernel_rfl) (by kernel_rfl)) (fun x19 o_x19 h hy_x19 => ?_)
        unfold spec_EulerProduct_b3 at h
        refine k_seq ?_
        refine k_sreg (r_gq [(4, .p (iV (a0.length : Int))), (5, .ov false [.sl (some 3) (x19.1.map eI)]), (7, .p (iV x15.2)), (8, .p (iV (w64 (x10.2 + 1)))), (9, .p (iV x19.2)), (25, .d false [.sl none (a0.map eI)]), (26, .p (iV (a0.length : Int))), (27, .p (iV x10.2)), (41, .p (.bool (decide (x19.2 ≥ (w64 (x10.2 + 1))))))] [] trivial) ?_
        refine kc (decide (x19.2 ≥ (w64 (x10.2 + 1)))) (fun hc13_20 => ?_) (fun hc13_20 => ?_)
        ·replace h := ite_t hc13_20 h
         refine k_skip ?_
         refine q_n ?_
         refine k_seq ?_
         refine k_block ?_
         replace h := bs h
         obtain ⟨v22, hv22, h⟩ := h
         replace h := bs h
         obtain ⟨v23, hv23, h⟩ := h
         refine k_reg (r_dq Try_mixed 10 [] [(4, .p (iV (a0.length : Int))), (5, .ov false [.sl (some 3) ((x19.1.set (Int.toNat x19.2) (w64 (v22 - v23))).map eI)]), (7, .p (iV x15.2)), (8, .p (iV (w64 (x10.2 + 1)))), (9, .p (iV x19.2)), (25, .d false [.sl none (a0.map eI)]), (26, .p (iV (a0.length : Int))), (27, .p (iV x10.2))] [(2, {row := some (eI v22)}), (3, {row := some (eI v22)}), (8, {row := some (eI v23)}), (9, {row := some (eI v23)}), (11, {row := some (eI v22)}), (12, {row := some (eI v22), fix := some (5, .ov false [.sl (some 3) ((x19.1.set (Int.toNat x19.2) (w64 (v22 - v23))).map eI)])})] (B6 (yba hv22).1 (map_get eI (yba hv22).2) (show getRow [[.sl (some 3) (x19.1.map eI)]] [(0, 0), ((Int.toNat x19.2), 0)] = some (eI v22) from ((gr0 rfl).trans (gre (map_get eI (yba hv22).2)))) (yba hv23).1 (map_get eI (yba hv23).2) (show getRow [[.sl (some 3) (x19.1.map eI)]] [(0, 0), ((Int.toNat (w64 (x19.2 - (w64 (x10.2 + 1))))), 0)] = some (eI v23) from ((gr0 rfl).trans (gre (map_get eI (yba hv23).2)))) (A4 (yba hv22).1 (map_get eI (yba hv22).2) (show getRow [[.sl (some 3) (x19.1.map eI)]] [(0, 0), ((Int.toNat x19.2), 0)] = some (eI v22) from ((gr0 rfl).trans (gre (map_get eI (yba hv22).2)))) (show (SV.ov false [.sl (some 3) (setL (x19.1.map eI) [((Int.toNat x19.2), 0)] [rI (w64 (v22 - v23))])] : SV) = .ov false [.sl (some 3) ((x19.1.set (Int.toNat x19.2) (w64 (v22 - v23))).map eI)] from (congrArg (fun z => SV.ov false [.sl (some 3) z]) (set1 (f := eI) (y := (w64 (v22 - v23))) (yba hv22).2 rfl)))))) ?_
         refine b_n ?_
         refine q_n ?_
         refine k_reg (r_gq [(4, .p (iV (a0.length : Int))), (5, .ov false [.sl (some 3) ((x19.1.set (Int.toNat x19.2) (w64 (v22 - v23))).map eI)]), (7, .p (iV x15.2)), (8, .p (iV (w64 (x10.2 + 1)))), (9, .p (iV (w64 (x19.2 - 1)))), (25, .d false [.sl none (a0.map eI)]), (26, .p (iV (a0.length : Int))), (27, .p (iV x10.2))] [] trivial) ?_
         exact lqn ((x19.1.set (Int.toNat x19.2) (w64 (v22 - v23))), (w64 (x19.2 - 1))) h
        ·replace h := ite_f hc13_20 h
         refine k_exit ?_
         refine q_x ?_
         refine lq_x ?_
         refine b_x ?_
         refine b_n ?_
         have hyy := hy_x19 _ (oi h).symm
         subst hyy
         have h := hk_x19
         refine q_n ?_
         exact jx x19.1 h
      ·replace h := ite_f hc9_16 h
       refine k_exit ?_
       refine q_x ?_
       refine lq_x ?_
       refine b_x ?_
       refine b_n ?_
       have hyy := hy_x15 _ (oi h).symm
       subst hyy
       have h := hk_x15
       refine q_n ?_
       exact jx x15.1 h
    ·replace h := ite_f hc5_11 h
     refine k_exit ?_
     refine q_x ?_
     refine lq_x ?_
     refine b_x ?_
     have hyy := hy_x10 _ (oi h).symm
     subst hyy
     have h := hk_x10
     refine q_n ?_
     exact jx x10.1 h
theorem wk_laws_FnZeta {a0 : (List Int)} {a1 : (List Int)}  {r : Bool} (h : laws_FnZeta a0 a1 = some r) : Meets Try.prog 3 [.d false [.sl none (a0.map (eU .u8))], .d false [.sl none (a1.map (eU .u8))]] { vals := [.p (.bool r)] } := by
 refine mo Try.func3 [(0, .d false [.sl none (a0.map (eU .u8))]), (1, .d false [.sl none (a1.map (eU .u8))])] ?_
 unfold laws_FnZeta at h
 refine k_sreg (r_gq [(0, .d false [.sl none (a0.map (eU .u8))]), (1, .d false [.sl none (a1.map (eU .u8))])] [] trivial) ?_
 refine k_seq ?_
 replace h := bs h
 obtain ⟨v1, hv1, h⟩ := h
 refine k_sreg (r_gq [(0, .d false [.sl none (a0.map (eU .u8))]), (1, .d false [.sl none (a1.map (eU .u8))]), (61, .p (.bool v1))] [(2, {call := some (none, [.p (.bool v1)], true)})] (A1 (wk_laws_big hv1))) ?_
 refine kc v1 (fun hc2_1 => ?_) (fun hc2_1 => ?_)
 ·replace h := ite_t hc2_1 h
  refine k_sreg (r_gq [(4, .p (.bool true))] [] trivial) ?_
  refine k_ret ?_
  refine q_r ?_
  obtain rfl := oi h
  exact er [(.p (.bool true), 4)]
 ·replace h := ite_f hc2_1 h
  refine k_skip ?_
  refine q_n ?_
  replace h := bs h
  obtain ⟨v3, hv3, h⟩ := h
  refine k_sreg (r_gq [(1, .d false [.sl none (a1.map (eU .u8))]), (5, .ov false [.sl (some 26) (v3.map (eO 3 eI))])] [(1, {call := some (none, [.ov false [.sl (some 26) (v3.map (eO 3 eI))]], true)})] (A2 (wk_spec_DrawCharacteristicOf hv3) (show List.all [.ov false [.sl (some 26) (v3.map (eO 3 eI))]] simpleR = true from (sa_o (wnR1 (wnL_enc (wn_O wn_I)) rfl) rfl)))) ?_
  replace h := bs h
  obtain ⟨v4, hv4, h⟩ := h
  refine k_sreg (r_gq [(1, .d false [.sl none (a1.map (eU .u8))]), (5, .ov false [.sl (some 26) (v3.map (eO 3 eI))]), (6, .ov false [.sl (some 3) (v4.1.map eI)]), (7, .p (.bool v4.2))] [(1, {call := some (some [.d false [.sl none (v3.map (eF eI))]], [.ov false [.sl (some 3) (v4.1.map eI)], .p (.bool v4.2)], true)})] (A3 (show ([.d false [.sl none (eraL (v3.map (eO 3 eI)))]] : List Arg) = [.d false [.sl none (v3.map (eF eI))]] from (by simp only [yea (h := (eF eI)) (era_O er_I)])) (wk_impl_CharacteristicOf hv4) (show List.all [.ov false [.sl (some 3) (v4.1.map eI)], .p (.bool v4.2)] simpleR = true from (sa_o (wnR1 (wnL_enc wn_I) rfl) (sa_p rfl))))) ?_
  replace h := bs h
  obtain ⟨v5, hv5, h⟩ := h
  refine k_sreg (r_gq [(1, .d false [.sl none (a1.map (eU .u8))]), (5, .ov false [.sl (some 26) (v3.map (eO 3 eI))]), (6, .ov false [.sl (some 3) (v4.1.map eI)]), (7, .p (.bool v4.2)), (8, .ov false [.sl (some 3) (v5.1.map eI)]), (9, .p (.bool v5.2))] [(1, {call := some (some [.d false [.sl none (v3.map (eF eI))]], [.ov false [.sl (some 3) (v5.1.map eI)], .p (.bool v5.2)], true)})] (A3 (show ([.d false [.sl none (eraL (v3.map (eO 3 eI)))]] : List Arg) = [.d false [.sl none (v3.map (eF eI))]] from (by simp only [yea (h := (eF eI)) (era_O er_I)])) (wk_spec_CharacteristicOf hv5) (show List.all [.ov false [.sl (some 3) (v5.1.map eI)], .p (.bool v5.2)] simpleR = true from (sa_o (wnR1 (wnL_enc wn_I) rfl) (sa_p rfl))))) ?_
  replace h := bs h
  obtain ⟨v6, hv6, h⟩ := h
  refine k_sreg (r_gq [(1, .d false [.sl none (a1.map (eU .u8))]), (5, .ov false [.sl (some 26) (v3.map (eO 3 eI))]), (6, .ov false [.sl (some 3) (v4.1.map eI)]), (7, .p (.bool v4.2)), (8, .ov false [.sl (some 3) (v5.1.map eI)]), (9, .p (.bool v5.2)), (10, .ov false [.sl (some 3) (v6.1.map eI)]), (11, .p (.bool v6.2))] [(1, {call := some (some [.d false [.sl none (v3.map (eF eI))]], [.ov false [.sl (some 3) (v6.1.map eI)], .p (.bool v6.2)], true)})] (A3 (show ([.d false [.sl none (eraL (v3.map (eO 3 eI)))]] : List Arg) = [.d false [.sl none (v3.map (eF eI))]] from (by simp only [yea (h := (eF eI)) (era_O er_I)])) (wk_impl_ZetaDenominator hv6) (show List.all [.ov false [.sl (some 3) (v6.1.map eI)], .p (.bool v6.2)] simpleR = true from (sa_o (wnR1 (wnL_enc wn_I) rfl) (sa_p rfl))))) ?_
  replace h := bs h
  obtain ⟨v7, hv7, h⟩ := h
  refine k_sreg (r_gq [(1, .d false [.sl none (a1.map (eU .u8))]), (5, .ov false [.sl (some 26) (v3.map (eO 3 eI))]), (6, .ov false [.sl (some 3) (v4.1.map eI)]), (7, .p (.bool v4.2)), (8, .ov false [.sl (some 3) (v5.1.map eI)]), (9, .p (.bool v5.2)), (10, .ov false [.sl (some 3) (v6.1.map eI)]), (11, .p (.bool v6.2)), (12, .ov false [.sl (some 3) (v7.1.map eI)]), (13, .p (.bool v7.2))] [(1, {call := some (some [.d false [.sl none (v3.map (eF eI))]], [.ov false [.sl (some 3) (v7.1.map eI)], .p (.bool v7.2)], true)})] (A3 (show ([.d false [.sl none (eraL (v3.map (eO 3 eI)))]] : List Arg) = [.d false [.sl none (v3.map (eF eI))]] from (by simp only [yea (h := (eF eI)) (era_O er_I)])) (wk_spec_ZetaDenominator hv7) (show List.all [.ov false [.sl (some 3) (v7.1.map eI)], .p (.bool v7.2)] simpleR = true from (sa_o (wnR1 (wnL_enc wn_I) rfl) (sa_p rfl))))) ?_
  replace h := bs h
  obtain ⟨v8, hv8, h⟩ := h
  refine k_sreg (r_gq [(1, .d false [.sl none (a1.map (eU .u8))]), (5, .ov false [.sl (some 26) (v3.map (eO 3 eI))]), (6, .ov false [.sl (some 3) (v4.1.map eI)]), (7, .p (.bool v4.2)), (8, .ov false [.sl (some 3) (v5.1.map eI)]), (9, .p (.bool v5.2)), (10, .ov false [.sl (some 3) (v6.1.map eI)]), (11, .p (.bool v6.2)), (12, .ov false [.sl (some 3) (v7.1.map eI)]), (13, .p (.bool v7.2)), (14, .p (iV v8.1)), (15, .p (.bool v8.2))] [(1, {call := some (some [.d false [.sl none (v3.map (eF eI))]], [.p (iV v8.1), .p (.bool v8.2)], true)})] (A2 (show ([.d false [.sl none (eraL (v3.map (eO 3 eI)))]] : List Arg) = [.d false [.sl none (v3.map (eF eI))]] from (by simp only [yea (h := (eF eI)) (era_O er_I)])) (wk_impl_DeterminantOf hv8))) ?_
  replace h := bs h
  obtain ⟨v9, hv9, h⟩ := h
  refine k_sreg (r_gq [(1, .d false [.sl none (a1.map (eU .u8))]), (5, .ov false [.sl (some 26) (v3.map (eO 3 eI))]), (6, .ov false [.sl (some 3) (v4.1.map eI)]), (7, .p (.bool v4.2)), (8, .ov false [.sl (some 3) (v5.1.map eI)]), (9, .p (.bool v5.2)), (10, .ov false [.sl (some 3) (v6.1.map eI)]), (11, .p (.bool v6.2)), (12, .ov false [.sl (some 3) (v7.1.map eI)]), (13, .p (.bool v7.2)), (14, .p (iV v8.1)), (15, .p (.bool v8.2)), (16, .p (iV v9.1)), (17, .p (.bool v9.2))] [(1, {call := some (some [.d false [.sl none (v3.map (eF eI))]], [.p (iV v9.1), .p (.bool v9.2)], true)})] (A2 (show ([.d false [.sl none (eraL (v3.map (eO 3 eI)))]] : List Arg) = [.d false [.sl none (v3.map (eF eI))]] from (by simp only [yea (h := (eF eI)) (era_O er_I)])) (wk_spec_DeterminantOf hv9))) ?_
  replace h := bs h
  obtain ⟨v10, hv10, h⟩ := h
  refine k_sreg (r_gq [(1, .d false [.sl none (a1.map (eU .u8))]), (5, .ov false [.sl (some 26) (v3.map (eO 3 eI))]), (6, .ov false [.sl (some 3) (v4.1.map eI)]), (7, .p (.bool v4.2)), (8, .ov false [.sl (some 3) (v5.1.map eI)]), (9, .p (.bool v5.2)), (10, .ov false [.sl (some 3) (v6.1.map eI)]), (11, .p (.bool v6.2)), (12, .ov false [.sl (some 3) (v7.1.map eI)]), (13, .p (.bool v7.2)), (14, .p (iV v8.1)), (15, .p (.bool v8.2)), (16, .p (iV v9.1)), (17, .p (.bool v9.2)), (18, .p (iV v10.1)), (19, .p (.bool v10.2))] [(1, {call := some (some [.d false [.sl none (v3.map (eF eI))]], [.p (iV v10.1), .p (.bool v10.2)], true)})] (A2 (show ([.d false [.sl none (eraL (v3.map (eO 3 eI)))]] : List Arg) = [.d false [.sl none (v3.map (eF eI))]] from (by simp only [yea (h := (eF eI)) (era_O er_I)])) (wk_impl_TraceOf hv10))) ?_
  replace h := bs h
  obtain ⟨v11, hv11, h⟩ := h
  refine k_sreg (r_gq [(1, .d false [.sl none (a1.map (eU .u8))]), (5, .ov false [.sl (some 26) (v3.map (eO 3 eI))]), (6, .ov false [.sl (some 3) (v4.1.map eI)]), (7, .p (.bool v4.2)), (8, .ov false [.sl (some 3) (v5.1.map eI)]), (9, .p (.bool v5.2)), (10, .ov false [.sl (some 3) (v6.1.map eI)]), (11, .p (.bool v6.2)), (12, .ov false [.sl (some 3) (v7.1.map eI)]), (13, .p (.bool v7.2)), (14, .p (iV v8.1)), (15, .p (.bool v8.2)), (16, .p (iV v9.1)), (17, .p (.bool v9.2)), (18, .p (iV v10.1)), (19, .p (.bool v10.2)), (20, .p (iV v11.1)), (21, .p (.bool v11.2))] [(1, {call := some (some [.d false [.sl none (v3.map (eF eI))]], [.p (iV v11.1), .p (.bool v11.2)], true)})] (A2 (show ([.d false [.sl none (eraL (v3.map (eO 3 eI)))]] : List Arg) = [.d false [.sl none (v3.map (eF eI))]] from (by simp only [yea (h := (eF eI)) (era_O er_I)])) (wk_spec_TraceOf hv11))) ?_
  refine k_seq ?_
  replace h := bs h
  obtain ⟨w14, hw14, h⟩ := h
  refine k_sreg (l1 := [(1, .d false [.sl none (a1.map (eU .u8))]), (5, .ov false [.sl (some 26) (v3.map (eO 3 eI))]), (6, .ov false [.sl (some 3) (v4.1.map eI)]), (7, .p (.bool v4.2)), (8, .ov false [.sl (some 3) (v5.1.map eI)]), (12, .ov false [.sl (some 3) (v7.1.map eI)]), (16, .p (iV v9.1)), (20, .p (iV v11.1)), (160, .p (.bool w14))]) ?_ ?_
  ·clear h
   rcases ft (!(v4.2 == v5.2)) with ha1 | ha1
   ·replace hw14 := ite_t ha1 hw14
    have hw14 := oi hw14
    subst hw14
    exact (r_gq [(1, .d false [.sl none (a1.map (eU .u8))]), (5, .ov false [.sl (some 26) (v3.map (eO 3 eI))]), (6, .ov false [.sl (some 3) (v4.1.map eI)]), (7, .p (.bool v4.2)), (8, .ov false [.sl (some 3) (v5.1.map eI)]), (12, .ov false [.sl (some 3) (v7.1.map eI)]), (16, .p (iV v9.1)), (20, .p (iV v11.1)), (160, .p (.bool true))] [(4, gT), (5, gT), (6, gT), (7, gT), (8, bT), (10, gT), (11, gT), (12, gT), (13, bT), (15, gT), (16, gT), (17, gT), (18, gT), (19, bT), (21, gT), (22, gT), (23, gT), (24, bT), (26, gT), (27, gT), (28, gT), (29, bT), (31, gT), (32, gT), (33, gT), (34, bT), (36, gT), (37, gT), (38, gT), (39, bT), (41, gT), (42, gT), (43, gT), (44, bT), (46, gT), (47, gT), (50, gT), (51, bT), (53, gT), (54, gT), (55, gT), (56, bT)] (B6 ha1 ha1 ha1 ha1 ha1 (show true = true from rfl) (B6 (show true = true from rfl) (show true = true from rfl) (show true = true from rfl) (show true = true from rfl) (show true = true from rfl) (show true = true from rfl) (B6 (show true = true from rfl) (show true = true from rfl) (show true = true from rfl) (show true = true from rfl) (show true = true from rfl) (show true = true from rfl) (B6 (show true = true from rfl) (show true = true from rfl) (show true = true from rfl) (show true = true from rfl) (show true = true from rfl) (show true = true from rfl) (B6 (show true = true from rfl) (show true = true from rfl) (show true = true from rfl) (show true = true from rfl) (show true = true from rfl) (show true = true from rfl) (B6 (show true = true from rfl) (show true = true from rfl) (show true = true from rfl) (show true = true from rfl) (show true = true from rfl) (show true = true from rfl) (A6 (show true = true from rfl) (show true = true from rfl) (show true = true from rfl) (show true = true from rfl) (show true = true from rfl) (show true = true from rfl)))))))))
   ·replace hw14 := ite_f ha1 hw14
    replace hw14 := bs hw14
    obtain ⟨v12, hv12, hw14⟩ := hw14
    rcases ft (!v12) with ha2 | ha2
    ·replace hw14 := ite_t ha2 hw14
     have hw14 := oi hw14
     subst hw14
     exact (r_gq [(1, .d false [.sl none (a1.map (eU .u8))]), (5, .ov false [.sl (some 26) (v3.map (eO 3 eI))]), (6, .ov false [.sl (some 3) (v4.1.map eI)]), (7, .p (.bool v4.2)), (8, .ov false [.sl (some 3) (v5.1.map eI)]), (12, .ov false [.sl (some 3) (v7.1.map eI)]), (16, .p (iV v9.1)), (20, .p (iV v11.1)), (160, .p (.bool true))] [(4, gF), (5, gF), (6, {g := some false, call := some (some [.d false [.sl none (v4.1.map eI)], .d false [.sl none (v5.1.map eI)]], [.p (.bool v12)], true)}), (7, gF), (8, bF), (10, gT), (11, gT), (12, gT), (13, bT), (15, gT), (16, gT), (17, gT), (18, gT), (19, bT), (21, gT), (22, gT), (23, gT), (24, bT), (26, gT), (27, gT), (28, gT), (29, bT), (31, gT), (32, gT), (33, gT), (34, bT), (36, gT), (37, gT), (38, gT), (39, bT), (41, gT), (42, gT), (43, gT), (44, bT), (46, gT), (47, gT), (50, gT), (51, bT), (53, gT), (54, gT), (55, gT), (56, bT)] (B6 ha1 ha1 ha1 (show ([.d false [.sl none (eraL (v4.1.map eI))], .d false [.sl none (eraL (v5.1.map eI))]] : List Arg) = [.d false [.sl none (v4.1.map eI)], .d false [.sl none (v5.1.map eI)]] from (by simp only [yea (h := eI) er_I, yea (h := eI) er_I])) (wk_laws_sameInts hv12) ha1 (B6 ha1 ha2 ha2 ha2 ha2 (show true = true from rfl) (B6 (show true = true from rfl) (show true = true from rfl) (show true = true from rfl) (show true = true from rfl) (show true = true from rfl) (show true = true from rfl) (B6 (show true = true from rfl) (show true = true from rfl) (show true = true from rfl) (show true = true from rfl) (show true = true from rfl) (show true = true from rfl) (B6 (show true = true from rfl) (show true = true from rfl) (show true = true from rfl) (show true = true from rfl) (show true = true from rfl) (show true = true from rfl) (B6 (show true = true from rfl) (show true = true from rfl) (show true = true from rfl) (show true = true from rfl) (show true = true from rfl) (show true = true from rfl) (B6 (show true = true from rfl) (show true = true from rfl) (show true = true from rfl) (show true = true from rfl) (show true = true from rfl) (show true = true from rfl) (A2 (show true = true from rfl) (show true = true from rfl))))))))))
    ·replace hw14 := ite_f ha2 hw14
     rcases ft (!(v6.2 == v7.2)) with ha3 | ha3
     ·replace hw14 := ite_t ha3 hw14
      have hw14 := oi hw14
      subst hw14
      exact (r_gq [(1, .d false [.sl none (a1.map (eU .u8))]), (5, .ov false [.sl (some 26) (v3.map (eO 3 eI))]), (6, .ov false [.sl (some 3) (v4.1.map eI)]), (7, .p (.bool v4.2)), (8, .ov false [.sl (some 3) (v5.1.map eI)]), (12, .ov false [.sl (some 3) (v7.1.map eI)]), (16, .p (iV v9.1)), (20, .p (iV v11.1)), (160, .p (.bool true))] [(4, gF), (5, gF), (6, {g := some false, call := some (some [.d false [.sl none (v4.1.map eI)], .d false [.sl none (v5.1.map eI)]], [.p (.bool v12)], true)}), (7, gF), (8, bF), (10, gF), (11, gF), (12, gF), (13, bF), (15, gT), (16, gT), (17, gT), (18, gT), (19, bT), (21, gT), (22, gT), (23, gT), (24, bT), (26, gT), (27, gT), (28, gT), (29, bT), (31, gT), (32, gT), (33, gT), (34, bT), (36, gT), (37, gT), (38, gT), (39, bT), (41, gT), (42, gT), (43, gT), (44, bT), (46, gT), (47, gT), (50, gT), (51, bT), (53, gT), (54, gT), (55, gT), (56, bT)] (B6 ha1 ha1 ha1 (show ([.d false [.sl none (eraL (v4.1.map eI))], .d false [.sl none (eraL (v5.1.map eI))]] : List Arg) = [.d false [.sl none (v4.1.map eI)], .d false [.sl none (v5.1.map eI)]] from (by simp only [yea (h := eI) er_I, yea (h := eI) er_I])) (wk_laws_sameInts hv12) ha1 (B6 ha1 ha2 ha2 ha2 ha2 ha3 (B6 ha3 ha3 ha3 ha3 (show true = true from rfl) (show true = true from rfl) (B6 (show true = true from rfl) (show true = true from rfl) (show true = true from rfl) (show true = true from rfl) (show true = true from rfl) (show true = true from rfl) (B6 (show true = true from rfl) (show true = true from rfl) (show true = true from rfl) (show true = true from rfl) (show true = true from rfl) (show true = true from rfl) (B6 (show true = true from rfl) (show true = true from rfl) (show true = true from rfl) (show true = true from rfl) (show true = true from rfl) (show true = true from rfl) (B6 (show true = true from rfl) (show true = true from rfl) (show true = true from rfl) (show true = true from rfl) (show true = true from rfl) (show true = true from rfl) (A2 (show true = true from rfl) (show true = true from rfl))))))))))
     ·replace hw14 := ite_f ha3 hw14
      replace hw14 := bs hw14
      obtain ⟨v13, hv13, hw14⟩ := hw14
      rcases ft (!v13) with ha4 | ha4
      ·replace hw14 := ite_t ha4 hw14
       have hw14 := oi hw14
       subst hw14
       exact (r_gq [(1, .d false [.sl none (a1.map (eU .u8))]), (5, .ov false [.sl (some 26) (v3.map (eO 3 eI))]), (6, .ov false [.sl (some 3) (v4.1.map eI)]), (7, .p (.bool v4.2)), (8, .ov false [.sl (some 3) (v5.1.map eI)]), (12, .ov false [.sl (some 3) (v7.1.map eI)]), (16, .p (iV v9.1)), (20, .p (iV v11.1)), (160, .p (.bool true))] [(4, gF), (5, gF), (6, {g := some false, call := some (some [.d false [.sl none (v4.1.map eI)], .d false [.sl none (v5.1.map eI)]], [.p (.bool v12)], true)}), (7, gF), (8, bF), (10, gF), (11, gF), (12, gF), (13, bF), (15, gF), (16, gF), (17, {g := some false, call := some (some [.d false [.sl none (v6.1.map eI)], .d false [.sl none (v7.1.map eI)]], [.p (.bool v13)], true)}), (18, gF), (19, bF), (21, gT), (22, gT), (23, gT), (24, bT), (26, gT), (27, gT), (28, gT), (29, bT), (31, gT), (32, gT), (33, gT), (34, bT), (36, gT), (37, gT), (38, gT), (39, bT), (41, gT), (42, gT), (43, gT), (44, bT), (46, gT), (47, gT), (50, gT), (51, bT), (53, gT), (54, gT), (55, gT), (56, bT)] (B6 ha1 ha1 ha1 (show ([.d false [.sl none (eraL (v4.1.map eI))], .d false [.sl none (eraL (v5.1.map eI))]] : List Arg) = [.d false [.sl none (v4.1.map eI)], .d false [.sl none (v5.1.map eI)]] from (by simp only [yea (h := eI) er_I, yea (h := eI) er_I])) (wk_laws_sameInts hv12) ha1 (B6 ha1 ha2 ha2 ha2 ha2 ha3 (B6 ha3 ha3 (show ([.d false [.sl none (eraL (v6.1.map eI))], .d false [.sl none (eraL (v7.1.map eI))]] : List Arg) = [.d false [.sl none (v6.1.map eI)], .d false [.sl none (v7.1.map eI)]] from (by simp only [yea (h := eI) er_I, yea (h := eI) er_I])) (wk_laws_sameInts hv13) ha3 ha3 (B6 ha4 ha4 ha4 ha4 (show true = true from rfl) (show true = true from rfl) (B6 (show true = true from rfl) (show true = true from rfl) (show true = true from rfl) (show true = true from rfl) (show true = true from rfl) (show true = true from rfl) (B6 (show true = true from rfl) (show true = true from rfl) (show true = true from rfl) (show true = true from rfl) (show true = true from rfl) (show true = true from rfl) (B6 (show true = true from rfl) (show true = true from rfl) (show true = true from rfl) (show true = true from rfl) (show true = true from rfl) (show true = true from rfl) (A4 (show true = true from rfl) (show true = true from rfl) (show true = true from rfl) (show true = true from rfl))))))))))
      ·replace hw14 := ite_f ha4 hw14
       rcases ft (!(v8.2 == v9.2)) with ha5 | ha5
       ·replace hw14 := ite_t ha5 hw14
        have hw14 := oi hw14
        subst hw14
        exact (r_gq [(1, .d false [.sl none (a1.map (eU .u8))]), (5, .ov false [.sl (some 26) (v3.map (eO 3 eI))]), (6, .ov false [.sl (some 3) (v4.1.map eI)]), (7, .p (.bool v4.2)), (8, .ov false [.sl (some 3) (v5.1.map eI)]), (12, .ov false [.sl (some 3) (v7.1.map eI)]), (16, .p (iV v9.1)), (20, .p (iV v11.1)), (160, .p (.bool true))] [(4, gF), (5, gF), (6, {g := some false, call := some (some [.d false [.sl none (v4.1.map eI)], .d false [.sl none (v5.1.map eI)]], [.p (.bool v12)], true)}), (7, gF), (8, bF), (10, gF), (11, gF), (12, gF), (13, bF), (15, gF), (16, gF), (17, {g := some false, call := some (some [.d false [.sl none (v6.1.map eI)], .d false [.sl none (v7.1.map eI)]], [.p (.bool v13)], true)}), (18, gF), (19, bF), (21, gF), (22, gF), (23, gF), (24, bF), (26, gT), (27, gT), (28, gT), (29, bT), (31, gT), (32, gT), (33, gT), (34, bT), (36, gT), (37, gT), (38, gT), (39, bT), (41, gT), (42, gT), (43, gT), (44, bT), (46, gT), (47, gT), (50, gT), (51, bT), (53, gT), (54, gT), (55, gT), (56, bT)] (B6 ha1 ha1 ha1 (show ([.d false [.sl none (eraL (v4.1.map eI))], .d false [.sl none (eraL (v5.1.map eI))]] : List Arg) = [.d false [.sl none (v4.1.map eI)], .d false [.sl none (v5.1.map eI)]] from (by simp only [yea (h := eI) er_I, yea (h := eI) er_I])) (wk_laws_sameInts hv12) ha1 (B6 ha1 ha2 ha2 ha2 ha2 ha3 (B6 ha3 ha3 (show ([.d false [.sl none (eraL (v6.1.map eI))], .d false [.sl none (eraL (v7.1.map eI))]] : List Arg) = [.d false [.sl none (v6.1.map eI)], .d false [.sl none (v7.1.map eI)]] from (by simp only [yea (h := eI) er_I, yea (h := eI) er_I])) (wk_laws_sameInts hv13) ha3 ha3 (B6 ha4 ha4 ha4 ha4 ha5 ha5 (B6 ha5 ha5 (show true = true from rfl) (show true = true from rfl) (show true = true from rfl) (show true = true from rfl) (B6 (show true = true from rfl) (show true = true from rfl) (show true = true from rfl) (show true = true from rfl) (show true = true from rfl) (show true = true from rfl) (B6 (show true = true from rfl) (show true = true from rfl) (show true = true from rfl) (show true = true from rfl) (show true = true from rfl) (show true = true from rfl) (A4 (show true = true from rfl) (show true = true from rfl) (show true = true from rfl) (show true = true from rfl))))))))))
       ·replace hw14 := ite_f ha5 hw14
        rcases ft (v8.1 != v9.1) with ha6 | ha6
        ·replace hw14 := ite_t ha6 hw14
         have hw14 := oi hw14
         subst hw14
         exact (r_gq [(1, .d false [.sl none (a1.map (eU .u8))]), (5, .ov false [.sl (some 26) (v3.map (eO 3 eI))]), (6, .ov false [.sl (some 3) (v4.1.map eI)]), (7, .p (.bool v4.2)), (8, .ov false [.sl (some 3) (v5.1.map eI)]), (12, .ov false [.sl (some 3) (v7.1.map eI)]), (16, .p (iV v9.1)), (20, .p (iV v11.1)), (160, .p (.bool true))] [(4, gF), (5, gF), (6, {g := some false, call := some (some [.d false [.sl none (v4.1.map eI)], .d false [.sl none (v5.1.map eI)]], [.p (.bool v12)], true)}), (7, gF), (8, bF), (10, gF), (11, gF), (12, gF), (13, bF), (15, gF), (16, gF), (17, {g := some false, call := some (some [.d false [.sl none (v6.1.map eI)], .d false [.sl none (v7.1.map eI)]], [.p (.bool v13)], true)}), (18, gF), (19, bF), (21, gF), (22, gF), (23, gF), (24, bF), (26, gF), (27, gF), (28, gF), (29, bF), (31, gT), (32, gT), (33, gT), (34, bT), (36, gT), (37, gT), (38, gT), (39, bT), (41, gT), (42, gT), (43, gT), (44, bT), (46, gT), (47, gT), (50, gT), (51, bT), (53, gT), (54, gT), (55, gT), (56, bT)] (B6 ha1 ha1 ha1 (show ([.d false [.sl none (eraL (v4.1.map eI))], .d false [.sl none (eraL (v5.1.map eI))]] : List Arg) = [.d false [.sl none (v4.1.map eI)], .d false [.sl none (v5.1.map eI)]] from (by simp only [yea (h := eI) er_I, yea (h := eI) er_I])) (wk_laws_sameInts hv12) ha1 (B6 ha1 ha2 ha2 ha2 ha2 ha3 (B6 ha3 ha3 (show ([.d false [.sl none (eraL (v6.1.map eI))], .d false [.sl none (eraL (v7.1.map eI))]] : List Arg) = [.d false [.sl none (v6.1.map eI)], .d false [.sl none (v7.1.map eI)]] from (by simp only [yea (h := eI) er_I, yea (h := eI) er_I])) (wk_laws_sameInts hv13) ha3 ha3 (B6 ha4 ha4 ha4 ha4 ha5 ha5 (B6 ha5 ha5 ha6 ha6 ha6 ha6 (B6 (show true = true from rfl) (show true = true from rfl) (show true = true from rfl) (show true = true from rfl) (show true = true from rfl) (show true = true from rfl) (B6 (show true = true from rfl) (show true = true from rfl) (show true = true from rfl) (show true = true from rfl) (show true = true from rfl) (show true = true from rfl) (A4 (show true = true from rfl) (show true = true from rfl) (show true = true from rfl) (show true = true from rfl))))))))))
        ·replace hw14 := ite_f ha6 hw14
         rcases ft (!(v10.2 == v11.2)) with ha7 | ha7
         ·replace hw14 := ite_t ha7 hw14
          have hw14 := oi hw14
          subst hw14
          exact (r_gq [(1, .d false [.sl none (a1.map (eU .u8))]), (5, .ov false [.sl (some 26) (v3.map (eO 3 eI))]), (6, .ov false [.sl (some 3) (v4.1.map eI)]), (7, .p (.bool v4.2)), (8, .ov false [.sl (some 3) (v5.1.map eI)]), (12, .ov false [.sl (some 3) (v7.1.map eI)]), (16, .p (iV v9.1)), (20, .p (iV v11.1)), (160, .p (.bool true))] [(4, gF), (5, gF), (6, {g := some false, call := some (some [.d false [.sl none (v4.1.map eI)], .d false [.sl none (v5.1.map eI)]], [.p (.bool v12)], true)}), (7, gF), (8, bF), (10, gF), (11, gF), (12, gF), (13, bF), (15, gF), (16, gF), (17, {g := some false, call := some (some [.d false [.sl none (v6.1.map eI)], .d false [.sl none (v7.1.map eI)]], [.p (.bool v13)], true)}), (18, gF), (19, bF), (21, gF), (22, gF), (23, gF), (24, bF), (26, gF), (27, gF), (28, gF), (29, bF), (31, gF), (32, gF), (33, gF), (34, bF), (36, gT), (37, gT), (38, gT), (39, bT), (41, gT), (42, gT), (43, gT), (44, bT), (46, gT), (47, gT), (50, gT), (51, bT), (53, gT), (54, gT), (55, gT), (56, bT)] (B6 ha1 ha1 ha1 (show ([.d false [.sl none (eraL (v4.1.map eI))], .d false [.sl none (eraL (v5.1.map eI))]] : List Arg) = [.d false [.sl none (v4.1.map eI)], .d false [.sl none (v5.1.map eI)]] from (by simp only [yea (h := eI) er_I, yea (h := eI) er_I])) (wk_laws_sameInts hv12) ha1 (B6 ha1 ha2 ha2 ha2 ha2 ha3 (B6 ha3 ha3 (show ([.d false [.sl none (eraL (v6.1.map eI))], .d false [.sl none (eraL (v7.1.map eI))]] : List Arg) = [.d false [.sl none (v6.1.map eI)], .d false [.sl none (v7.1.map eI)]] from (by simp only [yea (h := eI) er_I, yea (h := eI) er_I])) (wk_laws_sameInts hv13) ha3 ha3 (B6 ha4 ha4 ha4 ha4 ha5 ha5 (B6 ha5 ha5 ha6 ha6 ha6 ha6 (B6 ha7 ha7 ha7 ha7 (show true = true from rfl) (show true = true from rfl) (B6 (show true = true from rfl) (show true = true from rfl) (show true = true from rfl) (show true = true from rfl) (show true = true from rfl) (show true = true from rfl) (A4 (show true = true from rfl) (show true = true from rfl) (show true = true from rfl) (show true = true from rfl))))))))))
         ·replace hw14 := ite_f ha7 hw14
          rcases ft (v10.1 != v11.1) with ha8 | ha8
          ·replace hw14 := ite_t ha8 hw14
           have hw14 := oi hw14
           subst hw14
           exact (r_gq [(1, .d false [.sl none (a1.map (eU .u8))]), (5, .ov false [.sl (some 26) (v3.map (eO 3 eI))]), (6, .ov false [.sl (some 3) (v4.1.map eI)]), (7, .p (.bool v4.2)), (8, .ov false [.sl (some 3) (v5.1.map eI)]), (12, .ov false [.sl (some 3) (v7.1.map eI)]), (16, .p (iV v9.1)), (20, .p (iV v11.1)), (160, .p (.bool true))] [(4, gF), (5, gF), (6, {g := some false, call := some (some [.d false [.sl none (v4.1.map eI)], .d false [.sl none (v5.1.map eI)]], [.p (.bool v12)], true)}), (7, gF), (8, bF), (10, gF), (11, gF), (12, gF), (13, bF), (15, gF), (16, gF), (17, {g := some false, call := some (some [.d false [.sl none (v6.1.map eI)], .d false [.sl none (v7.1.map eI)]], [.p (.bool v13)], true)}), (18, gF), (19, bF), (21, gF), (22, gF), (23, gF), (24, bF), (26, gF), (27, gF), (28, gF), (29, bF), (31, gF), (32, gF), (33, gF), (34, bF), (36, gF), (37, gF), (38, gF), (39, bF), (41, gT), (42, gT), (43, gT), (44, bT), (46, gT), (47, gT), (50, gT), (51, bT), (53, gT), (54, gT), (55, gT), (56, bT)] (B6 ha1 ha1 ha1 (show ([.d false [.sl none (eraL (v4.1.map eI))], .d false [.sl none (eraL (v5.1.map eI))]] : List Arg) = [.d false [.sl none (v4.1.map eI)], .d false [.sl none (v5.1.map eI)]] from (by simp only [yea (h := eI) er_I, yea (h := eI) er_I])) (wk_laws_sameInts hv12) ha1 (B6 ha1 ha2 ha2 ha2 ha2 ha3 (B6 ha3 ha3 (show ([.d false [.sl none (eraL (v6.1.map eI))], .d false [.sl none (eraL (v7.1.map eI))]] : List Arg) = [.d false [.sl none (v6.1.map eI)], .d false [.sl none (v7.1.map eI)]] from (by simp only [yea (h := eI) er_I, yea (h := eI) er_I])) (wk_laws_sameInts hv13) ha3 ha3 (B6 ha4 ha4 ha4 ha4 ha5 ha5 (B6 ha5 ha5 ha6 ha6 ha6 ha6 (B6 ha7 ha7 ha7 ha7 ha8 ha8 (B6 ha8 ha8 (show true = true from rfl) (show true = true from rfl) (show true = true from rfl) (show true = true from rfl) (A4 (show true = true from rfl) (show true = true from rfl) (show true = true from rfl) (show true = true from rfl))))))))))
          ·replace hw14 := ite_f ha8 hw14
           rcases ft (!(v8.2 == v10.2)) with ha9 | ha9
           ·replace hw14 := ite_t ha9 hw14
            have hw14 := oi hw14
            subst hw14
            exact (r_gq [(1, .d false [.sl none (a1.map (eU .u8))]), (5, .ov false [.sl (some 26) (v3.map (eO 3 eI))]), (6, .ov false [.sl (some 3) (v4.1.map eI)]), (7, .p (.bool v4.2)), (8, .ov false [.sl (some 3) (v5.1.map eI)]), (12, .ov false [.sl (some 3) (v7.1.map eI)]), (16, .p (iV v9.1)), (20, .p (iV v11.1)), (160, .p (.bool true))] [(4, gF), (5, gF), (6, {g := some false, call := some (some [.d false [.sl none (v4.1.map eI)], .d false [.sl none (v5.1.map eI)]], [.p (.bool v12)], true)}), (7, gF), (8, bF), (10, gF), (11, gF), (12, gF), (13, bF), (15, gF), (16, gF), (17, {g := some false, call := some (some [.d false [.sl none (v6.1.map eI)], .d false [.sl none (v7.1.map eI)]], [.p (.bool v13)], true)}), (18, gF), (19, bF), (21, gF), (22, gF), (23, gF), (24, bF), (26, gF), (27, gF), (28, gF), (29, bF), (31, gF), (32, gF), (33, gF), (34, bF), (36, gF), (37, gF), (38, gF), (39, bF), (41, gF), (42, gF), (43, gF), (44, bF), (46, gT), (47, gT), (50, gT), (51, bT), (53, gT), (54, gT), (55, gT), (56, bT)] (B6 ha1 ha1 ha1 (show ([.d false [.sl none (eraL (v4.1.map eI))], .d false [.sl none (eraL (v5.1.map eI))]] : List Arg) = [.d false [.sl none (v4.1.map eI)], .d false [.sl none (v5.1.map eI)]] from (by simp only [yea (h := eI) er_I, yea (h := eI) er_I])) (wk_laws_sameInts hv12) ha1 (B6 ha1 ha2 ha2 ha2 ha2 ha3 (B6 ha3 ha3 (show ([.d false [.sl none (eraL (v6.1.map eI))], .d false [.sl none (eraL (v7.1.map eI))]] : List Arg) = [.d false [.sl none (v6.1.map eI)], .d false [.sl none (v7.1.map eI)]] from (by simp only [yea (h := eI) er_I, yea (h := eI) er_I])) (wk_laws_sameInts hv13) ha3 ha3 (B6 ha4 ha4 ha4 ha4 ha5 ha5 (B6 ha5 ha5 ha6 ha6 ha6 ha6 (B6 ha7 ha7 ha7 ha7 ha8 ha8 (B6 ha8 ha8 ha9 ha9 ha9 ha9 (A4 (show true = true from rfl) (show true = true from rfl) (show true = true from rfl) (show true = true from rfl))))))))))
           ·replace hw14 := ite_f ha9 hw14
            rcases ft v4.2 with ha10 | ha10
            ·replace hw14 := ite_t ha10 hw14
             rcases ft (!v10.2) with ha11 | ha11
             ·replace hw14 := ite_t ha11 hw14
              have hw14 := oi hw14
              subst hw14
              exact (r_gq [(1, .d false [.sl none (a1.map (eU .u8))]), (5, .ov false [.sl (some 26) (v3.map (eO 3 eI))]), (6, .ov false [.sl (some 3) (v4.1.map eI)]), (7, .p (.bool v4.2)), (8, .ov false [.sl (some 3) (v5.1.map eI)]), (12, .ov false [.sl (some 3) (v7.1.map eI)]), (16, .p (iV v9.1)), (20, .p (iV v11.1)), (160, .p (.bool true))] [(4, gF), (5, gF), (6, {g := some false, call := some (some [.d false [.sl none (v4.1.map eI)], .d false [.sl none (v5.1.map eI)]], [.p (.bool v12)], true)}), (7, gF), (8, bF), (10, gF), (11, gF), (12, gF), (13, bF), (15, gF), (16, gF), (17, {g := some false, call := some (some [.d false [.sl none (v6.1.map eI)], .d false [.sl none (v7.1.map eI)]], [.p (.bool v13)], true)}), (18, gF), (19, bF), (21, gF), (22, gF), (23, gF), (24, bF), (26, gF), (27, gF), (28, gF), (29, bF), (31, gF), (32, gF), (33, gF), (34, bF), (36, gF), (37, gF), (38, gF), (39, bF), (41, gF), (42, gF), (43, gF), (44, bF), (46, gF), (47, gF), (48, gT), (49, gT), (50, {g := some false, b := some true}), (51, bF), (53, gT), (54, gT), (55, gT), (56, bT)] (B6 ha1 ha1 ha1 (show ([.d false [.sl none (eraL (v4.1.map eI))], .d false [.sl none (eraL (v5.1.map eI))]] : List Arg) = [.d false [.sl none (v4.1.map eI)], .d false [.sl none (v5.1.map eI)]] from (by simp only [yea (h := eI) er_I, yea (h := eI) er_I])) (wk_laws_sameInts hv12) ha1 (B6 ha1 ha2 ha2 ha2 ha2 ha3 (B6 ha3 ha3 (show ([.d false [.sl none (eraL (v6.1.map eI))], .d false [.sl none (eraL (v7.1.map eI))]] : List Arg) = [.d false [.sl none (v6.1.map eI)], .d false [.sl none (v7.1.map eI)]] from (by simp only [yea (h := eI) er_I, yea (h := eI) er_I])) (wk_laws_sameInts hv13) ha3 ha3 (B6 ha4 ha4 ha4 ha4 ha5 ha5 (B6 ha5 ha5 ha6 ha6 ha6 ha6 (B6 ha7 ha7 ha7 ha7 ha8 ha8 (B6 ha8 ha8 ha9 ha9 ha10 ha10 (B6 ha9 ha10 ha9 ha11 ha11 ha11 (A1 ha11))))))))))
             ·replace hw14 := ite_f ha11 hw14
              have hw14 := oi hw14
              subst hw14
              exact (r_gq [(1, .d false [.sl none (a1.map (eU .u8))]), (5, .ov false [.sl (some 26) (v3.map (eO 3 eI))]), (6, .ov false [.sl (some 3) (v4.1.map eI)]), (7, .p (.bool v4.2)), (8, .ov false [.sl (some 3) (v5.1.map eI)]), (12, .ov false [.sl (some 3) (v7.1.map eI)]), (16, .p (iV v9.1)), (20, .p (iV v11.1)), (160, .p (.bool (!(v6.2 == v4.2))))] [(4, gF), (5, gF), (6, {g := some false, call := some (some [.d false [.sl none (v4.1.map eI)], .d false [.sl none (v5.1.map eI)]], [.p (.bool v12)], true)}), (7, gF), (8, bF), (10, gF), (11, gF), (12, gF), (13, bF), (15, gF), (16, gF), (17, {g := some false, call := some (some [.d false [.sl none (v6.1.map eI)], .d false [.sl none (v7.1.map eI)]], [.p (.bool v13)], true)}), (18, gF), (19, bF), (21, gF), (22, gF), (23, gF), (24, bF), (26, gF), (27, gF), (28, gF), (29, bF), (31, gF), (32, gF), (33, gF), (34, bF), (36, gF), (37, gF), (38, gF), (39, bF), (41, gF), (42, gF), (43, gF), (44, bF), (46, gF), (47, gF), (48, gT), (49, gT), (50, {g := some false, b := some true}), (51, bF), (53, gF), (54, gF), (55, gF), (56, bF)] (B6 ha1 ha1 ha1 (show ([.d false [.sl none (eraL (v4.1.map eI))], .d false [.sl none (eraL (v5.1.map eI))]] : List Arg) = [.d false [.sl none (v4.1.map eI)], .d false [.sl none (v5.1.map eI)]] from (by simp only [yea (h := eI) er_I, yea (h := eI) er_I])) (wk_laws_sameInts hv12) ha1 (B6 ha1 ha2 ha2 ha2 ha2 ha3 (B6 ha3 ha3 (show ([.d false [.sl none (eraL (v6.1.map eI))], .d false [.sl none (eraL (v7.1.map eI))]] : List Arg) = [.d false [.sl none (v6.1.map eI)], .d false [.sl none (v7.1.map eI)]] from (by simp only [yea (h := eI) er_I, yea (h := eI) er_I])) (wk_laws_sameInts hv13) ha3 ha3 (B6 ha4 ha4 ha4 ha4 ha5 ha5 (B6 ha5 ha5 ha6 ha6 ha6 ha6 (B6 ha7 ha7 ha7 ha7 ha8 ha8 (B6 ha8 ha8 ha9 ha9 ha10 ha10 (B6 ha9 ha10 ha9 ha11 ha11 ha11 (A1 ha11))))))))))
            ·replace hw14 := ite_f ha10 hw14
             have hw14 := oi hw14
             subst hw14
             exact (r_gq [(1, .d false [.sl none (a1.map (eU .u8))]), (5, .ov false [.sl (some 26) (v3.map (eO 3 eI))]), (6, .ov false [.sl (some 3) (v4.1.map eI)]), (7, .p (.bool v4.2)), (8, .ov false [.sl (some 3) (v5.1.map eI)]), (12, .ov false [.sl (some 3) (v7.1.map eI)]), (16, .p (iV v9.1)), (20, .p (iV v11.1)), (160, .p (.bool (!(v6.2 == v4.2))))] [(4, gF), (5, gF), (6, {g := some false, call := some (some [.d false [.sl none (v4.1.map eI)], .d false [.sl none (v5.1.map eI)]], [.p (.bool v12)], true)}), (7, gF), (8, bF), (10, gF), (11, gF), (12, gF), (13, bF), (15, gF), (16, gF), (17, {g := some false, call := some (some [.d false [.sl none (v6.1.map eI)], .d false [.sl none (v7.1.map eI)]], [.p (.bool v13)], true)}), (18, gF), (19, bF), (21, gF), (22, gF), (23, gF), (24, bF), (26, gF), (27, gF), (28, gF), (29, bF), (31, gF), (32, gF), (33, gF), (34, bF), (36, gF), (37, gF), (38, gF), (39, bF), (41, gF), (42, gF), (43, gF), (44, bF), (46, gF), (47, gF), (48, gF), (49, gF), (50, {g := some false, b := some false}), (51, bF), (53, gF), (54, gF), (55, gF), (56, bF)] (B6 ha1 ha1 ha1 (show ([.d false [.sl none (eraL (v4.1.map eI))], .d false [.sl none (eraL (v5.1.map eI))]] : List Arg) = [.d false [.sl none (v4.1.map eI)], .d false [.sl none (v5.1.map eI)]] from (by simp only [yea (h := eI) er_I, yea (h := eI) er_I])) (wk_laws_sameInts hv12) ha1 (B6 ha1 ha2 ha2 ha2 ha2 ha3 (B6 ha3 ha3 (show ([.d false [.sl none (eraL (v6.1.map eI))], .d false [.sl none (eraL (v7.1.map eI))]] : List Arg) = [.d false [.sl none (v6.1.map eI)], .d false [.sl none (v7.1.map eI)]] from (by simp only [yea (h := eI) er_I, yea (h := eI) er_I])) (wk_laws_sameInts hv13) ha3 ha3 (B6 ha4 ha4 ha4 ha4 ha5 ha5 (B6 ha5 ha5 ha6 ha6 ha6 ha6 (B6 ha7 ha7 ha7 ha7 ha8 ha8 (B6 ha8 ha8 ha9 ha9 ha10 ha10 (B6 ha9 ha10 ha9 (show false = false from rfl) (show false = false from rfl) (show false = false from rfl) (A1 (show false = false from rfl)))))))))))
  ·refine kc w14 (fun hc2_14 => ?_) (fun hc2_14 => ?_)
   ·replace h := ite_t hc2_14 h
    refine k_sreg (r_gq [(4, .p (.bool false))] [] trivial) ?_
    refine k_ret ?_
    refine q_r ?_
    obtain rfl := oi h
    exact er [(.p (.bool false), 4)]
   ·replace h := ite_f hc2_14 h
    refine k_skip ?_
    refine q_n ?_
    refine k_join (J := fun (x : Unit) => [(1, .d false [.sl none (a1.map (eU .u8))])]) (K := fun x => laws_FnZeta_k1 a1 x = some r) (fun x16 h => ?_) ?_
    ·unfold laws_FnZeta_k1 at h
     replace h := bs h
     obtain ⟨v17, hv17, h⟩ := h
     refine k_sreg (r_gq [(36, .ov false [.sl (some 26) (v17.1.map (eO 3 eI))]), (37, .p (iV v17.2))] [(1, {call := some (none, [.ov false [.sl (some 26) (v17.1.map (eO 3 eI))], .p (iV v17.2)], true)})] (A2 (wk_spec_DrawCycleTable hv17) (show List.all [.ov false [.sl (some 26) (v17.1.map (eO 3 eI))], .p (iV v17.2)] simpleR = true from (sa_o (wnR1 (wnL_enc (wn_O wn_I)) rfl) (sa_p rfl))))) ?_
     replace h := bs h
     obtain ⟨v18, hv18, h⟩ := h
     refine k_sreg (r_gq [(36, .ov false [.sl (some 26) (v17.1.map (eO 3 eI))]), (37, .p (iV v17.2)), (38, .ov false [.sl (some 3) (v18.1.map eI)]), (39, .p (.bool v18.2))] [(2, {call := some (some [.d false [.sl none (v17.1.map (eF eI))], wI v17.2], [.ov false [.sl (some 3) (v18.1.map eI)], .p (.bool v18.2)], true)})] (A3 (show ([.d false [.sl none (eraL (v17.1.map (eO 3 eI)))], wI v17.2] : List Arg) = [.d false [.sl none (v17.1.map (eF eI))], wI v17.2] from (by simp only [yea (h := (eF eI)) (era_O er_I)])) (wk_impl_CycleTable hv18) (show List.all [.ov false [.sl (some 3) (v18.1.map eI)], .p (.bool v18.2)] simpleR = true from (sa_o (wnR1 (wnL_enc wn_I) rfl) (sa_p rfl))))) ?_
     replace h := bs h
     obtain ⟨v19, hv19, h⟩ := h
     refine k_sreg (r_gq [(36, .ov false [.sl (some 26) (v17.1.map (eO 3 eI))]), (37, .p (iV v17.2)), (38, .ov false [.sl (some 3) (v18.1.map eI)]), (39, .p (.bool v18.2)), (40, .ov false [.sl (some 3) (v19.1.map eI)]), (41, .p (.bool v19.2))] [(2, {call := some (some [.d false [.sl none (v17.1.map (eF eI))], wI v17.2], [.ov false [.sl (some 3) (v19.1.map eI)], .p (.bool v19.2)], true)})] (A3 (show ([.d false [.sl none (eraL (v17.1.map (eO 3 eI)))], wI v17.2] : List Arg) = [.d false [.sl none (v17.1.map (eF eI))], wI v17.2] from (by simp only [yea (h := (eF eI)) (era_O er_I)])) (wk_spec_CycleTable hv19) (show List.all [.ov false [.sl (some 3) (v19.1.map eI)], .p (.bool v19.2)] simpleR = true from (sa_o (wnR1 (wnL_enc wn_I) rfl) (sa_p rfl))))) ?_
     refine k_seq ?_
     replace h := bs h
     obtain ⟨w21, hw21, h⟩ := h
     refine k_sreg (l1 := [(36, .ov false [.sl (some 26) (v17.1.map (eO 3 eI))]), (37, .p (iV v17.2)), (39, .p (.bool v18.2)), (40, .ov false [.sl (some 3) (v19.1.map eI)]), (309, .p (.bool w21))]) ?_ ?_
     ·clear h
      rcases ft (!(v18.2 == v19.2)) with ha2 | ha2
      ·replace hw21 := ite_t ha2 hw21
       have hw21 := oi hw21
       subst hw21
       exact (r_gq [(36, .ov false [.sl (some 26) (v17.1.map (eO 3 eI))]), (37, .p (iV v17.2)), (39, .p (.bool v18.2)), (40, .ov false [.sl (some 3) (v19.1.map eI)]), (309, .p (.bool true))] [(4, gT), (5, gT), (6, gT), (7, gT), (8, bT)] (A5 ha2 ha2 ha2 ha2 ha2))
      ·replace hw21 := ite_f ha2 hw21
       replace hw21 := bs hw21
       obtain ⟨v20, hv20, hw21⟩ := hw21
       have hw21 := oi hw21
       subst hw21
       exact (r_gq [(36, .ov false [.sl (some 26) (v17.1.map (eO 3 eI))]), (37, .p (iV v17.2)), (39, .p (.bool v18.2)), (40, .ov false [.sl (some 3) (v19.1.map eI)]), (309, .p (.bool (!v20)))] [(4, gF), (5, gF), (6, {g := some false, call := some (some [.d false [.sl none (v18.1.map eI)], .d false [.sl none (v19.1.map eI)]], [.p (.bool v20)], true)}), (7, gF), (8, bF)] (B6 ha2 ha2 ha2 (show ([.d false [.sl none (eraL (v18.1.map eI))], .d false [.sl none (eraL (v19.1.map eI))]] : List Arg) = [.d false [.sl none (v18.1.map eI)], .d false [.sl none (v19.1.map eI)]] from (by simp only [yea (h := eI) er_I, yea (h := eI) er_I])) (wk_laws_sameInts hv20) ha2 (A1 ha2)))
     ·refine kc w21 (fun hc2_21 => ?_) (fun hc2_21 => ?_)
      ·replace h := ite_t hc2_21 h
       refine k_sreg (r_gq [(4, .p (.bool false))] [] trivial) ?_
       refine k_ret ?_
       refine q_r ?_
       obtain rfl := oi h
       exact er [(.p (.bool false), 4)]
      ·replace h := ite_f hc2_21 h
       refine k_skip ?_
       refine q_n ?_
       refine k_join (J := fun (x : Unit) => []) (K := fun x => laws_FnZeta_k2 x = some r) (fun x23 h => ?_) ?_
       ·unfold laws_FnZeta_k2 at h
        refine k_sreg (r_gq [(4, .p (.bool true))] [] trivial) ?_
        refine k_ret ?_
        obtain rfl := oi h
        exact er [(.p (.bool true), 4)]
       ·refine k_sreg (r_gq [(36, .ov false [.sl (some 26) (v17.1.map (eO 3 eI))]), (37, .p (iV v17.2)), (40, .ov false [.sl (some 3) (v19.1.map eI)]), (310, .p (.bool v18.2))] [] trivial) ?_
        refine kc v18.2 (fun hc2_23 => ?_) (fun hc2_23 => ?_)
        ·replace h := ite_t hc2_23 h
         refine k_join (J := fun (x : Unit) => [(36, .ov false [.sl (some 26) (v17.1.map (eO 3 eI))]), (37, .p (iV v17.2)), (40, .ov false [.sl (some 3) (v19.1.map eI)])]) (K := fun x => laws_FnZeta_k3 v17 v19 x = some r) (fun x25 h => ?_) ?_
         ·unfold laws_FnZeta_k3 at h
          refine k_join (J := fun (x : (List Int)) => [(36, .ov false [.sl (some 26) (v17.1.map (eO 3 eI))]), (40, .ov false [.sl (some 3) (x.map eI)])]) (K := fun x => laws_FnZeta_k4 v17 x = some r) (fun x26 h => ?_) ?_
          ·unfold laws_FnZeta_k4 at h
           replace h := bs h
           obtain ⟨v27, hv27, h⟩ := h
           refine k_sreg (r_gq [(36, .ov false [.sl (some 26) (v17.1.map (eO 3 eI))]), (40, .ov false [.sl (some 3) (x26.map eI)]), (49, .ov false [.sl (some 3) (v27.1.map eI)]), (50, .p (.bool v27.2))] [(1, {call := some (some [.d false [.sl none (x26.map eI)]], [.ov false [.sl (some 3) (v27.1.map eI)], .p (.bool v27.2)], true)})] (A3 (show ([.d false [.sl none (eraL (x26.map eI))]] : List Arg) = [.d false [.sl none (x26.map eI)]] from (by simp only [yea (h := eI) er_I])) (wk_impl_EulerProduct hv27) (show List.all [.ov false [.sl (some 3) (v27.1.map eI)], .p (.bool v27.2)] simpleR = true from (sa_o (wnR1 (wnL_enc wn_I) rfl) (sa_p rfl))))) ?_
           replace h := bs h
           obtain ⟨v28, hv28, h⟩ := h
           refine k_sreg (r_gq [(36, .ov false [.sl (some 26) (v17.1.map (eO 3 eI))]), (49, .ov false [.sl (some 3) (v27.1.map eI)]), (50, .p (.bool v27.2)), (51, .ov false [.sl (some 3) (v28.1.map eI)]), (52, .p (.bool v28.2))] [(1, {call := some (some [.d false [.sl none (x26.map eI)]], [.ov false [.sl (some 3) (v28.1.map eI)], .p (.bool v28.2)], true)})] (A3 (show ([.d false [.sl none (eraL (x26.map eI))]] : List Arg) = [.d false [.sl none (x26.map eI)]] from (by simp only [yea (h := eI) er_I])) (wk_spec_EulerProduct hv28) (show List.all [.ov false [.sl (some 3) (v28.1.map eI)], .p (.bool v28.2)] simpleR = true from (sa_o (wnR1 (wnL_enc wn_I) rfl) (sa_p rfl))))) ?_
           replace h := bs h
           obtain ⟨v29, hv29, h⟩ := h
           refine k_sreg (r_gq [(36, .ov false [.sl (some 26) (v17.1.map (eO 3 eI))]), (49, .ov false [.sl (some 3) (v27.1.map eI)]), (50, .p (.bool v27.2)), (51, .ov false [.sl (some 3) (v28.1.map eI)]), (52, .p (.bool v28.2)), (53, .ov false [.sl (some 3) (v29.1.map eI)]), (54, .p (.bool v29.2))] [(1, {call := some (some [.d false [.sl none (v17.1.map (eF eI))]], [.ov false [.sl (some 3) (v29.1.map eI)], .p (.bool v29.2)], true)})] (A3 (show ([.d false [.sl none (eraL (v17.1.map (eO 3 eI)))]] : List Arg) = [.d false [.sl none (v17.1.map (eF eI))]] from (by simp only [yea (h := (eF eI)) (era_O er_I)])) (wk_impl_ZetaDenominator hv29) (show List.all [.ov false [.sl (some 3) (v29.1.map eI)], .p (.bool v29.2)] simpleR = true from (sa_o (wnR1 (wnL_enc wn_I) rfl) (sa_p rfl))))) ?_
           replace h := bs h
           obtain ⟨v30, hv30, h⟩ := h
           refine k_sreg (r_gq [(49, .ov false [.sl (some 3) (v27.1.map eI)]), (50, .p (.bool v27.2)), (51, .ov false [.sl (some 3) (v28.1.map eI)]), (52, .p (.bool v28.2)), (53, .ov false [.sl (some 3) (v29.1.map eI)]), (54, .p (.bool v29.2)), (55, .ov false [.sl (some 3) (v30.1.map eI)]), (56, .p (.bool v30.2))] [(1, {call := some (some [.d false [.sl none (v17.1.map (eF eI))]], [.ov false [.sl (some 3) (v30.1.map eI)], .p (.bool v30.2)], true)})] (A3 (show ([.d false [.sl none (eraL (v17.1.map (eO 3 eI)))]] : List Arg) = [.d false [.sl none (v17.1.map (eF eI))]] from (by simp only [yea (h := (eF eI)) (era_O er_I)])) (wk_spec_ZetaDenominator hv30) (show List.all [.ov false [.sl (some 3) (v30.1.map eI)], .p (.bool v30.2)] simpleR = true from (sa_o (wnR1 (wnL_enc wn_I) rfl) (sa_p rfl))))) ?_
           refine k_seq ?_
           replace h := bs h
           obtain ⟨w33, hw33, h⟩ := h
           refine k_sreg (l1 := [(51, .ov false [.sl (some 3) (v28.1.map eI)]), (52, .p (.bool v28.2)), (55, .ov false [.sl (some 3) (v30.1.map eI)]), (56, .p (.bool v30.2)), (409, .p (.bool w33))]) ?_ ?_
           ·clear h
            rcases ft (!(v27.2 == v28.2)) with ha4 | ha4
            ·replace hw33 := ite_t ha4 hw33
             have hw33 := oi hw33
             subst hw33
             exact (r_gq [(51, .ov false [.sl (some 3) (v28.1.map eI)]), (52, .p (.bool v28.2)), (55, .ov false [.sl (some 3) (v30.1.map eI)]), (56, .p (.bool v30.2)), (409, .p (.bool true))] [(4, gT), (5, gT), (6, gT), (7, gT), (8, bT), (10, gT), (11, gT), (12, gT), (13, bT), (15, gT), (16, gT), (17, gT), (18, gT), (19, bT)] (B6 ha4 ha4 ha4 ha4 ha4 (show true = true from rfl) (B6 (show true = true from rfl) (show true = true from rfl) (show true = true from rfl) (show true = true from rfl) (show true = true from rfl) (show true = true from rfl) (A2 (show true = true from rfl) (show true = true from rfl)))))
            ·replace hw33 := ite_f ha4 hw33
             replace hw33 := bs hw33
             obtain ⟨v31, hv31, hw33⟩ := hw33
             rcases ft (!v31) with ha5 | ha5
             ·replace hw33 := ite_t ha5 hw33
              have hw33 := oi hw33
              subst hw33
              exact (r_gq [(51, .ov false [.sl (some 3) (v28.1.map eI)]), (52, .p (.bool v28.2)), (55, .ov false [.sl (some 3) (v30.1.map eI)]), (56, .p (.bool v30.2)), (409, .p (.bool true))] [(4, gF), (5, gF), (6, {g := some false, call := some (some [.d false [.sl none (v27.1.map eI)], .d false [.sl none (v28.1.map eI)]], [.p (.bool v31)], true)}), (7, gF), (8, bF), (10, gT), (11, gT), (12, gT), (13, bT), (15, gT), (16, gT), (17, gT), (18, gT), (19, bT)] (B6 ha4 ha4 ha4 (show ([.d false [.sl none (eraL (v27.1.map eI))], .d false [.sl none (eraL (v28.1.map eI))]] : List Arg) = [.d false [.sl none (v27.1.map eI)], .d false [.sl none (v28.1.map eI)]] from (by simp only [yea (h := eI) er_I, yea (h := eI) er_I])) (wk_laws_sameInts hv31) ha4 (B6 ha4 ha5 ha5 ha5 ha5 (show true = true from rfl) (A4 (show true = true from rfl) (show true = true from rfl) (show true = true from rfl) (show true = true from rfl)))))
             ·replace hw33 := ite_f ha5 hw33
              rcases ft (!(v29.2 == v30.2)) with ha6 | ha6
              ·replace hw33 := ite_t ha6 hw33
               have hw33 := oi hw33
               subst hw33
               exact (r_gq [(51, .ov false [.sl (some 3) (v28.1.map eI)]), (52, .p (.bool v28.2)), (55, .ov false [.sl (some 3) (v30.1.map eI)]), (56, .p (.bool v30.2)), (409, .p (.bool true))] [(4, gF), (5, gF), (6, {g := some false, call := some (some [.d false [.sl none (v27.1.map eI)], .d false [.sl none (v28.1.map eI)]], [.p (.bool v31)], true)}), (7, gF), (8, bF), (10, gF), (11, gF), (12, gF), (13, bF), (15, gT), (16, gT), (17, gT), (18, gT), (19, bT)] (B6 ha4 ha4 ha4 (show ([.d false [.sl none (eraL (v27.1.map eI))], .d false [.sl none (eraL (v28.1.map eI))]] : List Arg) = [.d false [.sl none (v27.1.map eI)], .d false [.sl none (v28.1.map eI)]] from (by simp only [yea (h := eI) er_I, yea (h := eI) er_I])) (wk_laws_sameInts hv31) ha4 (B6 ha4 ha5 ha5 ha5 ha5 ha6 (A4 ha6 ha6 ha6 ha6))))
              ·replace hw33 := ite_f ha6 hw33
               replace hw33 := bs hw33
               obtain ⟨v32, hv32, hw33⟩ := hw33
               have hw33 := oi hw33
               subst hw33
               exact (r_gq [(51, .ov false [.sl (some 3) (v28.1.map eI)]), (52, .p (.bool v28.2)), (55, .ov false [.sl (some 3) (v30.1.map eI)]), (56, .p (.bool v30.2)), (409, .p (.bool (!v32)))] [(4, gF), (5, gF), (6, {g := some false, call := some (some [.d false [.sl none (v27.1.map eI)], .d false [.sl none (v28.1.map eI)]], [.p (.bool v31)], true)}), (7, gF), (8, bF), (10, gF), (11, gF), (12, gF), (13, bF), (15, gF), (16, gF), (17, {g := some false, call := some (some [.d false [.sl none (v29.1.map eI)], .d false [.sl none (v30.1.map eI)]], [.p (.bool v32)], true)}), (18, gF), (19, bF)] (B6 ha4 ha4 ha4 (show ([.d false [.sl none (eraL (v27.1.map eI))], .d false [.sl none (eraL (v28.1.map eI))]] : List Arg) = [.d false [.sl none (v27.1.map eI)], .d false [.sl none (v28.1.map eI)]] from (by simp only [yea (h := eI) er_I, yea (h := eI) er_I])) (wk_laws_sameInts hv31) ha4 (B6 ha4 ha5 ha5 ha5 ha5 ha6 (A6 ha6 ha6 (show ([.d false [.sl none (eraL (v29.1.map eI))], .d false [.sl none (eraL (v30.1.map eI))]] : List Arg) = [.d false [.sl none (v29.1.map eI)], .d false [.sl none (v30.1.map eI)]] from (by simp only [yea (h := eI) er_I, yea (h := eI) er_I])) (wk_laws_sameInts hv32) ha6 ha6))))
           ·refine kc w33 (fun hc3_33 => ?_) (fun hc3_33 => ?_)
            ·replace h := ite_t hc3_33 h
             refine k_sreg (r_gq [(4, .p (.bool false))] [] trivial) ?_
             refine k_ret ?_
             refine q_r ?_
             refine q_r ?_
             obtain rfl := oi h
             exact er [(.p (.bool false), 4)]
            ·replace h := ite_f hc3_33 h
             refine k_skip ?_
             refine q_n ?_
             refine k_sreg (r_gq [(51, .ov false [.sl (some 3) (v28.1.map eI)]), (52, .p (.bool v28.2)), (55, .ov false [.sl (some 3) (v30.1.map eI)]), (56, .p (.bool v30.2)), (57, .p (iV 0))] [] trivial) ?_
             refine k_block ?_
             obtain ⟨y36, hl_x35, hk_x35⟩ := bs h
             clear h
             refine k_loop (J := fun (x : Int) => [(51, .ov false [.sl (some 3) (v28.1.map eI)]), (52, .p (.bool v28.2)), (55, .ov false [.sl (some 3) (v30.1.map eI)]), (56, .p (.bool v30.2)), (57, .p (iV x))]) hl_x35 (wk_of (by kernel_rfl) (by kernel_rfl)) (fun x35 o_x35 h hy_x35 => ?_)
             unfold laws_FnZeta_b1 at h
             refine k_seq ?_
             refine k_sreg (l1 := [(51, .ov false [.sl (some 3) (v28.1.map eI)]), (52, .p (.bool v28.2)), (55, .ov false [.sl (some 3) (v30.1.map eI)]), (56, .p (.bool v30.2)), (57, .p (iV x35)), (419, .p (.bool (v28.2 && (v30.2 && (decide (x35 < (v28.1.length : Int)))))))]) ?_ ?_
             ·rcases ft v28.2 with ha5 | ha5
              ·rcases ft v30.2 with ha6 | ha6
               ·exact RegOk.of_eq (l2 := [(51, .ov false [.sl (some 3) (v28.1.map eI)]), (52, .p (.bool v28.2)), (55, .ov false [.sl (some 3) (v30.1.map eI)]), (56, .p (.bool v30.2)), (57, .p (iV x35)), (419, .p (.bool (v28.2 && (v30.2 && (decide (x35 < (v28.1.length : Int)))))))]) (r_gq [(51, .ov false [.sl (some 3) (v28.1.map eI)]), (52, .p (.bool v28.2)), (55, .ov false [.sl (some 3) (v30.1.map eI)]), (56, .p (.bool v30.2)), (57, .p (iV x35)), (419, .p (.bool (decide (x35 < (v28.1.length : Int)))))] [(2, gT), (3, bT), (5, gT), (6, gT), (7, {g := some true, n := some v28.1.length}), (8, gT), (9, bT)] (B6 ha5 ha5 ha6 ha6 ha6 (show (v28.1.map eI).length = v28.1.length from (List.length_map ..)) (A2 ha6 ha6))) (by simp [ha5, ha6])
               ·exact RegOk.of_eq (l2 := [(51, .ov false [.sl (some 3) (v28.1.map eI)]), (52, .p (.bool v28.2)), (55, .ov false [.sl (some 3) (v30.1.map eI)]), (56, .p (.bool v30.2)), (57, .p (iV x35)), (419, .p (.bool (v28.2 && (v30.2 && (decide (x35 < (v28.1.length : Int)))))))]) (r_gq [(51, .ov false [.sl (some 3) (v28.1.map eI)]), (52, .p (.bool v28.2)), (55, .ov false [.sl (some 3) (v30.1.map eI)]), (56, .p (.bool v30.2)), (57, .p (iV x35)), (419, .p (.bool false))] [(2, gT), (3, bT), (5, gF), (6, gF), (7, gF), (8, gF), (9, bF)] (B6 ha5 ha5 ha6 ha6 ha6 ha6 (A1 ha6))) (by simp [ha5, ha6])
              ·exact RegOk.of_eq (l2 := [(51, .ov false [.sl (some 3) (v28.1.map eI)]), (52, .p (.bool v28.2)), (55, .ov false [.sl (some 3) (v30.1.map eI)]), (56, .p (.bool v30.2)), (57, .p (iV x35)), (419, .p (.bool (v28.2 && (v30.2 && (decide (x35 < (v28.1.length : Int)))))))]) (r_gq [(51, .ov false [.sl (some 3) (v28.1.map eI)]), (52, .p (.bool v28.2)), (55, .ov false [.sl (some 3) (v30.1.map eI)]), (56, .p (.bool v30.2)), (57, .p (iV x35)), (419, .p (.bool false))] [(2, gF), (3, bF), (5, gF), (6, gF), (7, gF), (8, gF), (9, bF)] (B6 ha5 ha5 (show false = false from rfl) (show false = false from rfl) (show false = false from rfl) (show false = false from rfl) (A1 (show false = false from rfl)))) (by simp [ha5])
             ·refine kc (v28.2 && (v30.2 && (decide (x35 < (v28.1.length : Int))))) (fun hc5_36 => ?_) (fun hc5_36 => ?_)
              ·replace h := ite_t hc5_36 h
               refine k_skip ?_
               refine q_n ?_
               refine k_seq ?_
               refine k_block ?_
               refine k_sreg (r_gq [(51, .ov false [.sl (some 3) (v28.1.map eI)]), (52, .p (.bool v28.2)), (55, .ov false [.sl (some 3) (v30.1.map eI)]), (56, .p (.bool v30.2)), (57, .p (iV x35)), (58, .p (iV 0))] [] trivial) ?_
               refine k_join (J := fun (x : Int) => [(51, .ov false [.sl (some 3) (v28.1.map eI)]), (52, .p (.bool v28.2)), (55, .ov false [.sl (some 3) (v30.1.map eI)]), (56, .p (.bool v30.2)), (57, .p (iV x35)), (58, .p (iV x))]) (K := fun x => laws_FnZeta_k5 v28 x35 x = some o_x35) (fun x38 h => ?_) ?_
               ·unfold laws_FnZeta_k5 at h
                replace h := bs h
                obtain ⟨v39, hv39, h⟩ := h
                refine k_sreg (r_gq [(51, .ov false [.sl (some 3) (v28.1.map eI)]), (52, .p (.bool v28.2)), (55, .ov false [.sl (some 3) (v30.1.map eI)]), (56, .p (.bool v30.2)), (57, .p (iV x35)), (435, .p (.bool (v39 != x38)))] [(2, {row := some (eI v39)}), (3, {row := some (eI v39)})] (A3 (yba hv39).1 (map_get eI (yba hv39).2) (show getRow [[.sl (some 3) (v28.1.map eI)]] [(0, 0), ((Int.toNat x35), 0)] = some (eI v39) from ((gr0 rfl).trans (gre (map_get eI (yba hv39).2)))))) ?_
                refine kc (v39 != x38) (fun hc6_39 => ?_) (fun hc6_39 => ?_)
                ·replace h := ite_t hc6_39 h
                 refine k_sreg (r_gq [(4, .p (.bool false))] [] trivial) ?_
                 refine k_ret ?_
                 refine b_r ?_
                 refine q_r ?_
                 refine lq_r ?_
                 refine b_r ?_
                 refine q_r ?_
                 have hyy := hy_x35 _ (oi h).symm
                 subst hyy
                 have h := hk_x35
                 dsimp only [Sum.elim] at h
                 obtain rfl := oi h
                 exact er [(.p (.bool false), 4)]
                ·replace h := ite_f hc6_39 h
                 refine k_skip ?_
                 refine b_n ?_
                 refine q_n ?_
                 refine k_reg (r_gq [(51, .ov false [.sl (some 3) (v28.1.map eI)]), (52, .p (.bool v28.2)), (55, .ov false [.sl (some 3) (v30.1.map eI)]), (56, .p (.bool v30.2)), (57, .p (iV (w64 (x35 + 1))))] [] trivial) ?_
                 exact lqn (w64 (x35 + 1)) h
               ·refine k_sreg (r_gq [(51, .ov false [.sl (some 3) (v28.1.map eI)]), (52, .p (.bool v28.2)), (55, .ov false [.sl (some 3) (v30.1.map eI)]), (56, .p (.bool v30.2)), (57, .p (iV x35)), (58, .p (iV 0)), (425, .p (.bool (decide (x35 < (v30.1.length : Int)))))] [(2, {n := some v30.1.length})] (A1 (show (v30.1.map eI).length = v30.1.length from (List.length_map ..)))) ?_
                refine kc (decide (x35 < (v30.1.length : Int))) (fun hc7_40 => ?_) (fun hc7_40 => ?_)
                ·replace h := ite_t hc7_40 h
                 replace h := bs h
                 obtain ⟨v42, hv42, h⟩ := h
                 refine k_reg (r_gq [(51, .ov false [.sl (some 3) (v28.1.map eI)]), (52, .p (.bool v28.2)), (55, .ov false [.sl (some 3) (v30.1.map eI)]), (56, .p (.bool v30.2)), (57, .p (iV x35)), (58, .p (iV v42))] [(2, {row := some (eI v42)}), (3, {row := some (eI v42)})] (A3 (yba hv42).1 (map_get eI (yba hv42).2) (show getRow [[.sl (some 3) (v30.1.map eI)]] [(0, 0), ((Int.toNat x35), 0)] = some (eI v42) from ((gr0 rfl).trans (gre (map_get eI (yba hv42).2)))))) ?_
                 refine q_n ?_
                 exact jx v42 h
                ·replace h := ite_f hc7_40 h
                 refine k_skip ?_
                 refine q_n ?_
                 exact jx 0 h
              ·replace h := ite_f hc5_36 h
               refine k_exit ?_
               refine q_x ?_
               refine lq_x ?_
               refine b_x ?_
               have hyy := hy_x35 _ (oi h).symm
               subst hyy
               have h := hk_x35
               dsimp only [Sum.elim] at h
               refine q_n ?_
               exact jx () h
          ·refine k_sreg (r_gq [(36, .ov false [.sl (some 26) (v17.1.map (eO 3 eI))]), (40, .ov false [.sl (some 3) (v19.1.map eI)]), (367, .p (.bool (decide (v17.2 > 8))))] [] trivial) ?_
           refine kc (decide (v17.2 > 8)) (fun hc3_42 => ?_) (fun hc3_42 => ?_)
           ·replace h := ite_t hc3_42 h
            replace h := bs h
            obtain ⟨u44, hu44, h⟩ := h
            refine k_reg (r_gq [(36, .ov false [.sl (some 26) (v17.1.map (eO 3 eI))]), (40, .ov false [.sl (some 3) ((v19.1.take (Int.toNat 8)).map eI)])] [(1, {fix := some (369, .ov false [.sl (some 3) ((v19.1.take (Int.toNat 8)).map eI)])})] (A3 (show (0 : Int) ≤ 8 from (show (0 : Int) ≤ 8 from (by decide))) (show 8 ≤ (List.length (v19.1.map eI) : Int) from (by have hg := (yca hu44).2; simpa using hg)) (show (SV.ov false [.sl (some 3) ((v19.1.map eI).take (Int.toNat 8))] : SV) = .ov false [.sl (some 3) ((v19.1.take (Int.toNat 8)).map eI)] from (congrArg (fun z => SV.ov false [.sl (some 3) z]) (List.map_take ..).symm)))) ?_
            refine q_n ?_
            exact jx (v19.1.take (Int.toNat 8)) h
           ·replace h := ite_f hc3_42 h
            refine k_skip ?_
            refine q_n ?_
            exact jx v19.1 h
         ·refine k_sreg (r_gq [(36, .ov false [.sl (some 26) (v17.1.map (eO 3 eI))]), (37, .p (iV v17.2)), (40, .ov false [.sl (some 3) (v19.1.map eI)]), (42, .p (iV 1))] [] trivial) ?_
          refine k_block ?_
          obtain ⟨y46, hl_x45, hk_x45⟩ := bs h
          clear h
          refine k_loop (J := fun (x : Int) => [(36, .ov false [.sl (some 26) (v17.1.map (eO 3 eI))]), (37, .p (iV v17.2)), (40, .ov false [.sl (some 3) (v19.1.map eI)]), (42, .p (iV x))]) hl_x45 (wk_of (by kernel_rfl) (by kernel_rfl)) (fun x45 o_x45 h hy_x45 => ?_)
          unfold laws_FnZeta_b2 at h
          refine k_seq ?_
          refine k_sreg (r_gq [(36, .ov false [.sl (some 26) (v17.1.map (eO 3 eI))]), (37, .p (iV v17.2)), (40, .ov false [.sl (some 3) (v19.1.map eI)]), (42, .p (iV x45)), (313, .p (.bool (decide (x45 ≤ v17.2))))] [] trivial) ?_
          refine kc (decide (x45 ≤ v17.2)) (fun hc6_46 => ?_) (fun hc6_46 => ?_)
          ·replace h := ite_t hc6_46 h
           refine k_skip ?_
           refine q_n ?_
           refine k_join (J := fun (x : Unit) => [(36, .ov false [.sl (some 26) (v17.1.map (eO 3 eI))]), (37, .p (iV v17.2)), (40, .ov false [.sl (some 3) (v19.1.map eI)]), (42, .p (iV x45))]) (K := fun x => laws_FnZeta_k6 x45 x = some o_x45) (fun x48 h => ?_) ?_
           ·unfold laws_FnZeta_k6 at h
            refine k_reg (r_gq [(36, .ov false [.sl (some 26) (v17.1.map (eO 3 eI))]), (37, .p (iV v17.2)), (40, .ov false [.sl (some 3) (v19.1.map eI)]), (42, .p (iV (w64 (x45 + 1))))] [] trivial) ?_
            exact lqn (w64 (x45 + 1)) h
           ·refine k_block ?_
            refine k_sreg (r_gq [(36, .ov false [.sl (some 26) (v17.1.map (eO 3 eI))]), (37, .p (iV v17.2)), (40, .ov false [.sl (some 3) (v19.1.map eI)]), (42, .p (iV x45)), (43, .p (iV 0))] [] trivial) ?_
            refine k_join (J := fun (x : Int) => [(36, .ov false [.sl (some 26) (v17.1.map (eO 3 eI))]), (37, .p (iV v17.2)), (40, .ov false [.sl (some 3) (v19.1.map eI)]), (42, .p (iV x45)), (43, .p (iV x))]) (K := fun x => laws_FnZeta_k7 v17 v19 x45 x = some o_x45) (fun x49 h => ?_) ?_
            ·unfold laws_FnZeta_k7 at h
             replace h := bs h
             obtain ⟨v50, hv50, h⟩ := h
             refine k_sreg (r_gq [(36, .ov false [.sl (some 26) (v17.1.map (eO 3 eI))]), (37, .p (iV v17.2)), (40, .ov false [.sl (some 3) (v19.1.map eI)]), (42, .p (iV x45)), (43, .p (iV x49)), (45, .p (iV v50.1)), (46, .p (.bool v50.2))] [(2, {call := some (some [.d false [.sl none (v17.1.map (eF eI))], wI x45], [.p (iV v50.1), .p (.bool v50.2)], true)})] (A2 (show ([.d false [.sl none (eraL (v17.1.map (eO 3 eI)))], wI x45] : List Arg) = [.d false [.sl none (v17.1.map (eF eI))], wI x45] from (by simp only [yea (h := (eF eI)) (era_O er_I)])) (wk_impl_ClosedWalks hv50))) ?_
             replace h := bs h
             obtain ⟨v51, hv51, h⟩ := h
             refine k_sreg (r_gq [(36, .ov false [.sl (some 26) (v17.1.map (eO 3 eI))]), (37, .p (iV v17.2)), (40, .ov false [.sl (some 3) (v19.1.map eI)]), (42, .p (iV x45)), (43, .p (iV x49)), (45, .p (iV v50.1)), (46, .p (.bool v50.2)), (47, .p (iV v51.1)), (48, .p (.bool v51.2))] [(2, {call := some (some [.d false [.sl none (v17.1.map (eF eI))], wI x45], [.p (iV v51.1), .p (.bool v51.2)], true)})] (A2 (show ([.d false [.sl none (eraL (v17.1.map (eO 3 eI)))], wI x45] : List Arg) = [.d false [.sl none (v17.1.map (eF eI))], wI x45] from (by simp only [yea (h := (eF eI)) (era_O er_I)])) (wk_impl_CycleCount hv51))) ?_
             replace h := bs h
             obtain ⟨w53, hw53, h⟩ := h
             refine k_sreg (l1 := [(36, .ov false [.sl (some 26) (v17.1.map (eO 3 eI))]), (37, .p (iV v17.2)), (40, .ov false [.sl (some 3) (v19.1.map eI)]), (42, .p (iV x45)), (365, .p (.bool w53))]) ?_ ?_
             ·clear h
              rcases ft (!v50.2) with ha5 | ha5
              ·replace hw53 := ite_t ha5 hw53
               have hw53 := oi hw53
               subst hw53
               exact (r_gq [(36, .ov false [.sl (some 26) (v17.1.map (eO 3 eI))]), (37, .p (iV v17.2)), (40, .ov false [.sl (some 3) (v19.1.map eI)]), (42, .p (iV x45)), (365, .p (.bool true))] [(3, gT), (4, gT), (5, gT), (6, bT), (8, gT), (9, gT), (10, bT), (12, gT), (13, gT), (14, gT), (15, gT), (16, gT), (17, gT), (18, gT), (19, bT)] (B6 ha5 ha5 ha5 ha5 (show true = true from rfl) (show true = true from rfl) (B6 (show true = true from rfl) (show true = true from rfl) (show true = true from rfl) (show true = true from rfl) (show true = true from rfl) (show true = true from rfl) (A3 (show true = true from rfl) (show true = true from rfl) (show true = true from rfl)))))
              ·replace hw53 := ite_f ha5 hw53
               rcases ft (v50.1 != x49) with ha6 | ha6
               ·replace hw53 := ite_t ha6 hw53
                have hw53 := oi hw53
                subst hw53
                exact (r_gq [(36, .ov false [.sl (some 26) (v17.1.map (eO 3 eI))]), (37, .p (iV v17.2)), (40, .ov false [.sl (some 3) (v19.1.map eI)]), (42, .p (iV x45)), (365, .p (.bool true))] [(3, gF), (4, gF), (5, gF), (6, bF), (8, gT), (9, gT), (10, bT), (12, gT), (13, gT), (14, gT), (15, gT), (16, gT), (17, gT), (18, gT), (19, bT)] (B6 ha5 ha5 ha5 ha5 ha6 ha6 (B6 ha6 (show true = true from rfl) (show true = true from rfl) (show true = true from rfl) (show true = true from rfl) (show true = true from rfl) (A3 (show true = true from rfl) (show true = true from rfl) (show true = true from rfl)))))
               ·replace hw53 := ite_f ha6 hw53
                rcases ft (!v51.2) with ha7 | ha7
                ·replace hw53 := ite_t ha7 hw53
                 have hw53 := oi hw53
                 subst hw53
                 exact (r_gq [(36, .ov false [.sl (some 26) (v17.1.map (eO 3 eI))]), (37, .p (iV v17.2)), (40, .ov false [.sl (some 3) (v19.1.map eI)]), (42, .p (iV x45)), (365, .p (.bool true))] [(3, gF), (4, gF), (5, gF), (6, bF), (8, gF), (9, gF), (10, bF), (12, gT), (13, gT), (14, gT), (15, gT), (16, gT), (17, gT), (18, gT), (19, bT)] (B6 ha5 ha5 ha5 ha5 ha6 ha6 (B6 ha6 ha7 ha7 ha7 ha7 ha7 (A3 ha7 ha7 ha7))))
                ·replace hw53 := ite_f ha7 hw53
                 replace hw53 := bs hw53
                 obtain ⟨v52, hv52, hw53⟩ := hw53
                 have hw53 := oi hw53
                 subst hw53
                 exact (r_gq [(36, .ov false [.sl (some 26) (v17.1.map (eO 3 eI))]), (37, .p (iV v17.2)), (40, .ov false [.sl (some 3) (v19.1.map eI)]), (42, .p (iV x45)), (365, .p (.bool (v51.1 != v52)))] [(3, gF), (4, gF), (5, gF), (6, bF), (8, gF), (9, gF), (10, bF), (12, gF), (13, gF), (14, gF), (15, gF), (16, {g := some false, row := some (eI v52)}), (17, {g := some false, row := some (eI v52)}), (18, gF), (19, bF)] (B6 ha5 ha5 ha5 ha5 ha6 ha6 (B6 ha6 ha7 ha7 ha7 ha7 ha7 (A6 (yba hv52).1 (map_get eI (yba hv52).2) ha7 (show getRow [[.sl (some 3) (v19.1.map eI)]] [(0, 0), ((Int.toNat (w64 (x45 - 1))), 0)] = some (eI v52) from ((gr0 rfl).trans (gre (map_get eI (yba hv52).2)))) ha7 ha7))))
             ·refine kc w53 (fun hc7_53 => ?_) (fun hc7_53 => ?_)
              ·replace h := ite_t hc7_53 h
               refine k_sreg (r_gq [(4, .p (.bool false))] [] trivial) ?_
               refine k_ret ?_
               refine b_r ?_
               refine q_r ?_
               refine lq_r ?_
               refine b_r ?_
               refine q_r ?_
               refine q_r ?_
               have hyy := hy_x45 _ (oi h).symm
               subst hyy
               have h := hk_x45
               dsimp only [Sum.elim] at h
               obtain rfl := oi h
               exact er [(.p (.bool false), 4)]
              ·replace h := ite_f hc7_53 h
               refine k_skip ?_
               refine b_n ?_
               refine q_n ?_
               exact jx () h
            ·refine k_sreg (r_gq [(36, .ov false [.sl (some 26) (v17.1.map (eO 3 eI))]), (37, .p (iV v17.2)), (40, .ov false [.sl (some 3) (v19.1.map eI)]), (42, .p (iV x45)), (43, .p (iV 0)), (44, .p (iV 1))] [] trivial) ?_
             refine k_block ?_
             obtain ⟨y56, hl_x55, hk_x55⟩ := bs h
             clear h
             refine k_loop (J := fun (x : Qr) => [(36, .ov false [.sl (some 26) (v17.1.map (eO 3 eI))]), (37, .p (iV v17.2)), (40, .ov false [.sl (some 3) (v19.1.map eI)]), (42, .p (iV x45)), (43, .p (iV x.1)), (44, .p (iV x.2))]) hl_x55 (wk_of (by kernel_rfl) (by kernel_rfl)) (fun x55 o_x55 h hy_x55 => ?_)
             unfold laws_FnZeta_b3 at h
             refine k_seq ?_
             refine k_sreg (r_gq [(36, .ov false [.sl (some 26) (v17.1.map (eO 3 eI))]), (37, .p (iV v17.2)), (40, .ov false [.sl (some 3) (v19.1.map eI)]), (42, .p (iV x45)), (43, .p (iV x55.1)), (44, .p (iV x55.2)), (318, .p (.bool (decide (x55.2 ≤ x45))))] [] trivial) ?_
             refine kc (decide (x55.2 ≤ x45)) (fun hc11_56 => ?_) (fun hc11_56 => ?_)
             ·replace h := ite_t hc11_56 h
              refine k_skip ?_
              refine q_n ?_
              refine k_seq ?_
              refine k_block ?_
              replace h := bs h
              obtain ⟨u58, hu58, h⟩ := h
              refine k_sreg (r_gq [(36, .ov false [.sl (some 26) (v17.1.map (eO 3 eI))]), (37, .p (iV v17.2)), (40, .ov false [.sl (some 3) (v19.1.map eI)]), (42, .p (iV x45)), (43, .p (iV x55.1)), (44, .p (iV x55.2)), (324, .p (.bool ((Int.tmod x45 x55.2) == 0)))] [] (A1 (yca hu58))) ?_
              refine kc ((Int.tmod x45 x55.2) == 0) (fun hc12_58 => ?_) (fun hc12_58 => ?_)
              ·replace h := ite_t hc12_58 h
               replace h := bs h
               obtain ⟨v60, hv60, h⟩ := h
               refine k_reg (r_gq [(36, .ov false [.sl (some 26) (v17.1.map (eO 3 eI))]), (37, .p (iV v17.2)), (40, .ov false [.sl (some 3) (v19.1.map eI)]), (42, .p (iV x45)), (43, .p (iV (w64 (x55.1 + (w64 (x55.2 * v60)))))), (44, .p (iV x55.2))] [(5, {row := some (eI v60)}), (6, {row := some (eI v60)})] (A3 (yba hv60).1 (map_get eI (yba hv60).2) (show getRow [[.sl (some 3) (v19.1.map eI)]] [(0, 0), ((Int.toNat (w64 (x55.2 - 1))), 0)] = some (eI v60) from ((gr0 rfl).trans (gre (map_get eI (yba hv60).2)))))) ?_
               refine b_n ?_
               refine q_n ?_
               refine k_reg (r_gq [(36, .ov false [.sl (some 26) (v17.1.map (eO 3 eI))]), (37, .p (iV v17.2)), (40, .ov false [.sl (some 3) (v19.1.map eI)]), (42, .p (iV x45)), (43, .p (iV (w64 (x55.1 + (w64 (x55.2 * v60)))))), (44, .p (iV (w64 (x55.2 + 1))))] [] trivial) ?_
               exact lqn ((w64 (x55.1 + (w64 (x55.2 * v60)))), (w64 (x55.2 + 1))) h
              ·replace h := ite_f hc12_58 h
               refine k_skip ?_
               refine b_n ?_
               refine q_n ?_
               refine k_reg (r_gq [(36, .ov false [.sl (some 26) (v17.1.map (eO 3 eI))]), (37, .p (iV v17.2)), (40, .ov false [.sl (some 3) (v19.1.map eI)]), (42, .p (iV x45)), (43, .p (iV x55.1)), (44, .p (iV (w64 (x55.2 + 1))))] [] trivial) ?_
               exact lqn (x55.1, (w64 (x55.2 + 1))) h
             ·replace h := ite_f hc11_56 h
              refine k_exit ?_
              refine q_x ?_
              refine lq_x ?_
              refine b_x ?_
              have hyy := hy_x55 _ (oi h).symm
              subst hyy
              have h := hk_x55
              refine q_n ?_
              exact jx x55.1 h
          ·replace h := ite_f hc6_46 h
           refine k_exit ?_
           refine q_x ?_
           refine lq_x ?_
           refine b_x ?_
           have hyy := hy_x45 _ (oi h).symm
           subst hyy
           have h := hk_x45
           dsimp only [Sum.elim] at h
           refine q_n ?_
           exact jx () h
        ·replace h := ite_f hc2_23 h
         refine k_skip ?_
         refine q_n ?_
         exact jx () h
    ·refine k_sreg (r_gq [(1, .d false [.sl none (a1.map (eU .u8))]), (5, .ov false [.sl (some 26) (v3.map (eO 3 eI))]), (6, .ov false [.sl (some 3) (v4.1.map eI)]), (8, .ov false [.sl (some 3) (v5.1.map eI)]), (12, .ov false [.sl (some 3) (v7.1.map eI)]), (16, .p (iV v9.1)), (20, .p (iV v11.1)), (161, .p (.bool v4.2))] [] trivial) ?_
     refine kc v4.2 (fun hc2_60 => ?_) (fun hc2_60 => ?_)
     ·replace h := ite_t hc2_60 h
      refine k_sreg (r_gq [(1, .d false [.sl none (a1.map (eU .u8))]), (5, .ov false [.sl (some 26) (v3.map (eO 3 eI))]), (6, .ov false [.sl (some 3) (v4.1.map eI)]), (8, .ov false [.sl (some 3) (v5.1.map eI)]), (12, .ov false [.sl (some 3) (v7.1.map eI)]), (16, .p (iV v9.1)), (20, .p (iV v11.1)), (22, .p (iV (v3.length : Int)))] [(1, {n := some v3.length})] (A1 (show (v3.map (eO 3 eI)).length = v3.length from (List.length_map ..)))) ?_
      refine k_sreg (r_gq [(1, .d false [.sl none (a1.map (eU .u8))]), (5, .ov false [.sl (some 26) (v3.map (eO 3 eI))]), (6, .ov false [.sl (some 3) (v4.1.map eI)]), (8, .ov false [.sl (some 3) (v5.1.map eI)]), (12, .ov false [.sl (some 3) (v7.1.map eI)]), (16, .p (iV v9.1)), (20, .p (iV v11.1)), (22, .p (iV (v3.length : Int))), (23, .p (iV 1))] [] trivial) ?_
      refine k_join (J := fun (x : Int) => [(1, .d false [.sl none (a1.map (eU .u8))]), (5, .ov false [.sl (some 26) (v3.map (eO 3 eI))]), (6, .ov false [.sl (some 3) (v4.1.map eI)]), (8, .ov false [.sl (some 3) (v5.1.map eI)]), (12, .ov false [.sl (some 3) (v7.1.map eI)]), (16, .p (iV v9.1)), (20, .p (iV v11.1)), (22, .p (iV (v3.length : Int))), (23, .p (iV x))]) (K := fun x => laws_FnZeta_k8 a1 v3 v4 v5 v7 v9 v11 x = some r) (fun x62 h => ?_) ?_
      ·unfold laws_FnZeta_k8 at h
       refine k_seq ?_
       replace h := bs h
       obtain ⟨w67, hw67, h⟩ := h
       refine k_sreg (l1 := [(1, .d false [.sl none (a1.map (eU .u8))]), (5, .ov false [.sl (some 26) (v3.map (eO 3 eI))]), (6, .ov false [.sl (some 3) (v4.1.map eI)]), (8, .ov false [.sl (some 3) (v5.1.map eI)]), (12, .ov false [.sl (some 3) (v7.1.map eI)]), (22, .p (iV (v3.length : Int))), (210, .p (.bool w67))]) ?_ ?_
       ·clear h
        rcases ft ((v5.1.length : Int) != (w64 ((v3.length : Int) + 1))) with ha3 | ha3
        ·replace hw67 := ite_t ha3 hw67
         have hw67 := oi hw67
         subst hw67
         exact (r_gq [(1, .d false [.sl none (a1.map (eU .u8))]), (5, .ov false [.sl (some 26) (v3.map (eO 3 eI))]), (6, .ov false [.sl (some 3) (v4.1.map eI)]), (8, .ov false [.sl (some 3) (v5.1.map eI)]), (12, .ov false [.sl (some 3) (v7.1.map eI)]), (22, .p (iV (v3.length : Int))), (210, .p (.bool true))] [(1, {n := some v5.1.length}), (6, gT), (7, gT), (8, gT), (9, gT), (10, gT), (11, bT), (13, gT), (14, gT), (15, gT), (16, gT), (17, gT), (18, gT), (19, gT), (20, gT), (21, bT), (23, gT), (24, gT), (25, gT), (26, gT), (27, gT), (28, gT), (29, gT), (30, bT), (32, gT), (33, gT), (34, gT), (35, gT), (36, bT), (38, gT), (39, gT), (40, gT), (41, gT), (42, gT), (43, bT)] (B6 (show (v5.1.map eI).length = v5.1.length from (List.length_map ..)) ha3 ha3 ha3 ha3 ha3 (B6 ha3 (show true = true from rfl) (show true = true from rfl) (show true = true from rfl) (show true = true from rfl) (show true = true from rfl) (B6 (show true = true from rfl) (show true = true from rfl) (show true = true from rfl) (show true = true from rfl) (show true = true from rfl) (show true = true from rfl) (B6 (show true = true from rfl) (show true = true from rfl) (show true = true from rfl) (show true = true from rfl) (show true = true from rfl) (show true = true from rfl) (B6 (show true = true from rfl) (show true = true from rfl) (show true = true from rfl) (show true = true from rfl) (show true = true from rfl) (show true = true from rfl) (A5 (show true = true from rfl) (show true = true from rfl) (show true = true from rfl) (show true = true from rfl) (show true = true from rfl))))))))
        ·replace hw67 := ite_f ha3 hw67
         replace hw67 := bs hw67
         obtain ⟨v63, hv63, hw67⟩ := hw67
         rcases ft (v63 != 1) with ha4 | ha4
         ·replace hw67 := ite_t ha4 hw67
          have hw67 := oi hw67
          subst hw67
          exact (r_gq [(1, .d false [.sl none (a1.map (eU .u8))]), (5, .ov false [.sl (some 26) (v3.map (eO 3 eI))]), (6, .ov false [.sl (some 3) (v4.1.map eI)]), (8, .ov false [.sl (some 3) (v5.1.map eI)]), (12, .ov false [.sl (some 3) (v7.1.map eI)]), (22, .p (iV (v3.length : Int))), (210, .p (.bool true))] [(1, {n := some v5.1.length}), (6, gF), (7, gF), (8, {g := some false, row := some (eI v63)}), (9, {g := some false, row := some (eI v63)}), (10, gF), (11, bF), (13, gT), (14, gT), (15, gT), (16, gT), (17, gT), (18, gT), (19, gT), (20, gT), (21, bT), (23, gT), (24, gT), (25, gT), (26, gT), (27, gT), (28, gT), (29, gT), (30, bT), (32, gT), (33, gT), (34, gT), (35, gT), (36, bT), (38, gT), (39, gT), (40, gT), (41, gT), (42, gT), (43, bT)] (B6 (show (v5.1.map eI).length = v5.1.length from (List.length_map ..)) ha3 ha3 ha3 (yba hv63).1 (map_get eI (yba hv63).2) (B6 ha3 (show getRow [[.sl (some 3) (v5.1.map eI)]] [(0, 0), ((Int.toNat (v3.length : Int)), 0)] = some (eI v63) from ((gr0 rfl).trans (gre (map_get eI (yba hv63).2)))) ha3 ha3 ha4 ha4 (B6 ha4 ha4 ha4 ha4 ha4 ha4 (B6 ha4 (show true = true from rfl) (show true = true from rfl) (show true = true from rfl) (show true = true from rfl) (show true = true from rfl) (B6 (show true = true from rfl) (show true = true from rfl) (show true = true from rfl) (show true = true from rfl) (show true = true from rfl) (show true = true from rfl) (B6 (show true = true from rfl) (show true = true from rfl) (show true = true from rfl) (show true = true from rfl) (show true = true from rfl) (show true = true from rfl) (A2 (show true = true from rfl) (show true = true from rfl)))))))))
         ·replace hw67 := ite_f ha4 hw67
          replace hw67 := bs hw67
          obtain ⟨v64, hv64, hw67⟩ := hw67
          rcases ft (v64 != (w64 (0 - v11.1))) with ha5 | ha5
          ·replace hw67 := ite_t ha5 hw67
           have hw67 := oi hw67
           subst hw67
           exact (r_gq [(1, .d false [.sl none (a1.map (eU .u8))]), (5, .ov false [.sl (some 26) (v3.map (eO 3 eI))]), (6, .ov false [.sl (some 3) (v4.1.map eI)]), (8, .ov false [.sl (some 3) (v5.1.map eI)]), (12, .ov false [.sl (some 3) (v7.1.map eI)]), (22, .p (iV (v3.length : Int))), (210, .p (.bool true))] [(1, {n := some v5.1.length}), (6, gF), (7, gF), (8, {g := some false, row := some (eI v63)}), (9, {g := some false, row := some (eI v63)}), (10, gF), (11, bF), (13, gF), (14, gF), (15, gF), (16, {g := some false, row := some (eI v64)}), (17, {g := some false, row := some (eI v64)}), (18, gF), (19, gF), (20, gF), (21, bF), (23, gT), (24, gT), (25, gT), (26, gT), (27, gT), (28, gT), (29, gT), (30, bT), (32, gT), (33, gT), (34, gT), (35, gT), (36, bT), (38, gT), (39, gT), (40, gT), (41, gT), (42, gT), (43, bT)] (B6 (show (v5.1.map eI).length = v5.1.length from (List.length_map ..)) ha3 ha3 ha3 (yba hv63).1 (map_get eI (yba hv63).2) (B6 ha3 (show getRow [[.sl (some 3) (v5.1.map eI)]] [(0, 0), ((Int.toNat (v3.length : Int)), 0)] = some (eI v63) from ((gr0 rfl).trans (gre (map_get eI (yba hv63).2)))) ha3 ha3 ha4 ha4 (B6 ha4 ha4 (yba hv64).1 (map_get eI (yba hv64).2) ha4 (show getRow [[.sl (some 3) (v5.1.map eI)]] [(0, 0), ((Int.toNat (w64 ((v3.length : Int) - 1))), 0)] = some (eI v64) from ((gr0 rfl).trans (gre (map_get eI (yba hv64).2)))) (B6 ha4 ha4 ha4 ha4 ha5 ha5 (B6 ha5 ha5 ha5 ha5 ha5 ha5 (B6 (show true = true from rfl) (show true = true from rfl) (show true = true from rfl) (show true = true from rfl) (show true = true from rfl) (show true = true from rfl) (A5 (show true = true from rfl) (show true = true from rfl) (show true = true from rfl) (show true = true from rfl) (show true = true from rfl)))))))))
          ·replace hw67 := ite_f ha5 hw67
           replace hw67 := bs hw67
           obtain ⟨v65, hv65, hw67⟩ := hw67
           rcases ft ((w64 (x62 * v65)) != v9.1) with ha6 | ha6
           ·replace hw67 := ite_t ha6 hw67
            have hw67 := oi hw67
            subst hw67
            exact (r_gq [(1, .d false [.sl none (a1.map (eU .u8))]), (5, .ov false [.sl (some 26) (v3.map (eO 3 eI))]), (6, .ov false [.sl (some 3) (v4.1.map eI)]), (8, .ov false [.sl (some 3) (v5.1.map eI)]), (12, .ov false [.sl (some 3) (v7.1.map eI)]), (22, .p (iV (v3.length : Int))), (210, .p (.bool true))] [(1, {n := some v5.1.length}), (6, gF), (7, gF), (8, {g := some false, row := some (eI v63)}), (9, {g := some false, row := some (eI v63)}), (10, gF), (11, bF), (13, gF), (14, gF), (15, gF), (16, {g := some false, row := some (eI v64)}), (17, {g := some false, row := some (eI v64)}), (18, gF), (19, gF), (20, gF), (21, bF), (23, gF), (24, gF), (25, {g := some false, row := some (eI v65)}), (26, {g := some false, row := some (eI v65)}), (27, gF), (28, gF), (29, gF), (30, bF), (32, gT), (33, gT), (34, gT), (35, gT), (36, bT), (38, gT), (39, gT), (40, gT), (41, gT), (42, gT), (43, bT)] (B6 (show (v5.1.map eI).length = v5.1.length from (List.length_map ..)) ha3 ha3 ha3 (yba hv63).1 (map_get eI (yba hv63).2) (B6 ha3 (show getRow [[.sl (some 3) (v5.1.map eI)]] [(0, 0), ((Int.toNat (v3.length : Int)), 0)] = some (eI v63) from ((gr0 rfl).trans (gre (map_get eI (yba hv63).2)))) ha3 ha3 ha4 ha4 (B6 ha4 ha4 (yba hv64).1 (map_get eI (yba hv64).2) ha4 (show getRow [[.sl (some 3) (v5.1.map eI)]] [(0, 0), ((Int.toNat (w64 ((v3.length : Int) - 1))), 0)] = some (eI v64) from ((gr0 rfl).trans (gre (map_get eI (yba hv64).2)))) (B6 ha4 ha4 ha4 ha4 ha5 ha5 (B6 ha5 (yba hv65).1 (map_get eI (yba hv65).2) ha5 (show getRow [[.sl (some 3) (v5.1.map eI)]] [(0, 0), ((Int.toNat 0), 0)] = some (eI v65) from ((gr0 rfl).trans (gre (map_get eI (yba hv65).2)))) ha5 (B6 ha5 ha5 ha5 ha6 ha6 ha6 (B6 ha6 ha6 (show true = true from rfl) (show true = true from rfl) (show true = true from rfl) (show true = true from rfl) (A2 (show true = true from rfl) (show true = true from rfl))))))))))
           ·replace hw67 := ite_f ha6 hw67
            replace hw67 := bs hw67
            obtain ⟨v66, hv66, hw67⟩ := hw67
            rcases ft (v66 != 1) with ha7 | ha7
            ·replace hw67 := ite_t ha7 hw67
             have hw67 := oi hw67
             subst hw67
             exact (r_gq [(1, .d false [.sl none (a1.map (eU .u8))]), (5, .ov false [.sl (some 26) (v3.map (eO 3 eI))]), (6, .ov false [.sl (some 3) (v4.1.map eI)]), (8, .ov false [.sl (some 3) (v5.1.map eI)]), (12, .ov false [.sl (some 3) (v7.1.map eI)]), (22, .p (iV (v3.length : Int))), (210, .p (.bool true))] [(1, {n := some v5.1.length}), (6, gF), (7, gF), (8, {g := some false, row := some (eI v63)}), (9, {g := some false, row := some (eI v63)}), (10, gF), (11, bF), (13, gF), (14, gF), (15, gF), (16, {g := some false, row := some (eI v64)}), (17, {g := some false, row := some (eI v64)}), (18, gF), (19, gF), (20, gF), (21, bF), (23, gF), (24, gF), (25, {g := some false, row := some (eI v65)}), (26, {g := some false, row := some (eI v65)}), (27, gF), (28, gF), (29, gF), (30, bF), (32, gF), (33, {g := some false, row := some (eI v66)}), (34, {g := some false, row := some (eI v66)}), (35, gF), (36, bF), (38, gT), (39, gT), (40, gT), (41, gT), (42, gT), (43, bT)] (B6 (show (v5.1.map eI).length = v5.1.length from (List.length_map ..)) ha3 ha3 ha3 (yba hv63).1 (map_get eI (yba hv63).2) (B6 ha3 (show getRow [[.sl (some 3) (v5.1.map eI)]] [(0, 0), ((Int.toNat (v3.length : Int)), 0)] = some (eI v63) from ((gr0 rfl).trans (gre (map_get eI (yba hv63).2)))) ha3 ha3 ha4 ha4 (B6 ha4 ha4 (yba hv64).1 (map_get eI (yba hv64).2) ha4 (show getRow [[.sl (some 3) (v5.1.map eI)]] [(0, 0), ((Int.toNat (w64 ((v3.length : Int) - 1))), 0)] = some (eI v64) from ((gr0 rfl).trans (gre (map_get eI (yba hv64).2)))) (B6 ha4 ha4 ha4 ha4 ha5 ha5 (B6 ha5 (yba hv65).1 (map_get eI (yba hv65).2) ha5 (show getRow [[.sl (some 3) (v5.1.map eI)]] [(0, 0), ((Int.toNat 0), 0)] = some (eI v65) from ((gr0 rfl).trans (gre (map_get eI (yba hv65).2)))) ha5 (B6 ha5 ha5 ha5 ha6 ha6 (yba hv66).1 (B6 (map_get eI (yba hv66).2) ha6 (show getRow [[.sl (some 3) (v7.1.map eI)]] [(0, 0), ((Int.toNat 0), 0)] = some (eI v66) from ((gr0 rfl).trans (gre (map_get eI (yba hv66).2)))) ha6 ha6 ha7 (A5 ha7 ha7 ha7 ha7 ha7)))))))))
            ·replace hw67 := ite_f ha7 hw67
             have hw67 := oi hw67
             subst hw67
             exact (r_gq [(1, .d false [.sl none (a1.map (eU .u8))]), (5, .ov false [.sl (some 26) (v3.map (eO 3 eI))]), (6, .ov false [.sl (some 3) (v4.1.map eI)]), (8, .ov false [.sl (some 3) (v5.1.map eI)]), (12, .ov false [.sl (some 3) (v7.1.map eI)]), (22, .p (iV (v3.length : Int))), (210, .p (.bool (decide ((v7.1.length : Int) > (w64 ((v3.length : Int) + 1))))))] [(1, {n := some v5.1.length}), (6, gF), (7, gF), (8, {g := some false, row := some (eI v63)}), (9, {g := some false, row := some (eI v63)}), (10, gF), (11, bF), (13, gF), (14, gF), (15, gF), (16, {g := some false, row := some (eI v64)}), (17, {g := some false, row := some (eI v64)}), (18, gF), (19, gF), (20, gF), (21, bF), (23, gF), (24, gF), (25, {g := some false, row := some (eI v65)}), (26, {g := some false, row := some (eI v65)}), (27, gF), (28, gF), (29, gF), (30, bF), (32, gF), (33, {g := some false, row := some (eI v66)}), (34, {g := some false, row := some (eI v66)}), (35, gF), (36, bF), (38, gF), (39, {g := some false, n := some v7.1.length}), (40, gF), (41, gF), (42, gF), (43, bF)] (B6 (show (v5.1.map eI).length = v5.1.length from (List.length_map ..)) ha3 ha3 ha3 (yba hv63).1 (map_get eI (yba hv63).2) (B6 ha3 (show getRow [[.sl (some 3) (v5.1.map eI)]] [(0, 0), ((Int.toNat (v3.length : Int)), 0)] = some (eI v63) from ((gr0 rfl).trans (gre (map_get eI (yba hv63).2)))) ha3 ha3 ha4 ha4 (B6 ha4 ha4 (yba hv64).1 (map_get eI (yba hv64).2) ha4 (show getRow [[.sl (some 3) (v5.1.map eI)]] [(0, 0), ((Int.toNat (w64 ((v3.length : Int) - 1))), 0)] = some (eI v64) from ((gr0 rfl).trans (gre (map_get eI (yba hv64).2)))) (B6 ha4 ha4 ha4 ha4 ha5 ha5 (B6 ha5 (yba hv65).1 (map_get eI (yba hv65).2) ha5 (show getRow [[.sl (some 3) (v5.1.map eI)]] [(0, 0), ((Int.toNat 0), 0)] = some (eI v65) from ((gr0 rfl).trans (gre (map_get eI (yba hv65).2)))) ha5 (B6 ha5 ha5 ha5 ha6 ha6 (yba hv66).1 (B6 (map_get eI (yba hv66).2) ha6 (show getRow [[.sl (some 3) (v7.1.map eI)]] [(0, 0), ((Int.toNat 0), 0)] = some (eI v66) from ((gr0 rfl).trans (gre (map_get eI (yba hv66).2)))) ha6 ha6 ha7 (A6 ha7 (show (v7.1.map eI).length = v7.1.length from (List.length_map ..)) ha7 ha7 ha7 ha7)))))))))
       ·refine kc w67 (fun hc3_67 => ?_) (fun hc3_67 => ?_)
        ·replace h := ite_t hc3_67 h
         refine k_sreg (r_gq [(4, .p (.bool false))] [] trivial) ?_
         refine k_ret ?_
         refine q_r ?_
         refine q_r ?_
         obtain rfl := oi h
         exact er [(.p (.bool false), 4)]
        ·replace h := ite_f hc3_67 h
         refine k_skip ?_
         refine q_n ?_
         refine k_join (J := fun (x : Unit) => [(1, .d false [.sl none (a1.map (eU .u8))]), (5, .ov false [.sl (some 26) (v3.map (eO 3 eI))]), (6, .ov false [.sl (some 3) (v4.1.map eI)]), (8, .ov false [.sl (some 3) (v5.1.map eI)])]) (K := fun x => laws_FnZeta_k9 a1 v3 v4 v5 x = some r) (fun x69 h => ?_) ?_
         ·unfold laws_FnZeta_k9 at h
          replace h := bs h
          obtain ⟨v70, hv70, h⟩ := h
          refine k_sreg (r_gq [(1, .d false [.sl none (a1.map (eU .u8))]), (5, .ov false [.sl (some 26) (v3.map (eO 3 eI))]), (8, .ov false [.sl (some 3) (v5.1.map eI)]), (26, .ov false [.sl (some 3) (v70.1.map eI)]), (27, .p (.bool v70.2))] [(1, {call := some (some [.d false [.sl none (v4.1.map eI)], wI 6], [.ov false [.sl (some 3) (v70.1.map eI)], .p (.bool v70.2)], true)})] (A3 (show ([.d false [.sl none (eraL (v4.1.map eI))], wI 6] : List Arg) = [.d false [.sl none (v4.1.map eI)], wI 6] from (by simp only [yea (h := eI) er_I])) (wk_impl_PowerSums hv70) (show List.all [.ov false [.sl (some 3) (v70.1.map eI)], .p (.bool v70.2)] simpleR = true from (sa_o (wnR1 (wnL_enc wn_I) rfl) (sa_p rfl))))) ?_
          replace h := bs h
          obtain ⟨v71, hv71, h⟩ := h
          refine k_sreg (r_gq [(1, .d false [.sl none (a1.map (eU .u8))]), (5, .ov false [.sl (some 26) (v3.map (eO 3 eI))]), (26, .ov false [.sl (some 3) (v70.1.map eI)]), (27, .p (.bool v70.2)), (28, .ov false [.sl (some 3) (v71.1.map eI)]), (29, .p (.bool v71.2))] [(1, {call := some (some [.d false [.sl none (v5.1.map eI)], wI 6], [.ov false [.sl (some 3) (v71.1.map eI)], .p (.bool v71.2)], true)})] (A3 (show ([.d false [.sl none (eraL (v5.1.map eI))], wI 6] : List Arg) = [.d false [.sl none (v5.1.map eI)], wI 6] from (by simp only [yea (h := eI) er_I])) (wk_spec_PowerSums hv71) (show List.all [.ov false [.sl (some 3) (v71.1.map eI)], .p (.bool v71.2)] simpleR = true from (sa_o (wnR1 (wnL_enc wn_I) rfl) (sa_p rfl))))) ?_
          refine k_seq ?_
          replace h := bs h
          obtain ⟨w73, hw73, h⟩ := h
          refine k_sreg (l1 := [(1, .d false [.sl none (a1.map (eU .u8))]), (5, .ov false [.sl (some 26) (v3.map (eO 3 eI))]), (28, .ov false [.sl (some 3) (v71.1.map eI)]), (245, .p (.bool w73))]) ?_ ?_
          ·clear h
           rcases ft (!(v70.2 == v71.2)) with ha4 | ha4
           ·replace hw73 := ite_t ha4 hw73
            have hw73 := oi hw73
            subst hw73
            exact (r_gq [(1, .d false [.sl none (a1.map (eU .u8))]), (5, .ov false [.sl (some 26) (v3.map (eO 3 eI))]), (28, .ov false [.sl (some 3) (v71.1.map eI)]), (245, .p (.bool true))] [(4, gT), (5, gT), (6, gT), (7, gT), (8, bT)] (A5 ha4 ha4 ha4 ha4 ha4))
           ·replace hw73 := ite_f ha4 hw73
            replace hw73 := bs hw73
            obtain ⟨v72, hv72, hw73⟩ := hw73
            have hw73 := oi hw73
            subst hw73
            exact (r_gq [(1, .d false [.sl none (a1.map (eU .u8))]), (5, .ov false [.sl (some 26) (v3.map (eO 3 eI))]), (28, .ov false [.sl (some 3) (v71.1.map eI)]), (245, .p (.bool (!v72)))] [(4, gF), (5, gF), (6, {g := some false, call := some (some [.d false [.sl none (v70.1.map eI)], .d false [.sl none (v71.1.map eI)]], [.p (.bool v72)], true)}), (7, gF), (8, bF)] (B6 ha4 ha4 ha4 (show ([.d false [.sl none (eraL (v70.1.map eI))], .d false [.sl none (eraL (v71.1.map eI))]] : List Arg) = [.d false [.sl none (v70.1.map eI)], .d false [.sl none (v71.1.map eI)]] from (by simp only [yea (h := eI) er_I, yea (h := eI) er_I])) (wk_laws_sameInts hv72) ha4 (A1 ha4)))
          ·refine kc w73 (fun hc3_73 => ?_) (fun hc3_73 => ?_)
           ·replace h := ite_t hc3_73 h
            refine k_sreg (r_gq [(4, .p (.bool false))] [] trivial) ?_
            refine k_ret ?_
            refine q_r ?_
            refine q_r ?_
            obtain rfl := oi h
            exact er [(.p (.bool false), 4)]
           ·replace h := ite_f hc3_73 h
            refine k_skip ?_
            refine q_n ?_
            refine k_sreg (r_gq [(1, .d false [.sl none (a1.map (eU .u8))]), (5, .ov false [.sl (some 26) (v3.map (eO 3 eI))]), (28, .ov false [.sl (some 3) (v71.1.map eI)]), (246, .ref 28 [(0, 0)] none), (247, .p (iV (v71.1.length : Int))), (248, .p (iV 0))] [(1, {n := some v71.1.length})] (A1 (show (v71.1.map eI).length = v71.1.length from (List.length_map ..)))) ?_
            refine k_block ?_
            obtain ⟨y76, hl_x75, hk_x75⟩ := bs h
            clear h
            refine k_loop (J := fun (x : Int) => [(1, .d false [.sl none (a1.map (eU .u8))]), (5, .ov false [.sl (some 26) (v3.map (eO 3 eI))]), (28, .ov false [.sl (some 3) (v71.1.map eI)]), (246, .ref 28 [(0, 0)] none), (247, .p (iV (v71.1.length : Int))), (248, .p (iV x))]) hl_x75 (wk_of (by kernel_rfl) (by kernel_rfl)) (fun x75 o_x75 h hy_x75 => ?_)
            unfold laws_FnZeta_b4 at h
            refine k_sreg (r_gq [(1, .d false [.sl none (a1.map (eU .u8))]), (5, .ov false [.sl (some 26) (v3.map (eO 3 eI))]), (28, .ov false [.sl (some 3) (v71.1.map eI)]), (246, .ref 28 [(0, 0)] none), (247, .p (iV (v71.1.length : Int))), (248, .p (iV x75)), (249, .p (.bool (decide (x75 < (v71.1.length : Int)))))] [] trivial) ?_
            refine k_seq ?_
            refine kc (decide (x75 < (v71.1.length : Int))) (fun hc5_76 => ?_) (fun hc5_76 => ?_)
            ·replace h := ite_t hc5_76 h
             refine k_skip ?_
             refine q_n ?_
             refine k_seq ?_
             refine k_block ?_
             replace h := bs h
             obtain ⟨v78, hv78, h⟩ := h
             refine k_sreg (r_gq [(1, .d false [.sl none (a1.map (eU .u8))]), (5, .ov false [.sl (some 26) (v3.map (eO 3 eI))]), (28, .ov false [.sl (some 3) (v71.1.map eI)]), (30, .p (iV x75)), (31, .p (iV v78)), (246, .ref 28 [(0, 0)] none), (247, .p (iV (v71.1.length : Int))), (248, .p (iV x75))] [(1, {row := some (eI v78)}), (2, {row := some (eI v78)})] (A3 (yba hv78).1 (map_get eI (yba hv78).2) (show getRow [[.sl (some 3) (v71.1.map eI)]] [(0, 0), ((Int.toNat x75), 0)] = some (eI v78) from ((gr0 rfl).trans (gre (map_get eI (yba hv78).2)))))) ?_
             replace h := bs h
             obtain ⟨v79, hv79, h⟩ := h
             refine k_sreg (r_gq [(1, .d false [.sl none (a1.map (eU .u8))]), (5, .ov false [.sl (some 26) (v3.map (eO 3 eI))]), (28, .ov false [.sl (some 3) (v71.1.map eI)]), (30, .p (iV x75)), (31, .p (iV v78)), (32, .p (iV v79.1)), (33, .p (.bool v79.2)), (246, .ref 28 [(0, 0)] none), (247, .p (iV (v71.1.length : Int))), (248, .p (iV x75))] [(3, {call := some (some [.d false [.sl none (v3.map (eF eI))], wI (w64 (x75 + 1))], [.p (iV v79.1), .p (.bool v79.2)], true)})] (A2 (show ([.d false [.sl none (eraL (v3.map (eO 3 eI)))], wI (w64 (x75 + 1))] : List Arg) = [.d false [.sl none (v3.map (eF eI))], wI (w64 (x75 + 1))] from (by simp only [yea (h := (eF eI)) (era_O er_I)])) (wk_impl_ClosedWalks hv79))) ?_
             replace h := bs h
             obtain ⟨v80, hv80, h⟩ := h
             refine k_sreg (r_gq [(1, .d false [.sl none (a1.map (eU .u8))]), (5, .ov false [.sl (some 26) (v3.map (eO 3 eI))]), (28, .ov false [.sl (some 3) (v71.1.map eI)]), (31, .p (iV v78)), (32, .p (iV v79.1)), (33, .p (.bool v79.2)), (34, .p (iV v80.1)), (35, .p (.bool v80.2)), (246, .ref 28 [(0, 0)] none), (247, .p (iV (v71.1.length : Int))), (248, .p (iV x75))] [(3, {call := some (some [.d false [.sl none (v3.map (eF eI))], wI (w64 (x75 + 1))], [.p (iV v80.1), .p (.bool v80.2)], true)})] (A2 (show ([.d false [.sl none (eraL (v3.map (eO 3 eI)))], wI (w64 (x75 + 1))] : List Arg) = [.d false [.sl none (v3.map (eF eI))], wI (w64 (x75 + 1))] from (by simp only [yea (h := (eF eI)) (era_O er_I)])) (wk_spec_ClosedWalks hv80))) ?_
             refine k_sreg (l1 := [(1, .d false [.sl none (a1.map (eU .u8))]), (5, .ov false [.sl (some 26) (v3.map (eO 3 eI))]), (28, .ov false [.sl (some 3) (v71.1.map eI)]), (246, .ref 28 [(0, 0)] none), (247, .p (iV (v71.1.length : Int))), (248, .p (iV x75)), (282, .p (.bool ((!(v79.2 == v80.2)) || ((v79.1 != v80.1) || (v80.2 && (v80.1 != v78))))))]) ?_ ?_
             ·rcases ft (!(v79.2 == v80.2)) with ha6 | ha6
              ·exact RegOk.of_eq (l2 := [(1, .d false [.sl none (a1.map (eU .u8))]), (5, .ov false [.sl (some 26) (v3.map (eO 3 eI))]), (28, .ov false [.sl (some 3) (v71.1.map eI)]), (246, .ref 28 [(0, 0)] none), (247, .p (iV (v71.1.length : Int))), (248, .p (iV x75)), (282, .p (.bool ((!(v79.2 == v80.2)) || ((v79.1 != v80.1) || (v80.2 && (v80.1 != v78))))))]) (r_gq [(1, .d false [.sl none (a1.map (eU .u8))]), (5, .ov false [.sl (some 26) (v3.map (eO 3 eI))]), (28, .ov false [.sl (some 3) (v71.1.map eI)]), (246, .ref 28 [(0, 0)] none), (247, .p (iV (v71.1.length : Int))), (248, .p (iV x75)), (282, .p (.bool true))] [(4, gT), (5, gT), (6, gT), (7, bT), (9, gT), (10, gT), (14, gT), (15, bT)] (B6 ha6 ha6 ha6 ha6 (show true = true from rfl) (show true = true from rfl) (A2 (show true = true from rfl) (show true = true from rfl)))) (by simp [ha6])
              ·rcases ft (v79.1 != v80.1) with ha7 | ha7
               ·exact RegOk.of_eq (l2 := [(1, .d false [.sl none (a1.map (eU .u8))]), (5, .ov false [.sl (some 26) (v3.map (eO 3 eI))]), (28, .ov false [.sl (some 3) (v71.1.map eI)]), (246, .ref 28 [(0, 0)] none), (247, .p (iV (v71.1.length : Int))), (248, .p (iV x75)), (282, .p (.bool ((!(v79.2 == v80.2)) || ((v79.1 != v80.1) || (v80.2 && (v80.1 != v78))))))]) (r_gq [(1, .d false [.sl none (a1.map (eU .u8))]), (5, .ov false [.sl (some 26) (v3.map (eO 3 eI))]), (28, .ov false [.sl (some 3) (v71.1.map eI)]), (246, .ref 28 [(0, 0)] none), (247, .p (iV (v71.1.length : Int))), (248, .p (iV x75)), (282, .p (.bool true))] [(4, gF), (5, gF), (6, gF), (7, bF), (9, gT), (10, gT), (14, gT), (15, bT)] (B6 ha6 ha6 ha6 ha6 ha7 ha7 (A2 ha7 ha7))) (by simp [ha6, ha7])
               ·rcases ft v80.2 with ha8 | ha8
                ·exact RegOk.of_eq (l2 := [(1, .d false [.sl none (a1.map (eU .u8))]), (5, .ov false [.sl (some 26) (v3.map (eO 3 eI))]), (28, .ov false [.sl (some 3) (v71.1.map eI)]), (246, .ref 28 [(0, 0)] none), (247, .p (iV (v71.1.length : Int))), (248, .p (iV x75)), (282, .p (.bool ((!(v79.2 == v80.2)) || ((v79.1 != v80.1) || (v80.2 && (v80.1 != v78))))))]) (r_gq [(1, .d false [.sl none (a1.map (eU .u8))]), (5, .ov false [.sl (some 26) (v3.map (eO 3 eI))]), (28, .ov false [.sl (some 3) (v71.1.map eI)]), (246, .ref 28 [(0, 0)] none), (247, .p (iV (v71.1.length : Int))), (248, .p (iV x75)), (282, .p (.bool (v80.1 != v78)))] [(4, gF), (5, gF), (6, gF), (7, bF), (9, gF), (10, gF), (11, gT), (12, gT), (13, gT), (14, {g := some false, b := some true}), (15, bF)] (B6 ha6 ha6 ha6 ha6 ha7 ha7 (A6 ha8 ha8 ha8 ha7 ha8 ha7))) (by (try rw [ha6]); (try rw [ha7]); (try rw [ha8]); all_goals (first | rfl | simp [ha6, ha7, ha8]))
                ·exact RegOk.of_eq (l2 := [(1, .d false [.sl none (a1.map (eU .u8))]), (5, .ov false [.sl (some 26) (v3.map (eO 3 eI))]), (28, .ov false [.sl (some 3) (v71.1.map eI)]), (246, .ref 28 [(0, 0)] none), (247, .p (iV (v71.1.length : Int))), (248, .p (iV x75)), (282, .p (.bool ((!(v79.2 == v80.2)) || ((v79.1 != v80.1) || (v80.2 && (v80.1 != v78))))))]) (r_gq [(1, .d false [.sl none (a1.map (eU .u8))]), (5, .ov false [.sl (some 26) (v3.map (eO 3 eI))]), (28, .ov false [.sl (some 3) (v71.1.map eI)]), (246, .ref 28 [(0, 0)] none), (247, .p (iV (v71.1.length : Int))), (248, .p (iV x75)), (282, .p (.bool false))] [(4, gF), (5, gF), (6, gF), (7, bF), (9, gF), (10, gF), (11, gF), (12, gF), (13, gF), (14, {g := some false, b := some false}), (15, bF)] (B6 ha6 ha6 ha6 ha6 ha7 ha7 (A6 ha8 ha8 ha8 ha7 ha8 ha7))) (by (try rw [ha6]); (try rw [ha7]); (try rw [ha8]); all_goals (first | rfl | simp [ha6, ha7, ha8]))
             ·refine kc ((!(v79.2 == v80.2)) || ((v79.1 != v80.1) || (v80.2 && (v80.1 != v78)))) (fun hc6_80 => ?_) (fun hc6_80 => ?_)
              ·replace h := ite_t hc6_80 h
               refine k_sreg (r_gq [(4, .p (.bool false))] [] trivial) ?_
               refine k_ret ?_
               refine b_r ?_
               refine q_r ?_
               refine lq_r ?_
               refine b_r ?_
               refine q_r ?_
               have hyy := hy_x75 _ (oi h).symm
               subst hyy
               have h := hk_x75
               dsimp only [Sum.elim] at h
               obtain rfl := oi h
               exact er [(.p (.bool false), 4)]
              ·replace h := ite_f hc6_80 h
               refine k_skip ?_
               refine b_n ?_
               refine q_n ?_
               refine k_reg (r_gq [(1, .d false [.sl none (a1.map (eU .u8))]), (5, .ov false [.sl (some 26) (v3.map (eO 3 eI))]), (28, .ov false [.sl (some 3) (v71.1.map eI)]), (246, .ref 28 [(0, 0)] none), (247, .p (iV (v71.1.length : Int))), (248, .p (iV (w64 (x75 + 1))))] [] trivial) ?_
               exact lqn (w64 (x75 + 1)) h
            ·replace h := ite_f hc5_76 h
             refine k_exit ?_
             refine q_x ?_
             refine lq_x ?_
             refine b_x ?_
             have hyy := hy_x75 _ (oi h).symm
             subst hyy
             have h := hk_x75
             dsimp only [Sum.elim] at h
             refine q_n ?_
             exact jx () h
         ·refine k_sreg (r_gq [(1, .d false [.sl none (a1.map (eU .u8))]), (5, .ov false [.sl (some 26) (v3.map (eO 3 eI))]), (6, .ov false [.sl (some 3) (v4.1.map eI)]), (8, .ov false [.sl (some 3) (v5.1.map eI)]), (12, .ov false [.sl (some 3) (v7.1.map eI)]), (22, .p (iV (v3.length : Int))), (211, .ref 12 [(0, 0)] none), (212, .p (iV (v7.1.length : Int))), (213, .p (iV 0))] [(1, {n := some v7.1.length})] (A1 (show (v7.1.map eI).length = v7.1.length from (List.length_map ..)))) ?_
          refine k_block ?_
          obtain ⟨y83, hl_x82, hk_x82⟩ := bs h
          clear h
          refine k_loop (J := fun (x : Int) => [(1, .d false [.sl none (a1.map (eU .u8))]), (5, .ov false [.sl (some 26) (v3.map (eO 3 eI))]), (6, .ov false [.sl (some 3) (v4.1.map eI)]), (8, .ov false [.sl (some 3) (v5.1.map eI)]), (12, .ov false [.sl (some 3) (v7.1.map eI)]), (22, .p (iV (v3.length : Int))), (211, .ref 12 [(0, 0)] none), (212, .p (iV (v7.1.length : Int))), (213, .p (iV x))]) hl_x82 (wk_of (by kernel_rfl) (by kernel_rfl)) (fun x82 o_x82 h hy_x82 => ?_)
          unfold laws_FnZeta_b5 at h
          refine k_sreg (r_gq [(1, .d false [.sl none (a1.map (eU .u8))]), (5, .ov false [.sl (some 26) (v3.map (eO 3 eI))]), (6, .ov false [.sl (some 3) (v4.1.map eI)]), (8, .ov false [.sl (some 3) (v5.1.map eI)]), (12, .ov false [.sl (some 3) (v7.1.map eI)]), (22, .p (iV (v3.length : Int))), (211, .ref 12 [(0, 0)] none), (212, .p (iV (v7.1.length : Int))), (213, .p (iV x82)), (214, .p (.bool (decide (x82 < (v7.1.length : Int)))))] [] trivial) ?_
          refine k_seq ?_
          refine kc (decide (x82 < (v7.1.length : Int))) (fun hc6_83 => ?_) (fun hc6_83 => ?_)
          ·replace h := ite_t hc6_83 h
           refine k_skip ?_
           refine q_n ?_
           refine k_seq ?_
           refine k_block ?_
           replace h := bs h
           obtain ⟨v85, hv85, h⟩ := h
           refine k_sreg (r_gq [(1, .d false [.sl none (a1.map (eU .u8))]), (5, .ov false [.sl (some 26) (v3.map (eO 3 eI))]), (6, .ov false [.sl (some 3) (v4.1.map eI)]), (8, .ov false [.sl (some 3) (v5.1.map eI)]), (12, .ov false [.sl (some 3) (v7.1.map eI)]), (22, .p (iV (v3.length : Int))), (24, .p (iV x82)), (25, .p (iV v85)), (211, .ref 12 [(0, 0)] none), (212, .p (iV (v7.1.length : Int))), (213, .p (iV x82))] [(1, {row := some (eI v85)}), (2, {row := some (eI v85)})] (A3 (yba hv85).1 (map_get eI (yba hv85).2) (show getRow [[.sl (some 3) (v7.1.map eI)]] [(0, 0), ((Int.toNat x82), 0)] = some (eI v85) from ((gr0 rfl).trans (gre (map_get eI (yba hv85).2)))))) ?_
           replace h := bs h
           obtain ⟨v86, hv86, h⟩ := h
           refine k_sreg (r_gq [(1, .d false [.sl none (a1.map (eU .u8))]), (5, .ov false [.sl (some 26) (v3.map (eO 3 eI))]), (6, .ov false [.sl (some 3) (v4.1.map eI)]), (8, .ov false [.sl (some 3) (v5.1.map eI)]), (12, .ov false [.sl (some 3) (v7.1.map eI)]), (22, .p (iV (v3.length : Int))), (211, .ref 12 [(0, 0)] none), (212, .p (iV (v7.1.length : Int))), (213, .p (iV x82)), (225, .p (.bool (v86 != v85)))] [(4, {row := some (eI v86)}), (5, {row := some (eI v86)})] (A3 (yba hv86).1 (map_get eI (yba hv86).2) (show getRow [[.sl (some 3) (v5.1.map eI)]] [(0, 0), ((Int.toNat (w64 ((v3.length : Int) - x82))), 0)] = some (eI v86) from ((gr0 rfl).trans (gre (map_get eI (yba hv86).2)))))) ?_
           refine kc (v86 != v85) (fun hc7_86 => ?_) (fun hc7_86 => ?_)
           ·replace h := ite_t hc7_86 h
            refine k_sreg (r_gq [(4, .p (.bool false))] [] trivial) ?_
            refine k_ret ?_
            refine b_r ?_
            refine q_r ?_
            refine lq_r ?_
            refine b_r ?_
            refine q_r ?_
            refine q_r ?_
            have hyy := hy_x82 _ (oi h).symm
            subst hyy
            have h := hk_x82
            dsimp only [Sum.elim] at h
            obtain rfl := oi h
            exact er [(.p (.bool false), 4)]
           ·replace h := ite_f hc7_86 h
            refine k_skip ?_
            refine b_n ?_
            refine q_n ?_
            refine k_reg (r_gq [(1, .d false [.sl none (a1.map (eU .u8))]), (5, .ov false [.sl (some 26) (v3.map (eO 3 eI))]), (6, .ov false [.sl (some 3) (v4.1.map eI)]), (8, .ov false [.sl (some 3) (v5.1.map eI)]), (12, .ov false [.sl (some 3) (v7.1.map eI)]), (22, .p (iV (v3.length : Int))), (211, .ref 12 [(0, 0)] none), (212, .p (iV (v7.1.length : Int))), (213, .p (iV (w64 (x82 + 1))))] [] trivial) ?_
            exact lqn (w64 (x82 + 1)) h
          ·replace h := ite_f hc6_83 h
           refine k_exit ?_
           refine q_x ?_
           refine lq_x ?_
           refine b_x ?_
           have hyy := hy_x82 _ (oi h).symm
           subst hyy
           have h := hk_x82
           dsimp only [Sum.elim] at h
           refine q_n ?_
           exact jx () h
      ·refine k_sreg (r_gq [(1, .d false [.sl none (a1.map (eU .u8))]), (5, .ov false [.sl (some 26) (v3.map (eO 3 eI))]), (6, .ov false [.sl (some 3) (v4.1.map eI)]), (8, .ov false [.sl (some 3) (v5.1.map eI)]), (12, .ov false [.sl (some 3) (v7.1.map eI)]), (16, .p (iV v9.1)), (20, .p (iV v11.1)), (22, .p (iV (v3.length : Int))), (23, .p (iV 1)), (166, .p (.bool ((Int.tmod (v3.length : Int) 2) == 1)))] [] (A1 (show 2 ≠ (0 : Int) from (by decide)))) ?_
       refine kc ((Int.tmod (v3.length : Int) 2) == 1) (fun hc3_87 => ?_) (fun hc3_87 => ?_)
       ·replace h := ite_t hc3_87 h
        refine k_reg (r_gq [(1, .d false [.sl none (a1.map (eU .u8))]), (5, .ov false [.sl (some 26) (v3.map (eO 3 eI))]), (6, .ov false [.sl (some 3) (v4.1.map eI)]), (8, .ov false [.sl (some 3) (v5.1.map eI)]), (12, .ov false [.sl (some 3) (v7.1.map eI)]), (16, .p (iV v9.1)), (20, .p (iV v11.1)), (22, .p (iV (v3.length : Int))), (23, .p (iV (-1)))] [] trivial) ?_
        refine q_n ?_
        exact jx (-1) h
       ·replace h := ite_f hc3_87 h
        refine k_skip ?_
        refine q_n ?_
        exact jx 1 h
     ·replace h := ite_f hc2_60 h
      refine k_skip ?_
      refine q_n ?_
      exact jx () h
end Go.PV

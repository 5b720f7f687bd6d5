/-
  Walks through the functions that the law reaches: each answers as its plain definition does.
  Conditions: none.
-/
import Derived.KernelRfl
import Derived.Test.YtkcfcccfonekoaaWExactCountLoopsPartA
import Derived.Test.YtkcfcccfonekoaaProg
import Derived.Test.YtkcfcccfonekoaaPvCx
open Go Go.PV Go.Proofs
set_option linter.all false
namespace Go.PV
attribute [local irreducible] pvC pvL pvD sOp seqQ blockQ Meets MeetsB Ok OkL RegOk agree endQ seqL blockL loopQ endL endLB OkV Takes
theorem wk_impl_calc_image {a0 : Bool} {a1 : (List Qp)} {a2 : Qr} {a3 : Qr}  {r : (Qr × Qr × Bool)} (h : impl_calc_image a0 a1 a2 a3 = some r) : MeetsB Try.prog 136 (.box [.raw (.bool a0)]) [.d false [.sl none (a1.map ePt)], .v (vRt a2), .v (vRt a3)] [.p (vRt r.1), .p (vRt r.2.1)] (.box [.raw (.bool r.2.2)]) := by
 refine mob Try.func136 [(0, .box [.raw (.bool a0)]), (1, .d false [.sl none (a1.map ePt)]), (2, .p (vRt a2)), (3, .p (vRt a3))] ?_
 unfold impl_calc_image at h
 refine k_sreg (r_gq [(0, .box [.raw (.bool a0)]), (1, .d false [.sl none (a1.map ePt)]), (6, .box (eRt a2)), (7, .box (eRt a3)), (8, .box [rI 0, rI 0]), (9, .box [rI 0, rI 0])] [] trivial) ?_
 replace h := bs h
 obtain ⟨v1, hv1, h⟩ := h
 refine k_sreg (r_gq [(0, .box [.raw (.bool v1.2)]), (1, .d false [.sl none (a1.map ePt)]), (6, .box (eRt a2)), (7, .box (eRt a3)), (8, .box [rI 0, rI 0]), (9, .box [rI 0, rI 0]), (10, .box (eRt v1.1))] [(3, {lend := some (none, [.p (vRt v1.1)], .box [.raw (.bool v1.2)], true)})] (A1 (wk_impl_calc_value hv1))) ?_
 refine k_sreg (r_gq [(0, .box [.raw (.bool v1.2)]), (1, .d false [.sl none (a1.map ePt)]), (6, .box (eRt a2)), (7, .box (eRt a3)), (8, .box [rI 0, rI 0]), (9, .box [rI 0, rI 0]), (10, .box (eRt v1.1)), (11, .box (eRt v1.1))] [] trivial) ?_
 refine v_enter (r1 := 10) (r2 := 11) 12 (fun b1 b2 => ?_)
 refine v_seq ?_
 refine v_fn [(0, .box [.raw (.bool v1.2)]), (1, .d false [.sl none (a1.map ePt)]), (6, .box (eRt a2)), (7, .box (eRt a3)), (8, .box [rI 0, rI 0]), (9, .box [rI 0, rI 0]), (10, .box (eRt v1.1)), (11, .box (eRt v1.1)), (12, .p (clo 155 b1 b2))] ?_
 refine q_n ?_
 replace h := bs h
 obtain ⟨v2, hv2, h⟩ := h
 replace h := bs h
 obtain ⟨v3, hv3, h⟩ := h
 refine v_seq ?_
 refine v_take (n := 5) [(0, .box [.raw (.bool v2.2)]), (1, .d false [.sl none (a1.map ePt)]), (6, .box (eRt a2)), (7, .box (eRt a3)), (8, .box [rI 0, rI 0]), (9, .box [rI 0, rI 0]), (10, .box (eRt v1.1)), (11, .box (eRt v1.1)), (12, .p (clo 155 b1 b2)), (21, .p (clo 155 b1 b2)), (25, .p (vRt v2.1))] [(0, .box [.raw (.bool v2.2)]), (1, .d false [.sl none (a1.map ePt)]), (6, .box (eRt a2)), (7, .box (eRt a3)), (8, .box [rI 0, rI 0]), (9, .box [rI 0, rI 0]), (10, .box (eRt v3.1)), (11, .box (eRt v3.2)), (12, .p (clo 155 b1 b2)), (21, .p (clo 155 b1 b2)), (25, .p (vRt v2.1))] [(4, {lend := some (none, [.p (vRt v2.1)], .box [.raw (.bool v2.2)], true)})] (A1 (wk_impl_calc_value hv2)) (wk_impl_calc_image_1 hv3) ?_ rfl rfl ⟨rfl, rfl, rfl⟩
 refine q_n ?_
 refine v_join (J := fun (x : (Int × Int × Int × Int)) => [(0, .box [.raw (.bool v2.2)]), (8, .box [rI 0, rI 0]), (9, .box [rI 0, rI 0]), (10, .box [rI x.1, rI x.2.1]), (11, .box (eRt x.2.2))]) (K := fun x => impl_calc_image_k1 v2 x = some r) (fun x4 h => ?_) ?_
 ·unfold impl_calc_image_k1 at h
  refine v_sreg (r_dq Try_mixed 3 [(2, 8)] [(0, .box [.raw (.bool v2.2)]), (8, .box [rI x4.1, rI x4.2.1]), (9, .box (eRt x4.2.2))] [] trivial) ?_
  refine v_ret ?_
  obtain rfl := oi h
  exact ebr [(.p (.agg #[.int .i64 x4.1, .int .i64 x4.2.1]), 8), (.p (vRt x4.2.2), 9)]
 ·refine v_sreg (r_gq [(0, .box [.raw (.bool v2.2)]), (6, .box (eRt a2)), (7, .box (eRt a3)), (8, .box [rI 0, rI 0]), (9, .box [rI 0, rI 0]), (10, .box (eRt v3.1)), (11, .box (eRt v3.2)), (12, .p (clo 155 b1 b2)), (27, .d false [.sl none (a1.map ePt)]), (28, .p (iV (a1.length : Int))), (29, .p (iV 0))] [(1, {n := some a1.length})] (A1 (show (a1.map ePt).length = a1.length from (List.length_map ..)))) ?_
  refine v_block ?_
  obtain ⟨y6, hl_x5, hk_x5⟩ := bs h
  clear h
  refine v_loop (J := fun (x : (Int × Int × Int × Int × Int)) => [(0, .box [.raw (.bool v2.2)]), (6, .box (eRt a2)), (7, .box (eRt a3)), (8, .box [rI 0, rI 0]), (9, .box [rI 0, rI 0]), (10, .box [rI x.1, rI x.2.1]), (11, .box [rI x.2.2.1, rI x.2.2.2.1]), (12, .p (clo 155 b1 b2)), (27, .d false [.sl none (a1.map ePt)]), (28, .p (iV (a1.length : Int))), (29, .p (iV x.2.2.2.2))]) hl_x5 (wk_of (by kernel_rfl) (by kernel_rfl)) (fun x5 o_x5 h hy_x5 => ?_)
  unfold impl_calc_image_b1 at h
  refine v_sreg (r_gq [(0, .box [.raw (.bool v2.2)]), (6, .box (eRt a2)), (7, .box (eRt a3)), (8, .box [rI 0, rI 0]), (9, .box [rI 0, rI 0]), (10, .box [rI x5.1, rI x5.2.1]), (11, .box [rI x5.2.2.1, rI x5.2.2.2.1]), (12, .p (clo 155 b1 b2)), (27, .d false [.sl none (a1.map ePt)]), (28, .p (iV (a1.length : Int))), (29, .p (iV x5.2.2.2.2)), (30, .p (.bool (decide (x5.2.2.2.2 < (a1.length : Int)))))] [] trivial) ?_
  refine v_seq ?_
  refine v_cond (decide (x5.2.2.2.2 < (a1.length : Int))) (fun hc5_6 => ?_) (fun hc5_6 => ?_)
  ·replace h := ite_t hc5_6 h
   refine v_skip ?_
   refine q_n ?_
   refine v_seq ?_
   refine v_block ?_
   replace h := bs h
   obtain ⟨v8, hv8, h⟩ := h
   refine v_sreg (r_gq [(0, .box [.raw (.bool v2.2)]), (6, .box (eRt a2)), (7, .box (eRt a3)), (8, .box [rI 0, rI 0]), (9, .box [rI 0, rI 0]), (10, .box [rI x5.1, rI x5.2.1]), (11, .box [rI x5.2.2.1, rI x5.2.2.2.1]), (12, .p (clo 155 b1 b2)), (14, .box (ePt v8)), (27, .d false [.sl none (a1.map ePt)]), (28, .p (iV (a1.length : Int))), (29, .p (iV x5.2.2.2.2))] [(0, {row := some (ePt v8)})] (A2 (idxO_some hv8).1 (map_get ePt (idxO_some hv8).2))) ?_
   replace h := bs h
   obtain ⟨v9, hv9, h⟩ := h
   replace h := bs h
   obtain ⟨w11, hw11, h⟩ := h
   refine v_sreg (l1 := [(0, .box [.raw (.bool v2.2)]), (6, .box (eRt a2)), (7, .box (eRt a3)), (8, .box [rI 0, rI 0]), (9, .box [rI 0, rI 0]), (10, .box [rI x5.1, rI x5.2.1]), (11, .box [rI x5.2.2.1, rI x5.2.2.2.1]), (12, .p (clo 155 b1 b2)), (14, .box (ePt v8)), (27, .d false [.sl none (a1.map ePt)]), (28, .p (iV (a1.length : Int))), (29, .p (iV x5.2.2.2.2)), (42, .p (.bool w11))]) ?_ ?_
   ·clear h
    rcases ft v9 with ha1 | ha1
    ·replace hw11 := ite_t ha1 hw11
     replace hw11 := bs hw11
     obtain ⟨v10, hv10, hw11⟩ := hw11
     have hw11 := oi hw11
     subst hw11
     exact (r_gq [(0, .box [.raw (.bool v2.2)]), (6, .box (eRt a2)), (7, .box (eRt a3)), (8, .box [rI 0, rI 0]), (9, .box [rI 0, rI 0]), (10, .box [rI x5.1, rI x5.2.1]), (11, .box [rI x5.2.2.1, rI x5.2.2.2.1]), (12, .p (clo 155 b1 b2)), (14, .box (ePt v8)), (27, .d false [.sl none (a1.map ePt)]), (28, .p (iV (a1.length : Int))), (29, .p (iV x5.2.2.2.2)), (42, .p (.bool v10))] [(3, {call := some (none, [.p (.bool v9)], true)}), (5, gT), (6, gT), (7, gT), (8, {g := some true, call := some (none, [.p (.bool v10)], true)}), (9, bT)] (B6 (wk_impl_less hv9) ha1 ha1 ha1 ha1 (wk_impl_less hv10) (A1 ha1)))
    ·replace hw11 := ite_f ha1 hw11
     have hw11 := oi hw11
     subst hw11
     exact (r_gq [(0, .box [.raw (.bool v2.2)]), (6, .box (eRt a2)), (7, .box (eRt a3)), (8, .box [rI 0, rI 0]), (9, .box [rI 0, rI 0]), (10, .box [rI x5.1, rI x5.2.1]), (11, .box [rI x5.2.2.1, rI x5.2.2.2.1]), (12, .p (clo 155 b1 b2)), (14, .box (ePt v8)), (27, .d false [.sl none (a1.map ePt)]), (28, .p (iV (a1.length : Int))), (29, .p (iV x5.2.2.2.2)), (42, .p (.bool false))] [(3, {call := some (none, [.p (.bool v9)], true)}), (5, gF), (6, gF), (7, gF), (8, gF), (9, bF)] (A6 (wk_impl_less hv9) ha1 ha1 ha1 ha1 ha1))
   ·refine v_cond w11 (fun hc6_11 => ?_) (fun hc6_11 => ?_)
    ·replace h := ite_t hc6_11 h
     replace h := bs h
     obtain ⟨v13, hv13, h⟩ := h
     refine v_take (n := 3) [(0, .box [.raw (.bool v2.2)]), (6, .box (eRt a2)), (7, .box (eRt a3)), (8, .box [rI 0, rI 0]), (9, .box [rI 0, rI 0]), (10, .box [rI x5.1, rI x5.2.1]), (11, .box [rI x5.2.2.1, rI x5.2.2.2.1]), (12, .p (clo 155 b1 b2)), (27, .d false [.sl none (a1.map ePt)]), (28, .p (iV (a1.length : Int))), (29, .p (iV x5.2.2.2.2)), (43, .p (clo 155 b1 b2)), (45, .p (vRt v8.2))] [(0, .box [.raw (.bool v2.2)]), (6, .box (eRt a2)), (7, .box (eRt a3)), (8, .box [rI 0, rI 0]), (9, .box [rI 0, rI 0]), (10, .box (eRt v13.1)), (11, .box (eRt v13.2)), (12, .p (clo 155 b1 b2)), (27, .d false [.sl none (a1.map ePt)]), (28, .p (iV (a1.length : Int))), (29, .p (iV x5.2.2.2.2)), (43, .p (clo 155 b1 b2)), (45, .p (vRt v8.2))] [] trivial (wk_impl_calc_image_1 hv13) ?_ rfl rfl ⟨rfl, rfl, rfl⟩
     refine b_n ?_
     refine q_n ?_
     refine v_reg (r_gq [(0, .box [.raw (.bool v2.2)]), (6, .box (eRt a2)), (7, .box (eRt a3)), (8, .box [rI 0, rI 0]), (9, .box [rI 0, rI 0]), (10, .box (eRt v13.1)), (11, .box (eRt v13.2)), (12, .p (clo 155 b1 b2)), (27, .d false [.sl none (a1.map ePt)]), (28, .p (iV (a1.length : Int))), (29, .p (iV (w64 (x5.2.2.2.2 + 1))))] [] trivial) ?_
     exact lqn (v13.1.1, v13.1.2, v13.2.1, v13.2.2, (w64 (x5.2.2.2.2 + 1))) h
    ·replace h := ite_f hc6_11 h
     refine v_skip ?_
     refine b_n ?_
     refine q_n ?_
     refine v_reg (r_gq [(0, .box [.raw (.bool v2.2)]), (6, .box (eRt a2)), (7, .box (eRt a3)), (8, .box [rI 0, rI 0]), (9, .box [rI 0, rI 0]), (10, .box [rI x5.1, rI x5.2.1]), (11, .box [rI x5.2.2.1, rI x5.2.2.2.1]), (12, .p (clo 155 b1 b2)), (27, .d false [.sl none (a1.map ePt)]), (28, .p (iV (a1.length : Int))), (29, .p (iV (w64 (x5.2.2.2.2 + 1))))] [] trivial) ?_
     exact lqn (x5.1, x5.2.1, x5.2.2.1, x5.2.2.2.1, (w64 (x5.2.2.2.2 + 1))) h
  ·replace h := ite_f hc5_6 h
   refine v_exit ?_
   refine q_x ?_
   refine lq_x ?_
   refine b_x ?_
   have hyy := hy_x5 _ (oi h).symm
   subst hyy
   have h := hk_x5
   refine q_n ?_
   exact jx (x5.1, x5.2.1, x5.2.2.1, x5.2.2.2.1) h
theorem wk_impl_calc_covers {a0 : Bool} {a1 : (List Qp)} {a2 : Qp} {a3 : Qp}  {r : (Bool × Bool)} (h : impl_calc_covers a0 a1 a2 a3 = some r) : MeetsB Try.prog 111 (.box [.raw (.bool a0)]) [.d false [.sl none (a1.map ePt)], .v (vPt a2), .v (vPt a3)] [.p (.bool r.1)] (.box [.raw (.bool r.2)]) := by
 refine mob Try.func111 [(0, .box [.raw (.bool a0)]), (1, .d false [.sl none (a1.map ePt)]), (2, .p (vPt a2)), (3, .p (vPt a3))] ?_
 unfold impl_calc_covers at h
 refine k_sreg (r_gq [(0, .box [.raw (.bool a0)]), (1, .d false [.sl none (a1.map ePt)]), (6, .box (ePt a2)), (7, .box (ePt a3))] [] trivial) ?_
 replace h := bs h
 obtain ⟨v1, hv1, h⟩ := h
 refine k_sreg (r_gq [(0, .box [.raw (.bool v1.2.2)]), (7, .box (ePt a3)), (9, .box (eRt v1.1)), (10, .box (eRt v1.2.1))] [(6, {lend := some (none, [.p (vRt v1.1), .p (vRt v1.2.1)], .box [.raw (.bool v1.2.2)], true)})] (A1 (wk_impl_calc_image hv1))) ?_
 replace h := bs h
 obtain ⟨v2, hv2, h⟩ := h
 replace h := bs h
 obtain ⟨w4, hw4, h⟩ := h
 refine k_sreg (l1 := [(0, .box [.raw (.bool v1.2.2)]), (8, .p (.bool w4))]) ?_ ?_
 ·clear h
  rcases ft (!v2) with ha0 | ha0
  ·replace hw4 := ite_t ha0 hw4
   replace hw4 := bs hw4
   obtain ⟨v3, hv3, hw4⟩ := hw4
   have hw4 := oi hw4
   subst hw4
   exact (r_gq [(0, .box [.raw (.bool v1.2.2)]), (8, .p (.bool (!v3)))] [(3, {call := some (none, [.p (.bool v2)], true)}), (6, gT), (7, gT), (8, gT), (9, {g := some true, call := some (none, [.p (.bool v3)], true)}), (10, gT), (11, bT)] (B6 (wk_impl_less hv2) ha0 ha0 ha0 ha0 (wk_impl_less hv3) (A2 ha0 ha0)))
  ·replace hw4 := ite_f ha0 hw4
   have hw4 := oi hw4
   subst hw4
   exact (r_gq [(0, .box [.raw (.bool v1.2.2)]), (8, .p (.bool false))] [(3, {call := some (none, [.p (.bool v2)], true)}), (6, gF), (7, gF), (8, gF), (9, gF), (10, gF), (11, bF)] (B6 (wk_impl_less hv2) ha0 ha0 ha0 ha0 ha0 (A1 ha0)))
 ·refine k_ret ?_
  obtain rfl := oi h
  exact ebr [(.p (.bool w4), 8)]
theorem wk_impl_CoverGraph {a0 : (List Qp)} {a1 : (List Qp)}  {r : ((List (List Int)) × Bool)} (h : impl_CoverGraph a0 a1 = some r) : Meets Try.prog 82 [.d false [.sl none (a0.map ePt)], .d false [.sl none (a1.map ePt)]] { vals := [.ov false [.sl (some 42) (r.1.map (eO 3 eI))], .p (.bool r.2)] } := by
 refine mo Try.func82 [(0, .d false [.sl none (a0.map ePt)]), (1, .d false [.sl none (a1.map ePt)])] ?_
 unfold impl_CoverGraph at h
 refine k_sreg (r_gq [(0, .d false [.sl none (a0.map ePt)]), (1, .d false [.sl none (a1.map ePt)])] [] trivial) ?_
 refine k_seq ?_
 replace h := bs h
 obtain ⟨v1, hv1, h⟩ := h
 replace h := bs h
 obtain ⟨w3, hw3, h⟩ := h
 refine k_sreg (l1 := [(0, .d false [.sl none (a0.map ePt)]), (1, .d false [.sl none (a1.map ePt)]), (19, .p (.bool w3))]) ?_ ?_
 ·clear h
  rcases ft (!v1) with ha0 | ha0
  ·replace hw3 := ite_t ha0 hw3
   have hw3 := oi hw3
   subst hw3
   exact (r_gq [(0, .d false [.sl none (a0.map ePt)]), (1, .d false [.sl none (a1.map ePt)]), (19, .p (.bool true))] [(1, {call := some (none, [.p (.bool v1)], true)}), (4, gT), (5, gT), (6, gT), (7, bT)] (A5 (wk_impl_isMap hv1) ha0 ha0 ha0 ha0))
  ·replace hw3 := ite_f ha0 hw3
   replace hw3 := bs hw3
   obtain ⟨v2, hv2, hw3⟩ := hw3
   have hw3 := oi hw3
   subst hw3
   exact (r_gq [(0, .d false [.sl none (a0.map ePt)]), (1, .d false [.sl none (a1.map ePt)]), (19, .p (.bool (!v2)))] [(1, {call := some (none, [.p (.bool v1)], true)}), (4, gF), (5, {g := some false, call := some (none, [.p (.bool v2)], true)}), (6, gF), (7, bF)] (A6 (wk_impl_isMap hv1) ha0 ha0 (wk_impl_areIntervals hv2) ha0 ha0))
 ·refine kc w3 (fun hc2_3 => ?_) (fun hc2_3 => ?_)
  ·replace h := ite_t hc2_3 h
   refine k_sreg (r_gq [(4, .ov false [.sl (some 42) []]), (5, .p (.bool false))] [] trivial) ?_
   refine k_ret ?_
   refine q_r ?_
   obtain rfl := oi h
   exact er [(.ov false [.sl (some 42) []], 4), (.p (.bool false), 5)]
  ·replace h := ite_f hc2_3 h
   refine k_skip ?_
   refine q_n ?_
   refine k_sreg (r_gq [(0, .d false [.sl none (a0.map ePt)]), (1, .d false [.sl none (a1.map ePt)]), (6, .box [.raw (.bool false)])] [] trivial) ?_
   replace h := bs h
   obtain ⟨v5, hv5, h⟩ := h
   refine k_sreg (r_gq [(0, .d false [.sl none (a0.map ePt)]), (1, .d false [.sl none (a1.map ePt)]), (6, .box [.raw (.bool false)]), (7, .ov false [.sl (some 42) (v5.map (eO 3 eI))])] [(1, {n := some a1.length}), (2, {call := some (none, [.ov false [.sl (some 42) (v5.map (eO 3 eI))]], true)})] (A3 (show (a1.map ePt).length = a1.length from (List.length_map ..)) (wk_impl_emptyGraph hv5) (show List.all [.ov false [.sl (some 42) (v5.map (eO 3 eI))]] simpleR = true from (sa_o (wnR1 (wnL_enc (wn_O wn_I)) rfl) rfl)))) ?_
   refine k_join (J := fun (x : (Bool × (List (List Int)))) => [(6, .box [.raw (.bool x.1)]), (7, .ov false [.sl (some 42) (x.2.map (eO 3 eI))])]) (K := fun x => impl_CoverGraph_k1 x = some r) (fun x6 h => ?_) ?_
   ·unfold impl_CoverGraph_k1 at h
    refine k_seq ?_
    refine k_sreg (r_gq [(7, .ov false [.sl (some 42) (x6.2.map (eO 3 eI))]), (50, .p (.bool x6.1))] [] trivial) ?_
    refine kc x6.1 (fun hc2_6 => ?_) (fun hc2_6 => ?_)
    ·replace h := ite_t hc2_6 h
     refine k_sreg (r_gq [(4, .ov false [.sl (some 42) []]), (5, .p (.bool false))] [] trivial) ?_
     refine k_ret ?_
     refine q_r ?_
     obtain rfl := oi h
     exact er [(.ov false [.sl (some 42) []], 4), (.p (.bool false), 5)]
    ·replace h := ite_f hc2_6 h
     refine k_skip ?_
     refine q_n ?_
     refine k_sreg (r_gq [(4, .ov false [.sl (some 42) (x6.2.map (eO 3 eI))]), (5, .p (.bool true))] [] trivial) ?_
     refine k_ret ?_
     obtain rfl := oi h
     exact er [(.ov false [.sl (some 42) (x6.2.map (eO 3 eI))], 4), (.p (.bool true), 5)]
   ·refine k_sreg (r_gq [(0, .d false [.sl none (a0.map ePt)]), (1, .d false [.sl none (a1.map ePt)]), (6, .box [.raw (.bool false)]), (7, .ov false [.sl (some 42) (v5.map (eO 3 eI))]), (23, .d false [.sl none (a1.map ePt)]), (24, .p (iV (a1.length : Int))), (25, .p (iV 0))] [(1, {n := some a1.length})] (A1 (show (a1.map ePt).length = a1.length from (List.length_map ..)))) ?_
    refine k_block ?_
    obtain ⟨y9, hl_x8, hk_x8⟩ := bs h
    clear h
    refine k_loop (J := fun (x : (Bool × (List (List Int)) × Int)) => [(0, .d false [.sl none (a0.map ePt)]), (1, .d false [.sl none (a1.map ePt)]), (6, .box [.raw (.bool x.1)]), (7, .ov false [.sl (some 42) (x.2.1.map (eO 3 eI))]), (23, .d false [.sl none (a1.map ePt)]), (24, .p (iV (a1.length : Int))), (25, .p (iV x.2.2))]) hl_x8 (wk_of (by kernel_rfl) (by kernel_rfl)) (fun x8 o_x8 h hy_x8 => ?_)
    unfold impl_CoverGraph_b1 at h
    refine k_sreg (r_gq [(0, .d false [.sl none (a0.map ePt)]), (1, .d false [.sl none (a1.map ePt)]), (6, .box [.raw (.bool x8.1)]), (7, .ov false [.sl (some 42) (x8.2.1.map (eO 3 eI))]), (23, .d false [.sl none (a1.map ePt)]), (24, .p (iV (a1.length : Int))), (25, .p (iV x8.2.2)), (26, .p (.bool (decide (x8.2.2 < (a1.length : Int)))))] [] trivial) ?_
    refine k_seq ?_
    refine kc (decide (x8.2.2 < (a1.length : Int))) (fun hc5_9 => ?_) (fun hc5_9 => ?_)
    ·replace h := ite_t hc5_9 h
     refine k_skip ?_
     refine q_n ?_
     refine k_join (J := fun (x : (Bool × (List (List Int)))) => [(0, .d false [.sl none (a0.map ePt)]), (1, .d false [.sl none (a1.map ePt)]), (6, .box [.raw (.bool x.1)]), (7, .ov false [.sl (some 42) (x.2.map (eO 3 eI))]), (23, .d false [.sl none (a1.map ePt)]), (24, .p (iV (a1.length : Int))), (25, .p (iV x8.2.2))]) (K := fun x => impl_CoverGraph_k2 x8 x = some o_x8) (fun x11 h => ?_) ?_
     ·unfold impl_CoverGraph_k2 at h
      refine k_reg (r_gq [(0, .d false [.sl none (a0.map ePt)]), (1, .d false [.sl none (a1.map ePt)]), (6, .box [.raw (.bool x11.1)]), (7, .ov false [.sl (some 42) (x11.2.map (eO 3 eI))]), (23, .d false [.sl none (a1.map ePt)]), (24, .p (iV (a1.length : Int))), (25, .p (iV (w64 (x8.2.2 + 1))))] [] trivial) ?_
      exact lqn (x11.1, x11.2, (w64 (x8.2.2 + 1))) h
     ·refine k_block ?_
      replace h := bs h
      obtain ⟨v12, hv12, h⟩ := h
      refine k_sreg (r_gq [(0, .d false [.sl none (a0.map ePt)]), (1, .d false [.sl none (a1.map ePt)]), (6, .box [.raw (.bool x8.1)]), (7, .ov false [.sl (some 42) (x8.2.1.map (eO 3 eI))]), (8, .p (iV x8.2.2)), (9, .box (ePt v12)), (23, .d false [.sl none (a1.map ePt)]), (24, .p (iV (a1.length : Int))), (25, .p (iV x8.2.2))] [(1, {row := some (ePt v12)})] (A2 (idxO_some hv12).1 (map_get ePt (idxO_some hv12).2))) ?_
      refine k_sreg (r_gq [(0, .d false [.sl none (a0.map ePt)]), (1, .d false [.sl none (a1.map ePt)]), (6, .box [.raw (.bool x8.1)]), (7, .ov false [.sl (some 42) (x8.2.1.map (eO 3 eI))]), (8, .p (iV x8.2.2)), (9, .box (ePt v12)), (23, .d false [.sl none (a1.map ePt)]), (24, .p (iV (a1.length : Int))), (25, .p (iV x8.2.2)), (30, .d false [.sl none (a1.map ePt)]), (31, .p (iV (a1.length : Int))), (32, .p (iV 0))] [(1, {n := some a1.length})] (A1 (show (a1.map ePt).length = a1.length from (List.length_map ..)))) ?_
      refine k_block ?_
      obtain ⟨y14, hl_x13, hk_x13⟩ := bs h
      clear h
      refine k_loop (J := fun (x : (Bool × (List (List Int)) × Int)) => [(0, .d false [.sl none (a0.map ePt)]), (1, .d false [.sl none (a1.map ePt)]), (6, .box [.raw (.bool x.1)]), (7, .ov false [.sl (some 42) (x.2.1.map (eO 3 eI))]), (8, .p (iV x8.2.2)), (9, .box (ePt v12)), (23, .d false [.sl none (a1.map ePt)]), (24, .p (iV (a1.length : Int))), (25, .p (iV x8.2.2)), (30, .d false [.sl none (a1.map ePt)]), (31, .p (iV (a1.length : Int))), (32, .p (iV x.2.2))]) hl_x13 (wk_of (by kernel_rfl) (by kernel_rfl)) (fun x13 o_x13 h hy_x13 => ?_)
      unfold impl_CoverGraph_b2 at h
      refine k_sreg (r_gq [(0, .d false [.sl none (a0.map ePt)]), (1, .d false [.sl none (a1.map ePt)]), (6, .box [.raw (.bool x13.1)]), (7, .ov false [.sl (some 42) (x13.2.1.map (eO 3 eI))]), (8, .p (iV x8.2.2)), (9, .box (ePt v12)), (23, .d false [.sl none (a1.map ePt)]), (24, .p (iV (a1.length : Int))), (25, .p (iV x8.2.2)), (30, .d false [.sl none (a1.map ePt)]), (31, .p (iV (a1.length : Int))), (32, .p (iV x13.2.2)), (33, .p (.bool (decide (x13.2.2 < (a1.length : Int)))))] [] trivial) ?_
      refine k_seq ?_
      refine kc (decide (x13.2.2 < (a1.length : Int))) (fun hc9_14 => ?_) (fun hc9_14 => ?_)
      ·replace h := ite_t hc9_14 h
       refine k_skip ?_
       refine q_n ?_
       refine k_seq ?_
       refine k_block ?_
       replace h := bs h
       obtain ⟨v16, hv16, h⟩ := h
       refine k_sreg (r_gq [(0, .d false [.sl none (a0.map ePt)]), (1, .d false [.sl none (a1.map ePt)]), (6, .box [.raw (.bool x13.1)]), (7, .ov false [.sl (some 42) (x13.2.1.map (eO 3 eI))]), (8, .p (iV x8.2.2)), (9, .box (ePt v12)), (10, .p (iV x13.2.2)), (11, .box (ePt v16)), (23, .d false [.sl none (a1.map ePt)]), (24, .p (iV (a1.length : Int))), (25, .p (iV x8.2.2)), (30, .d false [.sl none (a1.map ePt)]), (31, .p (iV (a1.length : Int))), (32, .p (iV x13.2.2))] [(1, {row := some (ePt v16)})] (A2 (idxO_some hv16).1 (map_get ePt (idxO_some hv16).2))) ?_
       replace h := bs h
       obtain ⟨v17, hv17, h⟩ := h
       refine k_sreg (r_gq [(0, .d false [.sl none (a0.map ePt)]), (1, .d false [.sl none (a1.map ePt)]), (6, .box [.raw (.bool v17.2)]), (7, .ov false [.sl (some 42) (x13.2.1.map (eO 3 eI))]), (8, .p (iV x8.2.2)), (9, .box (ePt v12)), (10, .p (iV x13.2.2)), (23, .d false [.sl none (a1.map ePt)]), (24, .p (iV (a1.length : Int))), (25, .p (iV x8.2.2)), (30, .d false [.sl none (a1.map ePt)]), (31, .p (iV (a1.length : Int))), (32, .p (iV x13.2.2)), (40, .p (.bool v17.1))] [(3, {lend := some (none, [.p (.bool v17.1)], .box [.raw (.bool v17.2)], true)})] (A1 (wk_impl_calc_covers hv17))) ?_
       refine kc v17.1 (fun hc10_17 => ?_) (fun hc10_17 => ?_)
       ·replace h := ite_t hc10_17 h
        replace h := bs h
        obtain ⟨v19, hv19, h⟩ := h
        replace h := bs h
        obtain ⟨v20, hv20, h⟩ := h
        refine k_reg (r_gq [(0, .d false [.sl none (a0.map ePt)]), (1, .d false [.sl none (a1.map ePt)]), (6, .box [.raw (.bool v17.2)]), (7, .ov false [.sl (some 42) ((x13.2.1.set (Int.toNat x8.2.2) (v19.set (Int.toNat x13.2.2) 1)).map (eO 3 eI))]), (8, .p (iV x8.2.2)), (9, .box (ePt v12)), (23, .d false [.sl none (a1.map ePt)]), (24, .p (iV (a1.length : Int))), (25, .p (iV x8.2.2)), (30, .d false [.sl none (a1.map ePt)]), (31, .p (iV (a1.length : Int))), (32, .p (iV x13.2.2))] [(2, {row := some [.sl (some 3) (v19.map eI)]}), (3, {row := some [.sl (some 3) (v19.map eI)]}), (5, {deep := some [.sl (some 3) (v19.map eI)], row := some (eI v20)}), (6, {row := some (eI v20), fix := some (7, .ov false [.sl (some 42) ((x13.2.1.set (Int.toNat x8.2.2) (v19.set (Int.toNat x13.2.2) 1)).map (eO 3 eI))])})] (B6 (idxO_some hv19).1 (map_get (eO 3 eI) (idxO_some hv19).2) (show frR [.sl (some 3) (v19.map eI)] = false from rfl) (show getRow [[.sl (some 42) (x13.2.1.map (eO 3 eI))]] [(0, 0), ((Int.toNat x8.2.2), 0)] = some [.sl (some 3) (v19.map eI)] from ((gr0 rfl).trans (gre (map_get (eO 3 eI) (idxO_some hv19).2)))) (idxO_some hv20).1 (map_get eI (idxO_some hv20).2) (A3 (show getRow [[.sl (some 42) (x13.2.1.map (eO 3 eI))]] [(0, 0), ((Int.toNat x8.2.2), 0)] = some [.sl (some 3) (v19.map eI)] from ((gr0 rfl).trans (gre (map_get (eO 3 eI) (idxO_some hv19).2)))) (show getRow [[.sl (some 42) (x13.2.1.map (eO 3 eI))]] [(0, 0), ((Int.toNat x8.2.2), 0), ((Int.toNat x13.2.2), 0)] = some (eI v20) from ((gr0 rfl).trans ((grs (map_get (eO 3 eI) (idxO_some hv19).2) rfl).trans (gre (map_get eI (idxO_some hv20).2))))) (show (SV.ov false [.sl (some 42) (setL (x13.2.1.map (eO 3 eI)) [((Int.toNat x8.2.2), 0), ((Int.toNat x13.2.2), 0)] [rI 1])] : SV) = .ov false [.sl (some 42) ((x13.2.1.set (Int.toNat x8.2.2) (v19.set (Int.toNat x13.2.2) 1)).map (eO 3 eI))] from (congrArg (fun z => SV.ov false [.sl (some 42) z]) (set2 (f := (eO 3 eI)) (y := (v19.set (Int.toNat x13.2.2) 1)) (idxO_some hv19).2 rfl (set1 (f := eI) (y := 1) (idxO_some hv20).2 rfl) rfl)))))) ?_
        refine b_n ?_
        refine q_n ?_
        refine k_reg (r_gq [(0, .d false [.sl none (a0.map ePt)]), (1, .d false [.sl none (a1.map ePt)]), (6, .box [.raw (.bool v17.2)]), (7, .ov false [.sl (some 42) ((x13.2.1.set (Int.toNat x8.2.2) (v19.set (Int.toNat x13.2.2) 1)).map (eO 3 eI))]), (8, .p (iV x8.2.2)), (9, .box (ePt v12)), (23, .d false [.sl none (a1.map ePt)]), (24, .p (iV (a1.length : Int))), (25, .p (iV x8.2.2)), (30, .d false [.sl none (a1.map ePt)]), (31, .p (iV (a1.length : Int))), (32, .p (iV (w64 (x13.2.2 + 1))))] [] trivial) ?_
        exact lqn (v17.2, (x13.2.1.set (Int.toNat x8.2.2) (v19.set (Int.toNat x13.2.2) 1)), (w64 (x13.2.2 + 1))) h
       ·replace h := ite_f hc10_17 h
        refine k_skip ?_
        refine b_n ?_
        refine q_n ?_
        refine k_reg (r_gq [(0, .d false [.sl none (a0.map ePt)]), (1, .d false [.sl none (a1.map ePt)]), (6, .box [.raw (.bool v17.2)]), (7, .ov false [.sl (some 42) (x13.2.1.map (eO 3 eI))]), (8, .p (iV x8.2.2)), (9, .box (ePt v12)), (23, .d false [.sl none (a1.map ePt)]), (24, .p (iV (a1.length : Int))), (25, .p (iV x8.2.2)), (30, .d false [.sl none (a1.map ePt)]), (31, .p (iV (a1.length : Int))), (32, .p (iV (w64 (x13.2.2 + 1))))] [] trivial) ?_
        exact lqn (v17.2, x13.2.1, (w64 (x13.2.2 + 1))) h
      ·replace h := ite_f hc9_14 h
       refine k_exit ?_
       refine q_x ?_
       refine lq_x ?_
       refine b_x ?_
       refine b_n ?_
       have hyy := hy_x13 _ (oi h).symm
       subst hyy
       have h := hk_x13
       refine q_n ?_
       exact jx (x13.1, x13.2.1) h
    ·replace h := ite_f hc5_9 h
     refine k_exit ?_
     refine q_x ?_
     refine lq_x ?_
     refine b_x ?_
     have hyy := hy_x8 _ (oi h).symm
     subst hyy
     have h := hk_x8
     refine q_n ?_
     exact jx (x8.1, x8.2.1) h
theorem wk_impl_powerUpTo {a0 : (List (List Int))} {a1 : Int} {a2 : Int}  {r : (List (List Int))} (h : impl_powerUpTo a0 a1 a2 = some r) : Meets Try.prog 112 [.d false [.sl none (a0.map (eF eI))], wI a1, wI a2] { vals := [.ov false [.sl (some 42) (r.map (eO 3 eI))]] } := by
 refine mo Try.func112 [(0, .d false [.sl none (a0.map (eF eI))]), (1, .p (iV a1)), (2, .p (iV a2))] ?_
 unfold impl_powerUpTo at h
 refine k_sreg (r_gq [(0, .d false [.sl none (a0.map (eF eI))]), (1, .p (iV a1)), (2, .p (iV a2))] [] trivial) ?_
 replace h := bs h
 obtain ⟨v1, hv1, h⟩ := h
 refine k_sreg (r_gq [(0, .d false [.sl none (a0.map (eF eI))]), (1, .p (iV a1)), (2, .p (iV a2)), (7, .ov false [.sl (some 42) (v1.map (eO 3 eI))])] [(1, {n := some a0.length}), (2, {call := some (none, [.ov false [.sl (some 42) (v1.map (eO 3 eI))]], true)})] (A3 (show (a0.map (eF eI)).length = a0.length from (List.length_map ..)) (wk_impl_emptyGraph hv1) (show List.all [.ov false [.sl (some 42) (v1.map (eO 3 eI))]] simpleR = true from (sa_o (wnR1 (wnL_enc (wn_O wn_I)) rfl) rfl)))) ?_
 refine k_join (J := fun (x : (List (List Int))) => [(0, .d false [.sl none (a0.map (eF eI))]), (1, .p (iV a1)), (2, .p (iV a2)), (7, .ov false [.sl (some 42) (x.map (eO 3 eI))])]) (K := fun x => impl_powerUpTo_k1 a0 a1 a2 x = some r) (fun x2 h => ?_) ?_
 ·unfold impl_powerUpTo_k1 at h
  refine k_join (J := fun (x : (List (List Int))) => [(7, .ov false [.sl (some 42) (x.map (eO 3 eI))])]) (K := fun x => impl_powerUpTo_k2 x = some r) (fun x3 h => ?_) ?_
  ·unfold impl_powerUpTo_k2 at h
   refine k_sreg (r_gq [(6, .ov false [.sl (some 42) (x3.map (eO 3 eI))])] [] trivial) ?_
   refine k_ret ?_
   obtain rfl := oi h
   exact er [(.ov false [.sl (some 42) (x3.map (eO 3 eI))], 6)]
  ·refine k_sreg (r_gq [(0, .d false [.sl none (a0.map (eF eI))]), (2, .p (iV a2)), (7, .ov false [.sl (some 42) (x2.map (eO 3 eI))]), (31, .p (iV a1)), (32, .p (iV 0))] [] trivial) ?_
   refine k_block ?_
   obtain ⟨y5, hl_x4, hk_x4⟩ := bs h
   clear h
   refine k_loop (J := fun (x : ((List (List Int)) × Int)) => [(0, .d false [.sl none (a0.map (eF eI))]), (2, .p (iV a2)), (7, .ov false [.sl (some 42) (x.1.map (eO 3 eI))]), (31, .p (iV a1)), (32, .p (iV x.2))]) hl_x4 (wk_of (by kernel_rfl) (by kernel_rfl)) (fun x4 o_x4 h hy_x4 => ?_)
   unfold impl_powerUpTo_b1 at h
   refine k_sreg (r_gq [(0, .d false [.sl none (a0.map (eF eI))]), (2, .p (iV a2)), (7, .ov false [.sl (some 42) (x4.1.map (eO 3 eI))]), (31, .p (iV a1)), (32, .p (iV x4.2)), (33, .p (.bool (decide (x4.2 < a1))))] [] trivial) ?_
   refine k_seq ?_
   refine kc (decide (x4.2 < a1)) (fun hc5_5 => ?_) (fun hc5_5 => ?_)
   ·replace h := ite_t hc5_5 h
    refine k_skip ?_
    refine q_n ?_
    refine k_join (J := fun (x : (List (List Int))) => [(0, .d false [.sl none (a0.map (eF eI))]), (2, .p (iV a2)), (7, .ov false [.sl (some 42) (x.map (eO 3 eI))]), (31, .p (iV a1)), (32, .p (iV x4.2))]) (K := fun x => impl_powerUpTo_k3 x4 x = some o_x4) (fun x7 h => ?_) ?_
    ·unfold impl_powerUpTo_k3 at h
     refine k_reg (r_gq [(0, .d false [.sl none (a0.map (eF eI))]), (2, .p (iV a2)), (7, .ov false [.sl (some 42) (x7.map (eO 3 eI))]), (31, .p (iV a1)), (32, .p (iV (w64 (x4.2 + 1))))] [] trivial) ?_
     exact lqn (x7, (w64 (x4.2 + 1))) h
    ·refine k_block ?_
     replace h := bs h
     obtain ⟨v8, hv8, h⟩ := h
     refine k_sreg (r_gq [(0, .d false [.sl none (a0.map (eF eI))]), (2, .p (iV a2)), (7, .ov false [.sl (some 42) (x4.1.map (eO 3 eI))]), (9, .ov false [.sl (some 42) (v8.map (eO 3 eI))]), (31, .p (iV a1)), (32, .p (iV x4.2))] [(1, {n := some a0.length}), (2, {call := some (none, [.ov false [.sl (some 42) (v8.map (eO 3 eI))]], true)})] (A3 (show (a0.map (eF eI)).length = a0.length from (List.length_map ..)) (wk_impl_emptyGraph hv8) (show List.all [.ov false [.sl (some 42) (v8.map (eO 3 eI))]] simpleR = true from (sa_o (wnR1 (wnL_enc (wn_O wn_I)) rfl) rfl)))) ?_
     refine k_join (J := fun (x : (List (List Int))) => [(0, .d false [.sl none (a0.map (eF eI))]), (2, .p (iV a2)), (9, .ov false [.sl (some 42) (x.map (eO 3 eI))]), (31, .p (iV a1)), (32, .p (iV x4.2))]) (K := fun x => impl_powerUpTo_k4 x4 x = some o_x4) (fun x9 h => ?_) ?_
     ·unfold impl_powerUpTo_k4 at h
      refine k_reg (r_gq [(0, .d false [.sl none (a0.map (eF eI))]), (2, .p (iV a2)), (7, .ov false [.sl (some 42) (x9.map (eO 3 eI))]), (31, .p (iV a1)), (32, .p (iV x4.2))] [] trivial) ?_
      refine b_n ?_
      refine q_n ?_
      exact jx x9 h
     ·refine k_sreg (r_gq [(0, .d false [.sl none (a0.map (eF eI))]), (2, .p (iV a2)), (7, .ov false [.sl (some 42) (x4.1.map (eO 3 eI))]), (9, .ov false [.sl (some 42) (v8.map (eO 3 eI))]), (31, .p (iV a1)), (32, .p (iV x4.2)), (37, .ref 7 [(0, 0)] none), (38, .p (iV (x4.1.length : Int))), (39, .p (iV 0))] [(1, {n := some x4.1.length})] (A1 (show (x4.1.map (eO 3 eI)).length = x4.1.length from (List.length_map ..)))) ?_
      refine k_block ?_
      obtain ⟨y11, hl_x10, hk_x10⟩ := bs h
      clear h
      refine k_loop (J := fun (x : ((List (List Int)) × Int)) => [(0, .d false [.sl none (a0.map (eF eI))]), (2, .p (iV a2)), (7, .ov false [.sl (some 42) (x4.1.map (eO 3 eI))]), (9, .ov false [.sl (some 42) (x.1.map (eO 3 eI))]), (31, .p (iV a1)), (32, .p (iV x4.2)), (37, .ref 7 [(0, 0)] none), (38, .p (iV (x4.1.length : Int))), (39, .p (iV x.2))]) hl_x10 (wk_of (by kernel_rfl) (by kernel_rfl)) (fun x10 o_x10 h hy_x10 => ?_)
      unfold impl_powerUpTo_b2 at h
      refine k_sreg (r_gq [(0, .d false [.sl none (a0.map (eF eI))]), (2, .p (iV a2)), (7, .ov false [.sl (some 42) (x4.1.map (eO 3 eI))]), (9, .ov false [.sl (some 42) (x10.1.map (eO 3 eI))]), (31, .p (iV a1)), (32, .p (iV x4.2)), (37, .ref 7 [(0, 0)] none), (38, .p (iV (x4.1.length : Int))), (39, .p (iV x10.2)), (40, .p (.bool (decide (x10.2 < (x4.1.length : Int)))))] [] trivial) ?_
      refine k_seq ?_
      refine kc (decide (x10.2 < (x4.1.length : Int))) (fun hc10_11 => ?_) (fun hc10_11 => ?_)
      ·replace h := ite_t hc10_11 h
       refine k_skip ?_
       refine q_n ?_
       refine k_join (J := fun (x : (List (List Int))) => [(0, .d false [.sl none (a0.map (eF eI))]), (2, .p (iV a2)), (7, .ov false [.sl (some 42) (x4.1.map (eO 3 eI))]), (9, .ov false [.sl (some 42) (x.map (eO 3 eI))]), (31, .p (iV a1)), (32, .p (iV x4.2)), (37, .ref 7 [(0, 0)] none), (38, .p (iV (x4.1.length : Int))), (39, .p (iV x10.2))]) (K := fun x => impl_powerUpTo_k5 x10 x = some o_x10) (fun x13 h => ?_) ?_
       ·unfold impl_powerUpTo_k5 at h
        refine k_reg (r_gq [(0, .d false [.sl none (a0.map (eF eI))]), (2, .p (iV a2)), (7, .ov false [.sl (some 42) (x4.1.map (eO 3 eI))]), (9, .ov false [.sl (some 42) (x13.map (eO 3 eI))]), (31, .p (iV a1)), (32, .p (iV x4.2)), (37, .ref 7 [(0, 0)] none), (38, .p (iV (x4.1.length : Int))), (39, .p (iV (w64 (x10.2 + 1))))] [] trivial) ?_
        exact lqn (x13, (w64 (x10.2 + 1))) h
       ·refine k_block ?_
        replace h := bs h
        obtain ⟨v14, hv14, h⟩ := h
        refine k_sreg (r_gq [(0, .d false [.sl none (a0.map (eF eI))]), (2, .p (iV a2)), (7, .ov false [.sl (some 42) (x4.1.map (eO 3 eI))]), (9, .ov false [.sl (some 42) (x10.1.map (eO 3 eI))]), (10, .p (iV x10.2)), (11, .ref 7 [(0, 0), ((Int.toNat x10.2), 0)] none), (31, .p (iV a1)), (32, .p (iV x4.2)), (37, .ref 7 [(0, 0)] none), (38, .p (iV (x4.1.length : Int))), (39, .p (iV x10.2))] [(1, {row := some [.sl (some 3) (v14.map eI)]}), (2, {row := some [.sl (some 3) (v14.map eI)]})] (A4 (idxO_some hv14).1 (map_get (eO 3 eI) (idxO_some hv14).2) (show frR [.sl (some 3) (v14.map eI)] = false from rfl) (show getRow [[.sl (some 42) (x4.1.map (eO 3 eI))]] [(0, 0), ((Int.toNat x10.2), 0)] = some [.sl (some 3) (v14.map eI)] from ((gr0 rfl).trans (gre (map_get (eO 3 eI) (idxO_some hv14).2)))))) ?_
        refine k_sreg (r_gq [(0, .d false [.sl none (a0.map (eF eI))]), (2, .p (iV a2)), (7, .ov false [.sl (some 42) (x4.1.map (eO 3 eI))]), (9, .ov false [.sl (some 42) (x10.1.map (eO 3 eI))]), (10, .p (iV x10.2)), (31, .p (iV a1)), (32, .p (iV x4.2)), (37, .ref 7 [(0, 0)] none), (38, .p (iV (x4.1.length : Int))), (39, .p (iV x10.2)), (44, .ref 7 [(0, 0), ((Int.toNat x10.2), 0)] none), (45, .p (iV (v14.length : Int))), (46, .p (iV 0))] [(1, {deep := some [.sl (some 3) (v14.map eI)], n := some v14.length})] (A2 (show (v14.map eI).length = v14.length from (List.length_map ..)) (show getRow [[.sl (some 42) (x4.1.map (eO 3 eI))]] [(0, 0), ((Int.toNat x10.2), 0)] = some [.sl (some 3) (v14.map eI)] from ((gr0 rfl).trans (gre (map_get (eO 3 eI) (idxO_some hv14).2)))))) ?_
        refine k_block ?_
        obtain ⟨y16, hl_x15, hk_x15⟩ := bs h
        clear h
        refine k_loop (J := fun (x : ((List (List Int)) × Int)) => [(0, .d false [.sl none (a0.map (eF eI))]), (2, .p (iV a2)), (7, .ov false [.sl (some 42) (x4.1.map (eO 3 eI))]), (9, .ov false [.sl (some 42) (x.1.map (eO 3 eI))]), (10, .p (iV x10.2)), (31, .p (iV a1)), (32, .p (iV x4.2)), (37, .ref 7 [(0, 0)] none), (38, .p (iV (x4.1.length : Int))), (39, .p (iV x10.2)), (44, .ref 7 [(0, 0), ((Int.toNat x10.2), 0)] none), (45, .p (iV (v14.length : Int))), (46, .p (iV x.2))]) hl_x15 (wk_of (by kernel_rfl) (by kernel_rfl)) (fun x15 o_x15 h hy_x15 => ?_)
        unfold impl_powerUpTo_b3 at h
        refine k_sreg (r_gq [(0, .d false [.sl none (a0.map (eF eI))]), (2, .p (iV a2)), (7, .ov false [.sl (some 42) (x4.1.map (eO 3 eI))]), (9, .ov false [.sl (some 42) (x15.1.map (eO 3 eI))]), (10, .p (iV x10.2)), (31, .p (iV a1)), (32, .p (iV x4.2)), (37, .ref 7 [(0, 0)] none), (38, .p (iV (x4.1.length : Int))), (39, .p (iV x10.2)), (44, .ref 7 [(0, 0), ((Int.toNat x10.2), 0)] none), (45, .p (iV (v14.length : Int))), (46, .p (iV x15.2)), (47, .p (.bool (decide (x15.2 < (v14.length : Int)))))] [] trivial) ?_
        refine k_seq ?_
        refine kc (decide (x15.2 < (v14.length : Int))) (fun hc14_16 => ?_) (fun hc14_16 => ?_)
        ·replace h := ite_t hc14_16 h
         refine k_skip ?_
         refine q_n ?_
         refine k_join (J := fun (x : (List (List Int))) => [(0, .d false [.sl none (a0.map (eF eI))]), (2, .p (iV a2)), (7, .ov false [.sl (some 42) (x4.1.map (eO 3 eI))]), (9, .ov false [.sl (some 42) (x.map (eO 3 eI))]), (10, .p (iV x10.2)), (31, .p (iV a1)), (32, .p (iV x4.2)), (37, .ref 7 [(0, 0)] none), (38, .p (iV (x4.1.length : Int))), (39, .p (iV x10.2)), (44, .ref 7 [(0, 0), ((Int.toNat x10.2), 0)] none), (45, .p (iV (v14.length : Int))), (46, .p (iV x15.2))]) (K := fun x => impl_powerUpTo_k6 x15 x = some o_x15) (fun x18 h => ?_) ?_
         ·unfold impl_powerUpTo_k6 at h
          refine k_reg (r_gq [(0, .d false [.sl none (a0.map (eF eI))]), (2, .p (iV a2)), (7, .ov false [.sl (some 42) (x4.1.map (eO 3 eI))]), (9, .ov false [.sl (some 42) (x18.map (eO 3 eI))]), (10, .p (iV x10.2)), (31, .p (iV a1)), (32, .p (iV x4.2)), (37, .ref 7 [(0, 0)] none), (38, .p (iV (x4.1.length : Int))), (39, .p (iV x10.2)), (44, .ref 7 [(0, 0), ((Int.toNat x10.2), 0)] none), (45, .p (iV (v14.length : Int))), (46, .p (iV (w64 (x15.2 + 1))))] [] trivial) ?_
          exact lqn (x18, (w64 (x15.2 + 1))) h
         ·refine k_block ?_
          replace h := bs h
          obtain ⟨v19, hv19, h⟩ := h
          refine k_sreg (r_gq [(0, .d false [.sl none (a0.map (eF eI))]), (2, .p (iV a2)), (7, .ov false [.sl (some 42) (x4.1.map (eO 3 eI))]), (9, .ov false [.sl (some 42) (x15.1.map (eO 3 eI))]), (10, .p (iV x10.2)), (12, .p (iV x15.2)), (13, .p (iV v19)), (31, .p (iV a1)), (32, .p (iV x4.2)), (37, .ref 7 [(0, 0)] none), (38, .p (iV (x4.1.length : Int))), (39, .p (iV x10.2)), (44, .ref 7 [(0, 0), ((Int.toNat x10.2), 0)] none), (45, .p (iV (v14.length : Int))), (46, .p (iV x15.2))] [(1, {deep := some [.sl (some 3) (v14.map eI)], row := some (eI v19)}), (2, {row := some (eI v19)})] (A4 (idxO_some hv19).1 (map_get eI (idxO_some hv19).2) (show getRow [[.sl (some 42) (x4.1.map (eO 3 eI))]] [(0, 0), ((Int.toNat x10.2), 0)] = some [.sl (some 3) (v14.map eI)] from ((gr0 rfl).trans (gre (map_get (eO 3 eI) (idxO_some hv14).2)))) (show getRow [[.sl (some 42) (x4.1.map (eO 3 eI))]] [(0, 0), ((Int.toNat x10.2), 0), ((Int.toNat x15.2), 0)] = some (eI v19) from ((gr0 rfl).trans ((grs (map_get (eO 3 eI) (idxO_some hv14).2) rfl).trans (gre (map_get eI (idxO_some hv19).2))))))) ?_
          replace h := bs h
          obtain ⟨v20, hv20, h⟩ := h
          refine k_sreg (r_gq [(0, .d false [.sl none (a0.map (eF eI))]), (2, .p (iV a2)), (7, .ov false [.sl (some 42) (x4.1.map (eO 3 eI))]), (9, .ov false [.sl (some 42) (x15.1.map (eO 3 eI))]), (10, .p (iV x10.2)), (13, .p (iV v19)), (31, .p (iV a1)), (32, .p (iV x4.2)), (37, .ref 7 [(0, 0)] none), (38, .p (iV (x4.1.length : Int))), (39, .p (iV x10.2)), (44, .ref 7 [(0, 0), ((Int.toNat x10.2), 0)] none), (45, .p (iV (v14.length : Int))), (46, .p (iV x15.2)), (54, .d false [.sl none (v20.map eI)]), (55, .p (iV (v20.length : Int))), (56, .p (iV 0))] [(2, {row := some [.sl none (v20.map eI)]}), (4, {n := some v20.length})] (A3 (idxO_some hv20).1 (map_get (eF eI) (idxO_some hv20).2) (show (v20.map eI).length = v20.length from (List.length_map ..)))) ?_
          refine k_block ?_
          obtain ⟨y22, hl_x21, hk_x21⟩ := bs h
          clear h
          refine k_loop (J := fun (x : ((List (List Int)) × Int)) => [(0, .d false [.sl none (a0.map (eF eI))]), (2, .p (iV a2)), (7, .ov false [.sl (some 42) (x4.1.map (eO 3 eI))]), (9, .ov false [.sl (some 42) (x.1.map (eO 3 eI))]), (10, .p (iV x10.2)), (13, .p (iV v19)), (31, .p (iV a1)), (32, .p (iV x4.2)), (37, .ref 7 [(0, 0)] none), (38, .p (iV (x4.1.length : Int))), (39, .p (iV x10.2)), (44, .ref 7 [(0, 0), ((Int.toNat x10.2), 0)] none), (45, .p (iV (v14.length : Int))), (46, .p (iV x15.2)), (54, .d false [.sl none (v20.map eI)]), (55, .p (iV (v20.length : Int))), (56, .p (iV x.2))]) hl_x21 (wk_of (by kernel_rfl) (by kernel_rfl)) (fun x21 o_x21 h hy_x21 => ?_)
          unfold impl_powerUpTo_b4 at h
          refine k_sreg (r_gq [(0, .d false [.sl none (a0.map (eF eI))]), (2, .p (iV a2)), (7, .ov false [.sl (some 42) (x4.1.map (eO 3 eI))]), (9, .ov false [.sl (some 42) (x21.1.map (eO 3 eI))]), (10, .p (iV x10.2)), (13, .p (iV v19)), (31, .p (iV a1)), (32, .p (iV x4.2)), (37, .ref 7 [(0, 0)] none), (38, .p (iV (x4.1.length : Int))), (39, .p (iV x10.2)), (44, .ref 7 [(0, 0), ((Int.toNat x10.2), 0)] none), (45, .p (iV (v14.length : Int))), (46, .p (iV x15.2)), (54, .d false [.sl none (v20.map eI)]), (55, .p (iV (v20.length : Int))), (56, .p (iV x21.2)), (57, .p (.bool (decide (x21.2 < (v20.length : Int)))))] [] trivial) ?_
          refine k_seq ?_
          refine kc (decide (x21.2 < (v20.length : Int))) (fun hc18_22 => ?_) (fun hc18_22 => ?_)
          ·replace h := ite_t hc18_22 h
           refine k_skip ?_
           refine q_n ?_
           refine k_seq ?_
           refine k_block ?_
           replace h := bs h
           obtain ⟨v24, hv24, h⟩ := h
           refine k_sreg (r_gq [(0, .d false [.sl none (a0.map (eF eI))]), (2, .p (iV a2)), (7, .ov false [.sl (some 42) (x4.1.map (eO 3 eI))]), (9, .ov false [.sl (some 42) (x21.1.map (eO 3 eI))]), (10, .p (iV x10.2)), (13, .p (iV v19)), (14, .p (iV x21.2)), (15, .p (iV v24)), (31, .p (iV a1)), (32, .p (iV x4.2)), (37, .ref 7 [(0, 0)] none), (38, .p (iV (x4.1.length : Int))), (39, .p (iV x10.2)), (44, .ref 7 [(0, 0), ((Int.toNat x10.2), 0)] none), (45, .p (iV (v14.length : Int))), (46, .p (iV x15.2)), (54, .d false [.sl none (v20.map eI)]), (55, .p (iV (v20.length : Int))), (56, .p (iV x21.2))] [(1, {row := some (eI v24)})] (A2 (idxO_some hv24).1 (map_get eI (idxO_some hv24).2))) ?_
           replace h := bs h
           obtain ⟨v25, hv25, h⟩ := h
           replace h := bs h
           obtain ⟨v26, hv26, h⟩ := h
           refine k_reg (r_dq Try_mixed 18 [] [(0, .d false [.sl none (a0.map (eF eI))]), (2, .p (iV a2)), (7, .ov false [.sl (some 42) (x4.1.map (eO 3 eI))]), (9, .ov false [.sl (some 42) ((x21.1.set (Int.toNat x10.2) (v25.set (Int.toNat x21.2) (if a2 < (w64 (v26 + (w64 (v19 * v24)))) then a2 else (w64 (v26 + (w64 (v19 * v24))))))).map (eO 3 eI))]), (10, .p (iV x10.2)), (13, .p (iV v19)), (31, .p (iV a1)), (32, .p (iV x4.2)), (37, .ref 7 [(0, 0)] none), (38, .p (iV (x4.1.length : Int))), (39, .p (iV x10.2)), (44, .ref 7 [(0, 0), ((Int.toNat x10.2), 0)] none), (45, .p (iV (v14.length : Int))), (46, .p (iV x15.2)), (54, .d false [.sl none (v20.map eI)]), (55, .p (iV (v20.length : Int))), (56, .p (iV x21.2))] [(2, {row := some [.sl (some 3) (v25.map eI)]}), (3, {row := some [.sl (some 3) (v25.map eI)]}), (7, {row := some [.sl (some 3) (v25.map eI)]}), (8, {row := some [.sl (some 3) (v25.map eI)]}), (10, {deep := some [.sl (some 3) (v25.map eI)], row := some (eI v26)}), (11, {row := some (eI v26)}), (18, {deep := some [.sl (some 3) (v25.map eI)], row := some (eI v26)}), (19, {row := some (eI v26), fix := some (9, .ov false [.sl (some 42) ((x21.1.set (Int.toNat x10.2) (v25.set (Int.toNat x21.2) (if a2 < (w64 (v26 + (w64 (v19 * v24)))) then a2 else (w64 (v26 + (w64 (v19 * v24))))))).map (eO 3 eI))])})] (B6 (idxO_some hv25).1 (map_get (eO 3 eI) (idxO_some hv25).2) (show frR [.sl (some 3) (v25.map eI)] = false from rfl) (show getRow [[.sl (some 42) (x21.1.map (eO 3 eI))]] [(0, 0), ((Int.toNat x10.2), 0)] = some [.sl (some 3) (v25.map eI)] from ((gr0 rfl).trans (gre (map_get (eO 3 eI) (idxO_some hv25).2)))) (idxO_some hv25).1 (map_get (eO 3 eI) (idxO_some hv25).2) (B6 (show frR [.sl (some 3) (v25.map eI)] = false from rfl) (show getRow [[.sl (some 42) (x21.1.map (eO 3 eI))]] [(0, 0), ((Int.toNat x10.2), 0)] = some [.sl (some 3) (v25.map eI)] from ((gr0 rfl).trans (gre (map_get (eO 3 eI) (idxO_some hv25).2)))) (idxO_some hv26).1 (map_get eI (idxO_some hv26).2) (show getRow [[.sl (some 42) (x21.1.map (eO 3 eI))]] [(0, 0), ((Int.toNat x10.2), 0)] = some [.sl (some 3) (v25.map eI)] from ((gr0 rfl).trans (gre (map_get (eO 3 eI) (idxO_some hv25).2)))) (show getRow [[.sl (some 42) (x21.1.map (eO 3 eI))]] [(0, 0), ((Int.toNat x10.2), 0), ((Int.toNat x21.2), 0)] = some (eI v26) from ((gr0 rfl).trans ((grs (map_get (eO 3 eI) (idxO_some hv25).2) rfl).trans (gre (map_get eI (idxO_some hv26).2))))) (A5 (idxO_some hv26).1 (map_get eI (idxO_some hv26).2) (show getRow [[.sl (some 42) (x21.1.map (eO 3 eI))]] [(0, 0), ((Int.toNat x10.2), 0)] = some [.sl (some 3) (v25.map eI)] from ((gr0 rfl).trans (gre (map_get (eO 3 eI) (idxO_some hv25).2)))) (show getRow [[.sl (some 42) (x21.1.map (eO 3 eI))]] [(0, 0), ((Int.toNat x10.2), 0), ((Int.toNat x21.2), 0)] = some (eI v26) from ((gr0 rfl).trans ((grs (map_get (eO 3 eI) (idxO_some hv25).2) rfl).trans (gre (map_get eI (idxO_some hv26).2))))) (show (SV.ov false [.sl (some 42) (setL (x21.1.map (eO 3 eI)) [((Int.toNat x10.2), 0), ((Int.toNat x21.2), 0)] [rI (if a2 < (w64 (v26 + (w64 (v19 * v24)))) then a2 else (w64 (v26 + (w64 (v19 * v24)))))])] : SV) = .ov false [.sl (some 42) ((x21.1.set (Int.toNat x10.2) (v25.set (Int.toNat x21.2) (if a2 < (w64 (v26 + (w64 (v19 * v24)))) then a2 else (w64 (v26 + (w64 (v19 * v24))))))).map (eO 3 eI))] from (congrArg (fun z => SV.ov false [.sl (some 42) z]) (set2 (f := (eO 3 eI)) (y := (v25.set (Int.toNat x21.2) (if a2 < (w64 (v26 + (w64 (v19 * v24)))) then a2 else (w64 (v26 + (w64 (v19 * v24))))))) (idxO_some hv25).2 rfl (set1 (f := eI) (y := (if a2 < (w64 (v26 + (w64 (v19 * v24)))) then a2 else (w64 (v26 + (w64 (v19 * v24)))))) (idxO_some hv26).2 rfl) rfl))))))) ?_
           refine b_n ?_
           refine q_n ?_
           refine k_reg (r_gq [(0, .d false [.sl none (a0.map (eF eI))]), (2, .p (iV a2)), (7, .ov false [.sl (some 42) (x4.1.map (eO 3 eI))]), (9, .ov false [.sl (some 42) ((x21.1.set (Int.toNat x10.2) (v25.set (Int.toNat x21.2) (if a2 < (w64 (v26 + (w64 (v19 * v24)))) then a2 else (w64 (v26 + (w64 (v19 * v24))))))).map (eO 3 eI))]), (10, .p (iV x10.2)), (13, .p (iV v19)), (31, .p (iV a1)), (32, .p (iV x4.2)), (37, .ref 7 [(0, 0)] none), (38, .p (iV (x4.1.length : Int))), (39, .p (iV x10.2)), (44, .ref 7 [(0, 0), ((Int.toNat x10.2), 0)] none), (45, .p (iV (v14.length : Int))), (46, .p (iV x15.2)), (54, .d false [.sl none (v20.map eI)]), (55, .p (iV (v20.length : Int))), (56, .p (iV (w64 (x21.2 + 1))))] [] trivial) ?_
           exact lqn ((x21.1.set (Int.toNat x10.2) (v25.set (Int.toNat x21.2) (if a2 < (w64 (v26 + (w64 (v19 * v24)))) then a2 else (w64 (v26 + (w64 (v19 * v24))))))), (w64 (x21.2 + 1))) h
          ·replace h := ite_f hc18_22 h
           refine k_exit ?_
           refine q_x ?_
           refine lq_x ?_
           refine b_x ?_
           refine b_n ?_
           have hyy := hy_x21 _ (oi h).symm
           subst hyy
           have h := hk_x21
           refine q_n ?_
           exact jx x21.1 h
        ·replace h := ite_f hc14_16 h
         refine k_exit ?_
         refine q_x ?_
         refine lq_x ?_
         refine b_x ?_
         refine b_n ?_
         have hyy := hy_x15 _ (oi h).symm
         subst hyy
         have h := hk_x15
         refine q_n ?_
         exact jx x15.1 h
      ·replace h := ite_f hc10_11 h
       refine k_exit ?_
       refine q_x ?_
       refine lq_x ?_
       refine b_x ?_
       have hyy := hy_x10 _ (oi h).symm
       subst hyy
       have h := hk_x10
       refine q_n ?_
       exact jx x10.1 h
   ·replace h := ite_f hc5_5 h
    refine k_exit ?_
    refine q_x ?_
    refine lq_x ?_
    refine b_x ?_
    have hyy := hy_x4 _ (oi h).symm
    subst hyy
    have h := hk_x4
    refine q_n ?_
    exact jx x4.1 h
 ·refine k_sreg (r_gq [(0, .d false [.sl none (a0.map (eF eI))]), (1, .p (iV a1)), (2, .p (iV a2)), (7, .ov false [.sl (some 42) (v1.map (eO 3 eI))]), (20, .p (iV (v1.length : Int))), (21, .p (iV 0))] [(1, {n := some v1.length})] (A1 (show (v1.map (eO 3 eI)).length = v1.length from (List.length_map ..)))) ?_
  refine k_block ?_
  obtain ⟨y28, hl_x27, hk_x27⟩ := bs h
  clear h
  refine k_loop (J := fun (x : ((List (List Int)) × Int)) => [(0, .d false [.sl none (a0.map (eF eI))]), (1, .p (iV a1)), (2, .p (iV a2)), (7, .ov false [.sl (some 42) (x.1.map (eO 3 eI))]), (20, .p (iV (v1.length : Int))), (21, .p (iV x.2))]) hl_x27 (wk_of (by kernel_rfl) (by kernel_rfl)) (fun x27 o_x27 h hy_x27 => ?_)
  unfold impl_powerUpTo_b5 at h
  refine k_sreg (r_gq [(0, .d false [.sl none (a0.map (eF eI))]), (1, .p (iV a1)), (2, .p (iV a2)), (7, .ov false [.sl (some 42) (x27.1.map (eO 3 eI))]), (20, .p (iV (v1.length : Int))), (21, .p (iV x27.2)), (22, .p (.bool (decide (x27.2 < (v1.length : Int)))))] [] trivial) ?_
  refine k_seq ?_
  refine kc (decide (x27.2 < (v1.length : Int))) (fun hc5_28 => ?_) (fun hc5_28 => ?_)
  ·replace h := ite_t hc5_28 h
   refine k_skip ?_
   refine q_n ?_
   refine k_seq ?_
   refine k_block ?_
   refine k_sreg (r_gq [(0, .d false [.sl none (a0.map (eF eI))]), (1, .p (iV a1)), (2, .p (iV a2)), (7, .ov false [.sl (some 42) (x27.1.map (eO 3 eI))]), (8, .p (iV x27.2)), (20, .p (iV (v1.length : Int))), (21, .p (iV x27.2))] [] trivial) ?_
   replace h := bs h
   obtain ⟨v30, hv30, h⟩ := h
   replace h := bs h
   obtain ⟨v31, hv31, h⟩ := h
   refine k_reg (r_gq [(0, .d false [.sl none (a0.map (eF eI))]), (1, .p (iV a1)), (2, .p (iV a2)), (7, .ov false [.sl (some 42) ((x27.1.set (Int.toNat x27.2) (v30.set (Int.toNat x27.2) 1)).map (eO 3 eI))]), (20, .p (iV (v1.length : Int))), (21, .p (iV x27.2))] [(2, {row := some [.sl (some 3) (v30.map eI)]}), (3, {row := some [.sl (some 3) (v30.map eI)]}), (5, {deep := some [.sl (some 3) (v30.map eI)], row := some (eI v31)}), (6, {row := some (eI v31), fix := some (7, .ov false [.sl (some 42) ((x27.1.set (Int.toNat x27.2) (v30.set (Int.toNat x27.2) 1)).map (eO 3 eI))])})] (B6 (idxO_some hv30).1 (map_get (eO 3 eI) (idxO_some hv30).2) (show frR [.sl (some 3) (v30.map eI)] = false from rfl) (show getRow [[.sl (some 42) (x27.1.map (eO 3 eI))]] [(0, 0), ((Int.toNat x27.2), 0)] = some [.sl (some 3) (v30.map eI)] from ((gr0 rfl).trans (gre (map_get (eO 3 eI) (idxO_some hv30).2)))) (idxO_some hv31).1 (map_get eI (idxO_some hv31).2) (A3 (show getRow [[.sl (some 42) (x27.1.map (eO 3 eI))]] [(0, 0), ((Int.toNat x27.2), 0)] = some [.sl (some 3) (v30.map eI)] from ((gr0 rfl).trans (gre (map_get (eO 3 eI) (idxO_some hv30).2)))) (show getRow [[.sl (some 42) (x27.1.map (eO 3 eI))]] [(0, 0), ((Int.toNat x27.2), 0), ((Int.toNat x27.2), 0)] = some (eI v31) from ((gr0 rfl).trans ((grs (map_get (eO 3 eI) (idxO_some hv30).2) rfl).trans (gre (map_get eI (idxO_some hv31).2))))) (show (SV.ov false [.sl (some 42) (setL (x27.1.map (eO 3 eI)) [((Int.toNat x27.2), 0), ((Int.toNat x27.2), 0)] [rI 1])] : SV) = .ov false [.sl (some 42) ((x27.1.set (Int.toNat x27.2) (v30.set (Int.toNat x27.2) 1)).map (eO 3 eI))] from (congrArg (fun z => SV.ov false [.sl (some 42) z]) (set2 (f := (eO 3 eI)) (y := (v30.set (Int.toNat x27.2) 1)) (idxO_some hv30).2 rfl (set1 (f := eI) (y := 1) (idxO_some hv31).2 rfl) rfl)))))) ?_
   refine b_n ?_
   refine q_n ?_
   refine k_reg (r_gq [(0, .d false [.sl none (a0.map (eF eI))]), (1, .p (iV a1)), (2, .p (iV a2)), (7, .ov false [.sl (some 42) ((x27.1.set (Int.toNat x27.2) (v30.set (Int.toNat x27.2) 1)).map (eO 3 eI))]), (20, .p (iV (v1.length : Int))), (21, .p (iV (w64 (x27.2 + 1))))] [] trivial) ?_
   exact lqn ((x27.1.set (Int.toNat x27.2) (v30.set (Int.toNat x27.2) 1)), (w64 (x27.2 + 1))) h
  ·replace h := ite_f hc5_28 h
   refine k_exit ?_
   refine q_x ?_
   refine lq_x ?_
   refine b_x ?_
   have hyy := hy_x27 _ (oi h).symm
   subst hyy
   have h := hk_x27
   refine q_n ?_
   exact jx x27.1 h
theorem wk_impl_moebius {a0 : Int}  {r : Int} (h : impl_moebius a0 = some r) : Meets Try.prog 113 [wI a0] { vals := [.p (iV r)] } := by
 refine mo Try.func113 [(0, .p (iV a0))] ?_
 unfold impl_moebius at h
 refine k_sreg (r_gq [(0, .p (iV a0))] [] trivial) ?_
 refine k_sreg (r_gq [(0, .p (iV a0)), (3, .p (iV 1))] [] trivial) ?_
 refine k_join (J := fun (x : Int) => [(3, .p (iV x))]) (K := fun x => impl_moebius_k1 x = some r) (fun x1 h => ?_) ?_
 ·unfold impl_moebius_k1 at h
  refine k_sreg (r_gq [(2, .p (iV x1))] [] trivial) ?_
  refine k_ret ?_
  obtain rfl := oi h
  exact er [(.p (iV x1), 2)]
 ·refine k_sreg (r_gq [(0, .p (iV a0)), (3, .p (iV 1)), (4, .p (iV 2))] [] trivial) ?_
  refine k_block ?_
  obtain ⟨y3, hl_x2, hk_x2⟩ := bs h
  clear h
  refine k_loop (J := fun (x : (Int × Int × Int)) => [(0, .p (iV x.1)), (3, .p (iV x.2.1)), (4, .p (iV x.2.2))]) hl_x2 (wk_of (by kernel_rfl) (by kernel_rfl)) (fun x2 o_x2 h hy_x2 => ?_)
  unfold impl_moebius_b1 at h
  refine k_seq ?_
  refine k_sreg (r_gq [(0, .p (iV x2.1)), (3, .p (iV x2.2.1)), (4, .p (iV x2.2.2)), (7, .p (.bool (decide (x2.2.2 ≤ x2.1))))] [] trivial) ?_
  refine kc (decide (x2.2.2 ≤ x2.1)) (fun hc5_3 => ?_) (fun hc5_3 => ?_)
  ·replace h := ite_t hc5_3 h
   refine k_skip ?_
   refine q_n ?_
   refine k_seq ?_
   refine k_block ?_
   replace h := bs h
   obtain ⟨u5, hu5, h⟩ := h
   refine k_sreg (r_gq [(0, .p (iV x2.1)), (3, .p (iV x2.2.1)), (4, .p (iV x2.2.2)), (13, .p (.bool ((Int.tmod x2.1 x2.2.2) == 0)))] [] (A1 (guardO_some hu5))) ?_
   refine kc ((Int.tmod x2.1 x2.2.2) == 0) (fun hc6_5 => ?_) (fun hc6_5 => ?_)
   ·replace h := ite_t hc6_5 h
    refine k_sreg (r_gq [(0, .p (iV (w64 (Int.tdiv x2.1 x2.2.2)))), (3, .p (iV x2.2.1)), (4, .p (iV x2.2.2))] [] (A1 (guardO_some hu5))) ?_
    refine k_sreg (r_gq [(0, .p (iV (w64 (Int.tdiv x2.1 x2.2.2)))), (3, .p (iV (w64 (0 - x2.2.1)))), (4, .p (iV x2.2.2))] [] trivial) ?_
    refine k_sreg (r_gq [(0, .p (iV (w64 (Int.tdiv x2.1 x2.2.2)))), (3, .p (iV (w64 (0 - x2.2.1)))), (4, .p (iV x2.2.2)), (22, .p (.bool ((Int.tmod (w64 (Int.tdiv x2.1 x2.2.2)) x2.2.2) == 0)))] [] (A1 (guardO_some hu5))) ?_
    refine kc ((Int.tmod (w64 (Int.tdiv x2.1 x2.2.2)) x2.2.2) == 0) (fun hc6_6 => ?_) (fun hc6_6 => ?_)
    ·replace h := ite_t hc6_6 h
     refine k_sreg (r_gq [(2, .p (iV 0))] [] trivial) ?_
     refine k_ret ?_
     refine b_r ?_
     refine q_r ?_
     refine lq_r ?_
     refine b_r ?_
     refine q_r ?_
     have hyy := hy_x2 _ (oi h).symm
     subst hyy
     have h := hk_x2
     dsimp only [Sum.elim] at h
     obtain rfl := oi h
     exact er [(.p (iV 0), 2)]
    ·replace h := ite_f hc6_6 h
     refine k_skip ?_
     refine b_n ?_
     refine q_n ?_
     refine k_reg (r_gq [(0, .p (iV (w64 (Int.tdiv x2.1 x2.2.2)))), (3, .p (iV (w64 (0 - x2.2.1)))), (4, .p (iV (w64 (x2.2.2 + 1))))] [] trivial) ?_
     exact lqn ((w64 (Int.tdiv x2.1 x2.2.2)), (w64 (0 - x2.2.1)), (w64 (x2.2.2 + 1))) h
   ·replace h := ite_f hc6_5 h
    refine k_skip ?_
    refine b_n ?_
    refine q_n ?_
    refine k_reg (r_gq [(0, .p (iV x2.1)), (3, .p (iV x2.2.1)), (4, .p (iV (w64 (x2.2.2 + 1))))] [] trivial) ?_
    exact lqn (x2.1, x2.2.1, (w64 (x2.2.2 + 1))) h
  ·replace h := ite_f hc5_3 h
   refine k_exit ?_
   refine q_x ?_
   refine lq_x ?_
   refine b_x ?_
   have hyy := hy_x2 _ (oi h).symm
   subst hyy
   have h := hk_x2
   dsimp only [Sum.elim] at h
   refine q_n ?_
   exact jx x2.2.1 h
theorem wk_impl_loopCount {a0 : (List (List Int))} {a1 : Int}  {r : Int} (h : impl_loopCount a0 a1 = some r) : Meets Try.prog 83 [.d false [.sl none (a0.map (eF eI))], wI a1] { vals := [.p (iV r)] } := by
 refine mo Try.func83 [(0, .d false [.sl none (a0.map (eF eI))]), (1, .p (iV a1))] ?_
 unfold impl_loopCount at h
 refine k_sreg (r_gq [(0, .d false [.sl none (a0.map (eF eI))]), (1, .p (iV a1))] [] trivial) ?_
 refine k_sreg (r_gq [(0, .d false [.sl none (a0.map (eF eI))]), (1, .p (iV a1)), (5, .p (iV 0))] [] trivial) ?_
 refine k_join (J := fun (x : Int) => [(1, .p (iV a1)), (5, .p (iV x))]) (K := fun x => impl_loopCount_k1 a1 x = some r) (fun x1 h => ?_) ?_
 ·unfold impl_loopCount_k1 at h
  replace h := bs h
  obtain ⟨u2, hu2, h⟩ := h
  refine k_sreg (r_gq [(4, .p (iV (w64 (Int.tdiv x1 a1))))] [] (A1 (guardO_some hu2))) ?_
  refine k_ret ?_
  obtain rfl := oi h
  exact er [(.p (iV (w64 (Int.tdiv x1 a1))), 4)]
 ·refine k_sreg (r_gq [(0, .d false [.sl none (a0.map (eF eI))]), (1, .p (iV a1)), (5, .p (iV 0)), (6, .p (iV 1))] [] trivial) ?_
  refine k_block ?_
  obtain ⟨y4, hl_x3, hk_x3⟩ := bs h
  clear h
  refine k_loop (J := fun (x : Qr) => [(0, .d false [.sl none (a0.map (eF eI))]), (1, .p (iV a1)), (5, .p (iV x.1)), (6, .p (iV x.2))]) hl_x3 (wk_of (by kernel_rfl) (by kernel_rfl)) (fun x3 o_x3 h hy_x3 => ?_)
  unfold impl_loopCount_b1 at h
  refine k_seq ?_
  refine k_sreg (r_gq [(0, .d false [.sl none (a0.map (eF eI))]), (1, .p (iV a1)), (5, .p (iV x3.1)), (6, .p (iV x3.2)), (11, .p (.bool (decide (x3.2 ≤ a1))))] [] trivial) ?_
  refine kc (decide (x3.2 ≤ a1)) (fun hc5_4 => ?_) (fun hc5_4 => ?_)
  ·replace h := ite_t hc5_4 h
   refine k_skip ?_
   refine q_n ?_
   refine k_join (J := fun (x : Int) => [(0, .d false [.sl none (a0.map (eF eI))]), (1, .p (iV a1)), (5, .p (iV x)), (6, .p (iV x3.2))]) (K := fun x => impl_loopCount_k2 x3 x = some o_x3) (fun x6 h => ?_) ?_
   ·unfold impl_loopCount_k2 at h
    refine k_reg (r_gq [(0, .d false [.sl none (a0.map (eF eI))]), (1, .p (iV a1)), (5, .p (iV x6)), (6, .p (iV (w64 (x3.2 + 1))))] [] trivial) ?_
    exact lqn (x6, (w64 (x3.2 + 1))) h
   ·refine k_block ?_
    replace h := bs h
    obtain ⟨u7, hu7, h⟩ := h
    refine k_sreg (r_gq [(0, .d false [.sl none (a0.map (eF eI))]), (1, .p (iV a1)), (5, .p (iV x3.1)), (6, .p (iV x3.2)), (17, .p (.bool ((Int.tmod a1 x3.2) == 0)))] [] (A1 (guardO_some hu7))) ?_
    refine kc ((Int.tmod a1 x3.2) == 0) (fun hc6_7 => ?_) (fun hc6_7 => ?_)
    ·replace h := ite_t hc6_7 h
     replace h := bs h
     obtain ⟨v9, hv9, h⟩ := h
     refine k_sreg (r_gq [(0, .d false [.sl none (a0.map (eF eI))]), (1, .p (iV a1)), (5, .p (iV x3.1)), (6, .p (iV x3.2)), (20, .ov false [.sl (some 42) (v9.map (eO 3 eI))]), (21, .p (iV (v9.length : Int))), (22, .p (iV 0))] [(2, {call := some (none, [.ov false [.sl (some 42) (v9.map (eO 3 eI))]], true)}), (3, {n := some v9.length})] (A3 (wk_impl_powerUpTo hv9) (show List.all [.ov false [.sl (some 42) (v9.map (eO 3 eI))]] simpleR = true from (sa_o (wnR1 (wnL_enc (wn_O wn_I)) rfl) rfl)) (show (v9.map (eO 3 eI)).length = v9.length from (List.length_map ..)))) ?_
     refine k_block ?_
     obtain ⟨y11, hl_x10, hk_x10⟩ := bs h
     clear h
     refine k_loop (J := fun (x : Qr) => [(0, .d false [.sl none (a0.map (eF eI))]), (1, .p (iV a1)), (5, .p (iV x.1)), (6, .p (iV x3.2)), (20, .ov false [.sl (some 42) (v9.map (eO 3 eI))]), (21, .p (iV (v9.length : Int))), (22, .p (iV x.2))]) hl_x10 (wk_of (by kernel_rfl) (by kernel_rfl)) (fun x10 o_x10 h hy_x10 => ?_)
     unfold impl_loopCount_b2 at h
     refine k_sreg (r_gq [(0, .d false [.sl none (a0.map (eF eI))]), (1, .p (iV a1)), (5, .p (iV x10.1)), (6, .p (iV x3.2)), (20, .ov false [.sl (some 42) (v9.map (eO 3 eI))]), (21, .p (iV (v9.length : Int))), (22, .p (iV x10.2)), (23, .p (.bool (decide (x10.2 < (v9.length : Int)))))] [] trivial) ?_
     refine k_seq ?_
     refine kc (decide (x10.2 < (v9.length : Int))) (fun hc9_11 => ?_) (fun hc9_11 => ?_)
     ·replace h := ite_t hc9_11 h
      refine k_skip ?_
      refine q_n ?_
      refine k_seq ?_
      refine k_block ?_
      replace h := bs h
      obtain ⟨v13, hv13, h⟩ := h
      refine k_sreg (r_gq [(0, .d false [.sl none (a0.map (eF eI))]), (1, .p (iV a1)), (5, .p (iV x10.1)), (6, .p (iV x3.2)), (7, .p (iV x10.2)), (8, .ref 20 [(0, 0), ((Int.toNat x10.2), 0)] none), (20, .ov false [.sl (some 42) (v9.map (eO 3 eI))]), (21, .p (iV (v9.length : Int))), (22, .p (iV x10.2))] [(1, {row := some [.sl (some 3) (v13.map eI)]}), (2, {row := some [.sl (some 3) (v13.map eI)]})] (A4 (idxO_some hv13).1 (map_get (eO 3 eI) (idxO_some hv13).2) (show frR [.sl (some 3) (v13.map eI)] = false from rfl) (show getRow [[.sl (some 42) (v9.map (eO 3 eI))]] [(0, 0), ((Int.toNat x10.2), 0)] = some [.sl (some 3) (v13.map eI)] from ((gr0 rfl).trans (gre (map_get (eO 3 eI) (idxO_some hv13).2)))))) ?_
      replace h := bs h
      obtain ⟨v14, hv14, h⟩ := h
      replace h := bs h
      obtain ⟨v15, hv15, h⟩ := h
      refine k_reg (r_dq Try_mixed 10 [] [(0, .d false [.sl none (a0.map (eF eI))]), (1, .p (iV a1)), (5, .p (iV (w64 (x10.1 + (w64 (v14 * v15)))))), (6, .p (iV x3.2)), (20, .ov false [.sl (some 42) (v9.map (eO 3 eI))]), (21, .p (iV (v9.length : Int))), (22, .p (iV x10.2))] [(4, {call := some (none, [.p (iV v14)], true)}), (7, {deep := some [.sl (some 3) (v13.map eI)], row := some (eI v15)}), (8, {row := some (eI v15)})] (A6 (guardO_some hu7) (wk_impl_moebius hv14) (idxO_some hv15).1 (map_get eI (idxO_some hv15).2) (show getRow [[.sl (some 42) (v9.map (eO 3 eI))]] [(0, 0), ((Int.toNat x10.2), 0)] = some [.sl (some 3) (v13.map eI)] from ((gr0 rfl).trans (gre (map_get (eO 3 eI) (idxO_some hv13).2)))) (show getRow [[.sl (some 42) (v9.map (eO 3 eI))]] [(0, 0), ((Int.toNat x10.2), 0), ((Int.toNat x10.2), 0)] = some (eI v15) from ((gr0 rfl).trans ((grs (map_get (eO 3 eI) (idxO_some hv13).2) rfl).trans (gre (map_get eI (idxO_some hv15).2))))))) ?_
      refine b_n ?_
      refine q_n ?_
      refine k_reg (r_gq [(0, .d false [.sl none (a0.map (eF eI))]), (1, .p (iV a1)), (5, .p (iV (w64 (x10.1 + (w64 (v14 * v15)))))), (6, .p (iV x3.2)), (20, .ov false [.sl (some 42) (v9.map (eO 3 eI))]), (21, .p (iV (v9.length : Int))), (22, .p (iV (w64 (x10.2 + 1))))] [] trivial) ?_
      exact lqn ((w64 (x10.1 + (w64 (v14 * v15)))), (w64 (x10.2 + 1))) h
     ·replace h := ite_f hc9_11 h
      refine k_exit ?_
      refine q_x ?_
      refine lq_x ?_
      refine b_x ?_
      refine b_n ?_
      have hyy := hy_x10 _ (oi h).symm
      subst hyy
      have h := hk_x10
      refine q_n ?_
      exact jx x10.1 h
    ·replace h := ite_f hc6_7 h
     refine k_skip ?_
     refine b_n ?_
     refine q_n ?_
     exact jx x3.1 h
  ·replace h := ite_f hc5_4 h
   refine k_exit ?_
   refine q_x ?_
   refine lq_x ?_
   refine b_x ?_
   have hyy := hy_x3 _ (oi h).symm
   subst hyy
   have h := hk_x3
   refine q_n ?_
   exact jx x3.1 h
theorem wk_impl_CountLoops {a0 : (List Qp)} {a1 : (List Qp)} {a2 : Int}  {r : (Int × Bool)} (h : impl_CountLoops a0 a1 a2 = some r) : Meets Try.prog 48 [.d false [.sl none (a0.map ePt)], .d false [.sl none (a1.map ePt)], wI a2] { vals := [.p (iV r.1), .p (.bool r.2)] } := by
 refine mo Try.func48 [(0, .d false [.sl none (a0.map ePt)]), (1, .d false [.sl none (a1.map ePt)]), (2, .p (iV a2))] ?_
 unfold impl_CountLoops at h
 refine k_sreg (r_gq [(0, .d false [.sl none (a0.map ePt)]), (1, .d false [.sl none (a1.map ePt)]), (2, .p (iV a2))] [] trivial) ?_
 replace h := bs h
 obtain ⟨v1, hv1, h⟩ := h
 refine k_sreg (r_gq [(2, .p (iV a2)), (8, .ov false [.sl (some 42) (v1.1.map (eO 3 eI))]), (9, .p (.bool v1.2))] [(2, {call := some (none, [.ov false [.sl (some 42) (v1.1.map (eO 3 eI))], .p (.bool v1.2)], true)})] (A2 (wk_impl_CoverGraph hv1) (show List.all [.ov false [.sl (some 42) (v1.1.map (eO 3 eI))], .p (.bool v1.2)] simpleR = true from (sa_o (wnR1 (wnL_enc (wn_O wn_I)) rfl) (sa_p rfl))))) ?_
 refine k_seq ?_
 replace h := bs h
 obtain ⟨w3, hw3, h⟩ := h
 refine k_sreg (l1 := [(2, .p (iV a2)), (8, .ov false [.sl (some 42) (v1.1.map (eO 3 eI))]), (22, .p (.bool w3))]) ?_ ?_
 ·clear h
  rcases ft (!v1.2) with ha0 | ha0
  ·replace hw3 := ite_t ha0 hw3
   have hw3 := oi hw3
   subst hw3
   exact (r_gq [(2, .p (iV a2)), (8, .ov false [.sl (some 42) (v1.1.map (eO 3 eI))]), (22, .p (.bool true))] [(3, gT), (4, gT), (5, gT), (6, bT)] (A4 ha0 ha0 ha0 ha0))
  ·replace hw3 := ite_f ha0 hw3
   replace hw3 := bs hw3
   obtain ⟨v2, hv2, hw3⟩ := hw3
   have hw3 := oi hw3
   subst hw3
   exact (r_gq [(2, .p (iV a2)), (8, .ov false [.sl (some 42) (v1.1.map (eO 3 eI))]), (22, .p (.bool (!v2)))] [(3, gF), (4, {g := some false, call := some (none, [.p (.bool v2)], true)}), (5, gF), (6, bF)] (A5 ha0 ha0 (wk_impl_within hv2) ha0 ha0))
 ·refine kc w3 (fun hc2_3 => ?_) (fun hc2_3 => ?_)
  ·replace h := ite_t hc2_3 h
   refine k_sreg (r_gq [(6, .p (iV 0)), (7, .p (.bool false))] [] trivial) ?_
   refine k_ret ?_
   refine q_r ?_
   obtain rfl := oi h
   exact er [(.p (iV 0), 6), (.p (.bool false), 7)]
  ·replace h := ite_f hc2_3 h
   refine k_skip ?_
   refine q_n ?_
   replace h := bs h
   obtain ⟨v5, hv5, h⟩ := h
   refine k_sreg (r_gq [(6, .p (iV v5)), (7, .p (.bool true))] [(2, {call := some (some [.d false [.sl none (v1.1.map (eF eI))], wI a2], [.p (iV v5)], true)})] (A2 (show ([.d false [.sl none (eraL (v1.1.map (eO 3 eI)))], wI a2] : List Arg) = [.d false [.sl none (v1.1.map (eF eI))], wI a2] from (by simp only [eraL_enc (h := (eF eI)) (era_O er_I)])) (wk_impl_loopCount hv5))) ?_
   refine k_ret ?_
   obtain rfl := oi h
   exact er [(.p (iV v5), 6), (.p (.bool true), 7)]
theorem wk_laws_eqRat {a0 : Qr} {a1 : Qr}  {r : Bool} (h : laws_eqRat a0 a1 = some r) : Meets Try.prog 18 [.v (vRt a0), .v (vRt a1)] { vals := [.p (.bool r)] } := by
 refine mo Try.func18 [(0, .p (vRt a0)), (1, .p (vRt a1))] ?_
 unfold laws_eqRat at h
 refine k_sreg (r_gq [(2, .box (eRt a0)), (3, .box (eRt a1))] [] trivial) ?_
 refine k_seq ?_
 refine k_sreg (r_gq [(2, .box (eRt a0)), (3, .box (eRt a1)), (9, .p (.bool (a0.1 != a1.1)))] [] trivial) ?_
 refine kc (a0.1 != a1.1) (fun hc2_0 => ?_) (fun hc2_0 => ?_)
 ·replace h := ite_t hc2_0 h
  refine k_sreg (r_gq [(4, .p (.bool false))] [] trivial) ?_
  refine k_ret ?_
  refine q_r ?_
  obtain rfl := oi h
  exact er [(.p (.bool false), 4)]
 ·replace h := ite_f hc2_0 h
  refine k_skip ?_
  refine q_n ?_
  refine k_seq ?_
  refine k_sreg (r_gq [(14, .p (.bool (a0.2 != a1.2)))] [] trivial) ?_
  refine kc (a0.2 != a1.2) (fun hc2_1 => ?_) (fun hc2_1 => ?_)
  ·replace h := ite_t hc2_1 h
   refine k_sreg (r_gq [(4, .p (.bool false))] [] trivial) ?_
   refine k_ret ?_
   refine q_r ?_
   obtain rfl := oi h
   exact er [(.p (.bool false), 4)]
  ·replace h := ite_f hc2_1 h
   refine k_skip ?_
   refine q_n ?_
   refine k_sreg (r_gq [(4, .p (.bool true))] [] trivial) ?_
   refine k_ret ?_
   obtain rfl := oi h
   exact er [(.p (.bool true), 4)]
theorem wk_laws_eqPoint {a0 : Qp} {a1 : Qp}  {r : Bool} (h : laws_eqPoint a0 a1 = some r) : Meets Try.prog 55 [.v (vPt a0), .v (vPt a1)] { vals := [.p (.bool r)] } := by
 refine mo Try.func55 [(0, .p (vPt a0)), (1, .p (vPt a1))] ?_
 unfold laws_eqPoint at h
 refine k_sreg (r_gq [(2, .box (ePt a0)), (3, .box (ePt a1))] [] trivial) ?_
 refine k_seq ?_
 replace h := bs h
 obtain ⟨v1, hv1, h⟩ := h
 refine k_sreg (r_gq [(2, .box (ePt a0)), (3, .box (ePt a1)), (10, .p (.bool (!v1)))] [(4, {call := some (none, [.p (.bool v1)], true)})] (A1 (wk_laws_eqRat hv1))) ?_
 refine kc (!v1) (fun hc2_1 => ?_) (fun hc2_1 => ?_)
 ·replace h := ite_t hc2_1 h
  refine k_sreg (r_gq [(4, .p (.bool false))] [] trivial) ?_
  refine k_ret ?_
  refine q_r ?_
  obtain rfl := oi h
  exact er [(.p (.bool false), 4)]
 ·replace h := ite_f hc2_1 h
  refine k_skip ?_
  refine q_n ?_
  refine k_seq ?_
  replace h := bs h
  obtain ⟨v3, hv3, h⟩ := h
  refine k_sreg (r_gq [(16, .p (.bool (!v3)))] [(4, {call := some (none, [.p (.bool v3)], true)})] (A1 (wk_laws_eqRat hv3))) ?_
  refine kc (!v3) (fun hc2_3 => ?_) (fun hc2_3 => ?_)
  ·replace h := ite_t hc2_3 h
   refine k_sreg (r_gq [(4, .p (.bool false))] [] trivial) ?_
   refine k_ret ?_
   refine q_r ?_
   obtain rfl := oi h
   exact er [(.p (.bool false), 4)]
  ·replace h := ite_f hc2_3 h
   refine k_skip ?_
   refine q_n ?_
   refine k_sreg (r_gq [(4, .p (.bool true))] [] trivial) ?_
   refine k_ret ?_
   obtain rfl := oi h
   exact er [(.p (.bool true), 4)]
theorem wk_laws_eqPointS {a0 : (List Qp)} {a1 : (List Qp)}  {r : Bool} (h : laws_eqPointS a0 a1 = some r) : Meets Try.prog 19 [.d false [.sl none (a0.map ePt)], .d false [.sl none (a1.map ePt)]] { vals := [.p (.bool r)] } := by
 refine mo Try.func19 [(0, .d false [.sl none (a0.map ePt)]), (1, .d false [.sl none (a1.map ePt)])] ?_
 unfold laws_eqPointS at h
 refine k_sreg (r_gq [(0, .d false [.sl none (a0.map ePt)]), (1, .d false [.sl none (a1.map ePt)])] [] trivial) ?_
 refine k_seq ?_
 refine k_sreg (r_gq [(0, .d false [.sl none (a0.map ePt)]), (1, .d false [.sl none (a1.map ePt)]), (10, .p (.bool ((a0.length : Int) != (a1.length : Int))))] [(1, {n := some a0.length}), (3, {n := some a1.length})] (A2 (show (a0.map ePt).length = a0.length from (List.length_map ..)) (show (a1.map ePt).length = a1.length from (List.length_map ..)))) ?_
 refine kc ((a0.length : Int) != (a1.length : Int)) (fun hc2_0 => ?_) (fun hc2_0 => ?_)
 ·replace h := ite_t hc2_0 h
  refine k_sreg (r_gq [(4, .p (.bool false))] [] trivial) ?_
  refine k_ret ?_
  refine q_r ?_
  obtain rfl := oi h
  exact er [(.p (.bool false), 4)]
 ·replace h := ite_f hc2_0 h
  refine k_skip ?_
  refine q_n ?_
  refine k_join (J := fun (x : Unit) => []) (K := fun x => laws_eqPointS_k1 x = some r) (fun x2 h => ?_) ?_
  ·unfold laws_eqPointS_k1 at h
   refine k_sreg (r_gq [(4, .p (.bool true))] [] trivial) ?_
   refine k_ret ?_
   obtain rfl := oi h
   exact er [(.p (.bool true), 4)]
  ·refine k_sreg (r_gq [(0, .d false [.sl none (a0.map ePt)]), (1, .d false [.sl none (a1.map ePt)]), (5, .p (iV 0))] [] trivial) ?_
   refine k_block ?_
   obtain ⟨y4, hl_x3, hk_x3⟩ := bs h
   clear h
   refine k_loop (J := fun (x : Int) => [(0, .d false [.sl none (a0.map ePt)]), (1, .d false [.sl none (a1.map ePt)]), (5, .p (iV x))]) hl_x3 (wk_of (by kernel_rfl) (by kernel_rfl)) (fun x3 o_x3 h hy_x3 => ?_)
   unfold laws_eqPointS_b1 at h
   refine k_seq ?_
   refine k_sreg (r_gq [(0, .d false [.sl none (a0.map ePt)]), (1, .d false [.sl none (a1.map ePt)]), (5, .p (iV x3)), (14, .p (.bool (decide (x3 < (a0.length : Int)))))] [(2, {n := some a0.length})] (A1 (show (a0.map ePt).length = a0.length from (List.length_map ..)))) ?_
   refine kc (decide (x3 < (a0.length : Int))) (fun hc5_4 => ?_) (fun hc5_4 => ?_)
   ·replace h := ite_t hc5_4 h
    refine k_skip ?_
    refine q_n ?_
    refine k_seq ?_
    refine k_block ?_
    replace h := bs h
    obtain ⟨v6, hv6, h⟩ := h
    replace h := bs h
    obtain ⟨v7, hv7, h⟩ := h
    replace h := bs h
    obtain ⟨v8, hv8, h⟩ := h
    refine k_sreg (r_dq Try_mixed 8 [] [(0, .d false [.sl none (a0.map ePt)]), (1, .d false [.sl none (a1.map ePt)]), (5, .p (iV x3)), (26, .p (.bool (!v8)))] [(2, {row := some (ePt v6)}), (6, {row := some (ePt v7)}), (8, {call := some (none, [.p (.bool v8)], true)})] (A5 (idxO_some hv6).1 (map_get ePt (idxO_some hv6).2) (idxO_some hv7).1 (map_get ePt (idxO_some hv7).2) (wk_laws_eqPoint hv8))) ?_
    refine kc (!v8) (fun hc6_8 => ?_) (fun hc6_8 => ?_)
    ·replace h := ite_t hc6_8 h
     refine k_sreg (r_gq [(4, .p (.bool false))] [] trivial) ?_
     refine k_ret ?_
     refine b_r ?_
     refine q_r ?_
     refine lq_r ?_
     refine b_r ?_
     refine q_r ?_
     have hyy := hy_x3 _ (oi h).symm
     subst hyy
     have h := hk_x3
     dsimp only [Sum.elim] at h
     obtain rfl := oi h
     exact er [(.p (.bool false), 4)]
    ·replace h := ite_f hc6_8 h
     refine k_skip ?_
     refine b_n ?_
     refine q_n ?_
     refine k_reg (r_gq [(0, .d false [.sl none (a0.map ePt)]), (1, .d false [.sl none (a1.map ePt)]), (5, .p (iV (w64 (x3 + 1))))] [] trivial) ?_
     exact lqn (w64 (x3 + 1)) h
   ·replace h := ite_f hc5_4 h
    refine k_exit ?_
    refine q_x ?_
    refine lq_x ?_
    refine b_x ?_
    have hyy := hy_x3 _ (oi h).symm
    subst hyy
    have h := hk_x3
    dsimp only [Sum.elim] at h
    refine q_n ?_
    exact jx () h
theorem wk_laws_eqInterval {a0 : Qp} {a1 : Qp}  {r : Bool} (h : laws_eqInterval a0 a1 = some r) : Meets Try.prog 84 [.v (vPt a0), .v (vPt a1)] { vals := [.p (.bool r)] } := by
 refine mo Try.func84 [(0, .p (vPt a0)), (1, .p (vPt a1))] ?_
 unfold laws_eqInterval at h
 refine k_sreg (r_gq [(2, .box (ePt a0)), (3, .box (ePt a1))] [] trivial) ?_
 refine k_seq ?_
 replace h := bs h
 obtain ⟨v1, hv1, h⟩ := h
 refine k_sreg (r_gq [(2, .box (ePt a0)), (3, .box (ePt a1)), (10, .p (.bool (!v1)))] [(4, {call := some (none, [.p (.bool v1)], true)})] (A1 (wk_laws_eqRat hv1))) ?_
 refine kc (!v1) (fun hc2_1 => ?_) (fun hc2_1 => ?_)
 ·replace h := ite_t hc2_1 h
  refine k_sreg (r_gq [(4, .p (.bool false))] [] trivial) ?_
  refine k_ret ?_
  refine q_r ?_
  obtain rfl := oi h
  exact er [(.p (.bool false), 4)]
 ·replace h := ite_f hc2_1 h
  refine k_skip ?_
  refine q_n ?_
  refine k_seq ?_
  replace h := bs h
  obtain ⟨v3, hv3, h⟩ := h
  refine k_sreg (r_gq [(16, .p (.bool (!v3)))] [(4, {call := some (none, [.p (.bool v3)], true)})] (A1 (wk_laws_eqRat hv3))) ?_
  refine kc (!v3) (fun hc2_3 => ?_) (fun hc2_3 => ?_)
  ·replace h := ite_t hc2_3 h
   refine k_sreg (r_gq [(4, .p (.bool false))] [] trivial) ?_
   refine k_ret ?_
   refine q_r ?_
   obtain rfl := oi h
   exact er [(.p (.bool false), 4)]
  ·replace h := ite_f hc2_3 h
   refine k_skip ?_
   refine q_n ?_
   refine k_sreg (r_gq [(4, .p (.bool true))] [] trivial) ?_
   refine k_ret ?_
   obtain rfl := oi h
   exact er [(.p (.bool true), 4)]
theorem wk_laws_eqIntervalS {a0 : (List Qp)} {a1 : (List Qp)}  {r : Bool} (h : laws_eqIntervalS a0 a1 = some r) : Meets Try.prog 49 [.d false [.sl none (a0.map ePt)], .d false [.sl none (a1.map ePt)]] { vals := [.p (.bool r)] } := by
 refine mo Try.func49 [(0, .d false [.sl none (a0.map ePt)]), (1, .d false [.sl none (a1.map ePt)])] ?_
 unfold laws_eqIntervalS at h
 refine k_sreg (r_gq [(0, .d false [.sl none (a0.map ePt)]), (1, .d false [.sl none (a1.map ePt)])] [] trivial) ?_
 refine k_seq ?_
 refine k_sreg (r_gq [(0, .d false [.sl none (a0.map ePt)]), (1, .d false [.sl none (a1.map ePt)]), (10, .p (.bool ((a0.length : Int) != (a1.length : Int))))] [(1, {n := some a0.length}), (3, {n := some a1.length})] (A2 (show (a0.map ePt).length = a0.length from (List.length_map ..)) (show (a1.map ePt).length = a1.length from (List.length_map ..)))) ?_
 refine kc ((a0.length : Int) != (a1.length : Int)) (fun hc2_0 => ?_) (fun hc2_0 => ?_)
 ·replace h := ite_t hc2_0 h
  refine k_sreg (r_gq [(4, .p (.bool false))] [] trivial) ?_
  refine k_ret ?_
  refine q_r ?_
  obtain rfl := oi h
  exact er [(.p (.bool false), 4)]
 ·replace h := ite_f hc2_0 h
  refine k_skip ?_
  refine q_n ?_
  refine k_join (J := fun (x : Unit) => []) (K := fun x => laws_eqIntervalS_k1 x = some r) (fun x2 h => ?_) ?_
  ·unfold laws_eqIntervalS_k1 at h
   refine k_sreg (r_gq [(4, .p (.bool true))] [] trivial) ?_
   refine k_ret ?_
   obtain rfl := oi h
   exact er [(.p (.bool true), 4)]
  ·refine k_sreg (r_gq [(0, .d false [.sl none (a0.map ePt)]), (1, .d false [.sl none (a1.map ePt)]), (5, .p (iV 0))] [] trivial) ?_
   refine k_block ?_
   obtain ⟨y4, hl_x3, hk_x3⟩ := bs h
   clear h
   refine k_loop (J := fun (x : Int) => [(0, .d false [.sl none (a0.map ePt)]), (1, .d false [.sl none (a1.map ePt)]), (5, .p (iV x))]) hl_x3 (wk_of (by kernel_rfl) (by kernel_rfl)) (fun x3 o_x3 h hy_x3 => ?_)
   unfold laws_eqIntervalS_b1 at h
   refine k_seq ?_
   refine k_sreg (r_gq [(0, .d false [.sl none (a0.map ePt)]), (1, .d false [.sl none (a1.map ePt)]), (5, .p (iV x3)), (14, .p (.bool (decide (x3 < (a0.length : Int)))))] [(2, {n := some a0.length})] (A1 (show (a0.map ePt).length = a0.length from (List.length_map ..)))) ?_
   refine kc (decide (x3 < (a0.length : Int))) (fun hc5_4 => ?_) (fun hc5_4 => ?_)
   ·replace h := ite_t hc5_4 h
    refine k_skip ?_
    refine q_n ?_
    refine k_seq ?_
    refine k_block ?_
    replace h := bs h
    obtain ⟨v6, hv6, h⟩ := h
    replace h := bs h
    obtain ⟨v7, hv7, h⟩ := h
    replace h := bs h
    obtain ⟨v8, hv8, h⟩ := h
    refine k_sreg (r_dq Try_mixed 8 [] [(0, .d false [.sl none (a0.map ePt)]), (1, .d false [.sl none (a1.map ePt)]), (5, .p (iV x3)), (26, .p (.bool (!v8)))] [(2, {row := some (ePt v6)}), (6, {row := some (ePt v7)}), (8, {call := some (none, [.p (.bool v8)], true)})] (A5 (idxO_some hv6).1 (map_get ePt (idxO_some hv6).2) (idxO_some hv7).1 (map_get ePt (idxO_some hv7).2) (wk_laws_eqInterval hv8))) ?_
    refine kc (!v8) (fun hc6_8 => ?_) (fun hc6_8 => ?_)
    ·replace h := ite_t hc6_8 h
     refine k_sreg (r_gq [(4, .p (.bool false))] [] trivial) ?_
     refine k_ret ?_
     refine b_r ?_
     refine q_r ?_
     refine lq_r ?_
     refine b_r ?_
     refine q_r ?_
     have hyy := hy_x3 _ (oi h).symm
     subst hyy
     have h := hk_x3
     dsimp only [Sum.elim] at h
     obtain rfl := oi h
     exact er [(.p (.bool false), 4)]
    ·replace h := ite_f hc6_8 h
     refine k_skip ?_
     refine b_n ?_
     refine q_n ?_
     refine k_reg (r_gq [(0, .d false [.sl none (a0.map ePt)]), (1, .d false [.sl none (a1.map ePt)]), (5, .p (iV (w64 (x3 + 1))))] [] trivial) ?_
     exact lqn (w64 (x3 + 1)) h
   ·replace h := ite_f hc5_4 h
    refine k_exit ?_
    refine q_x ?_
    refine lq_x ?_
    refine b_x ?_
    have hyy := hy_x3 _ (oi h).symm
    subst hyy
    have h := hk_x3
    dsimp only [Sum.elim] at h
    refine q_n ?_
    exact jx () h
theorem wk_laws_FnExactCountLoops {a0 : (List Qp)} {a1 : (List Qp)} {a2 : Int}  {r : Bool} (h : laws_FnExactCountLoops a0 a1 a2 = some r) : Meets Try.prog 13 [.d false [.sl none (a0.map ePt)], .d false [.sl none (a1.map ePt)], wI a2] { vals := [.p (.bool r)] } := by
 refine mo Try.func13 [(0, .d false [.sl none (a0.map ePt)]), (1, .d false [.sl none (a1.map ePt)]), (2, .p (iV a2))] ?_
 unfold laws_FnExactCountLoops at h
 refine k_sreg (r_gq [(0, .d false [.sl none (a0.map ePt)]), (1, .d false [.sl none (a1.map ePt)]), (2, .p (iV a2))] [] trivial) ?_
 refine k_sreg (r_gq [(0, .d false [.sl none (a0.map ePt)]), (1, .d false [.sl none (a1.map ePt)]), (2, .p (iV a2)), (7, .p (iV 1048576))] [] trivial) ?_
 replace h := bs h
 obtain ⟨v1, hv1, h⟩ := h
 refine k_sreg (r_gq [(0, .d false [.sl none (a0.map ePt)]), (1, .d false [.sl none (a1.map ePt)]), (2, .p (iV a2)), (7, .p (iV v1))] [(2, {call := some (none, [.p (iV v1)], true)})] (A1 (wk_laws_szPointS hv1))) ?_
 refine k_seq ?_
 refine k_sreg (r_gq [(0, .d false [.sl none (a0.map ePt)]), (1, .d false [.sl none (a1.map ePt)]), (2, .p (iV a2)), (7, .p (iV v1)), (18, .p (.bool (decide (v1 < 0))))] [] trivial) ?_
 refine kc (decide (v1 < 0)) (fun hc2_1 => ?_) (fun hc2_1 => ?_)
 ·replace h := ite_t hc2_1 h
  refine k_sreg (r_gq [(6, .p (.bool true))] [] trivial) ?_
  refine k_ret ?_
  refine q_r ?_
  obtain rfl := oi h
  exact er [(.p (.bool true), 6)]
 ·replace h := ite_f hc2_1 h
  refine k_skip ?_
  refine q_n ?_
  replace h := bs h
  obtain ⟨v3, hv3, h⟩ := h
  refine k_sreg (r_gq [(0, .d false [.sl none (a0.map ePt)]), (1, .d false [.sl none (a1.map ePt)]), (2, .p (iV a2)), (7, .p (iV v3))] [(2, {call := some (none, [.p (iV v3)], true)})] (A1 (wk_laws_szIntervalS hv3))) ?_
  refine k_seq ?_
  refine k_sreg (r_gq [(0, .d false [.sl none (a0.map ePt)]), (1, .d false [.sl none (a1.map ePt)]), (2, .p (iV a2)), (23, .p (.bool (decide (v3 < 0))))] [] trivial) ?_
  refine kc (decide (v3 < 0)) (fun hc2_3 => ?_) (fun hc2_3 => ?_)
  ·replace h := ite_t hc2_3 h
   refine k_sreg (r_gq [(6, .p (.bool true))] [] trivial) ?_
   refine k_ret ?_
   refine q_r ?_
   obtain rfl := oi h
   exact er [(.p (.bool true), 6)]
  ·replace h := ite_f hc2_3 h
   refine k_skip ?_
   refine q_n ?_
   replace h := bs h
   obtain ⟨v5, hv5, h⟩ := h
   replace h := bs h
   obtain ⟨v6, hv6, h⟩ := h
   replace h := bs h
   obtain ⟨v7, hv7, h⟩ := h
   refine k_sreg (r_gq [(0, .d false [.sl none (a0.map ePt)]), (1, .d false [.sl none (a1.map ePt)]), (2, .p (iV a2)), (8, .p (iV v7.1)), (9, .p (.bool v7.2))] [(1, {call := some (none, [.ov false [.sl (some 62) (v5.map ePt)]], true)}), (3, {call := some (none, [.ov false [.sl (some 89) (v6.map ePt)]], true)}), (5, {call := some (some [.d false [.sl none (v5.map ePt)], .d false [.sl none (v6.map ePt)], wI a2], [.p (iV v7.1), .p (.bool v7.2)], true)})] (A6 (wk_laws_toPointS hv5) (show List.all [.ov false [.sl (some 62) (v5.map ePt)]] simpleR = true from (sa_o (wnR1 (wnL_enc (wn_P (wn_P wn_I wn_I) (wn_P wn_I wn_I))) rfl) rfl)) (wk_laws_toIntervalS hv6) (show List.all [.ov false [.sl (some 89) (v6.map ePt)]] simpleR = true from (sa_o (wnR1 (wnL_enc (wn_P (wn_P wn_I wn_I) (wn_P wn_I wn_I))) rfl) rfl)) (show ([.d false [.sl none (eraL (v5.map ePt))], .d false [.sl none (eraL (v6.map ePt))], wI a2] : List Arg) = [.d false [.sl none (v5.map ePt)], .d false [.sl none (v6.map ePt)], wI a2] from (by simp only [eraL_enc (h := ePt) (era_P (era_P er_I er_I) (era_P er_I er_I)), eraL_enc (h := ePt) (era_P (era_P er_I er_I) (era_P er_I er_I))])) (wk_spec_CountLoops hv7))) ?_
   replace h := bs h
   obtain ⟨v8, hv8, h⟩ := h
   refine k_sreg (r_gq [(0, .d false [.sl none (a0.map ePt)]), (1, .d false [.sl none (a1.map ePt)]), (2, .p (iV a2)), (8, .p (iV v7.1)), (9, .p (.bool v7.2)), (10, .ov false [.sl (some 62) (v8.map ePt)])] [(1, {call := some (none, [.ov false [.sl (some 62) (v8.map ePt)]], true)})] (A2 (wk_laws_toPointS hv8) (show List.all [.ov false [.sl (some 62) (v8.map ePt)]] simpleR = true from (sa_o (wnR1 (wnL_enc (wn_P (wn_P wn_I wn_I) (wn_P wn_I wn_I))) rfl) rfl)))) ?_
   replace h := bs h
   obtain ⟨v9, hv9, h⟩ := h
   refine k_sreg (r_gq [(0, .d false [.sl none (a0.map ePt)]), (1, .d false [.sl none (a1.map ePt)]), (2, .p (iV a2)), (8, .p (iV v7.1)), (9, .p (.bool v7.2)), (10, .ov false [.sl (some 62) (v8.map ePt)]), (11, .ov false [.sl (some 89) (v9.map ePt)])] [(1, {call := some (none, [.ov false [.sl (some 89) (v9.map ePt)]], true)})] (A2 (wk_laws_toIntervalS hv9) (show List.all [.ov false [.sl (some 89) (v9.map ePt)]] simpleR = true from (sa_o (wnR1 (wnL_enc (wn_P (wn_P wn_I wn_I) (wn_P wn_I wn_I))) rfl) rfl)))) ?_
   replace h := bs h
   obtain ⟨v10, hv10, h⟩ := h
   refine k_sreg (r_gq [(0, .d false [.sl none (a0.map ePt)]), (1, .d false [.sl none (a1.map ePt)]), (8, .p (iV v7.1)), (9, .p (.bool v7.2)), (10, .ov false [.sl (some 62) (v8.map ePt)]), (11, .ov false [.sl (some 89) (v9.map ePt)]), (12, .p (iV v10.1)), (13, .p (.bool v10.2))] [(3, {call := some (some [.d false [.sl none (v8.map ePt)], .d false [.sl none (v9.map ePt)], wI a2], [.p (iV v10.1), .p (.bool v10.2)], true)})] (A2 (show ([.d false [.sl none (eraL (v8.map ePt))], .d false [.sl none (eraL (v9.map ePt))], wI a2] : List Arg) = [.d false [.sl none (v8.map ePt)], .d false [.sl none (v9.map ePt)], wI a2] from (by simp only [eraL_enc (h := ePt) (era_P (era_P er_I er_I) (era_P er_I er_I)), eraL_enc (h := ePt) (era_P (era_P er_I er_I) (era_P er_I er_I))])) (wk_impl_CountLoops hv10))) ?_
   refine k_seq ?_
   refine k_sreg (l1 := [(0, .d false [.sl none (a0.map ePt)]), (1, .d false [.sl none (a1.map ePt)]), (10, .ov false [.sl (some 62) (v8.map ePt)]), (11, .ov false [.sl (some 89) (v9.map ePt)]), (51, .p (.bool ((v10.1 != v7.1) || (!(v10.2 == v7.2)))))]) ?_ ?_
   ·rcases ft (v10.1 != v7.1) with ha2 | ha2
    ·exact RegOk.of_eq (l2 := [(0, .d false [.sl none (a0.map ePt)]), (1, .d false [.sl none (a1.map ePt)]), (10, .ov false [.sl (some 62) (v8.map ePt)]), (11, .ov false [.sl (some 89) (v9.map ePt)]), (51, .p (.bool ((v10.1 != v7.1) || (!(v10.2 == v7.2)))))]) (r_gq [(0, .d false [.sl none (a0.map ePt)]), (1, .d false [.sl none (a1.map ePt)]), (10, .ov false [.sl (some 62) (v8.map ePt)]), (11, .ov false [.sl (some 89) (v9.map ePt)]), (51, .p (.bool true))] [(4, gT), (5, gT), (6, gT), (7, bT)] (A4 ha2 ha2 ha2 ha2)) (by simp [ha2])
    ·exact RegOk.of_eq (l2 := [(0, .d false [.sl none (a0.map ePt)]), (1, .d false [.sl none (a1.map ePt)]), (10, .ov false [.sl (some 62) (v8.map ePt)]), (11, .ov false [.sl (some 89) (v9.map ePt)]), (51, .p (.bool ((v10.1 != v7.1) || (!(v10.2 == v7.2)))))]) (r_gq [(0, .d false [.sl none (a0.map ePt)]), (1, .d false [.sl none (a1.map ePt)]), (10, .ov false [.sl (some 62) (v8.map ePt)]), (11, .ov false [.sl (some 89) (v9.map ePt)]), (51, .p (.bool (!(v10.2 == v7.2))))] [(4, gF), (5, gF), (6, gF), (7, bF)] (A4 ha2 ha2 ha2 ha2)) (by simp [ha2])
   ·refine kc ((v10.1 != v7.1) || (!(v10.2 == v7.2))) (fun hc2_10 => ?_) (fun hc2_10 => ?_)
    ·replace h := ite_t hc2_10 h
     refine k_sreg (r_gq [(6, .p (.bool false))] [] trivial) ?_
     refine k_ret ?_
     refine q_r ?_
     obtain rfl := oi h
     exact er [(.p (.bool false), 6)]
    ·replace h := ite_f hc2_10 h
     refine k_skip ?_
     refine q_n ?_
     refine k_seq ?_
     replace h := bs h
     obtain ⟨v12, hv12, h⟩ := h
     replace h := bs h
     obtain ⟨v13, hv13, h⟩ := h
     refine k_sreg (r_gq [(1, .d false [.sl none (a1.map ePt)]), (11, .ov false [.sl (some 89) (v9.map ePt)]), (56, .p (.bool (!v13)))] [(2, {call := some (none, [.ov false [.sl (some 62) (v12.map ePt)]], true)}), (3, {call := some (some [.d false [.sl none (v8.map ePt)], .d false [.sl none (v12.map ePt)]], [.p (.bool v13)], true)})] (A4 (wk_laws_toPointS hv12) (show List.all [.ov false [.sl (some 62) (v12.map ePt)]] simpleR = true from (sa_o (wnR1 (wnL_enc (wn_P (wn_P wn_I wn_I) (wn_P wn_I wn_I))) rfl) rfl)) (show ([.d false [.sl none (eraL (v8.map ePt))], .d false [.sl none (eraL (v12.map ePt))]] : List Arg) = [.d false [.sl none (v8.map ePt)], .d false [.sl none (v12.map ePt)]] from (by simp only [eraL_enc (h := ePt) (era_P (era_P er_I er_I) (era_P er_I er_I)), eraL_enc (h := ePt) (era_P (era_P er_I er_I) (era_P er_I er_I))])) (wk_laws_eqPointS hv13))) ?_
     refine kc (!v13) (fun hc2_13 => ?_) (fun hc2_13 => ?_)
     ·replace h := ite_t hc2_13 h
      refine k_sreg (r_gq [(6, .p (.bool false))] [] trivial) ?_
      refine k_ret ?_
      refine q_r ?_
      obtain rfl := oi h
      exact er [(.p (.bool false), 6)]
     ·replace h := ite_f hc2_13 h
      refine k_skip ?_
      refine q_n ?_
      refine k_seq ?_
      replace h := bs h
      obtain ⟨v15, hv15, h⟩ := h
      replace h := bs h
      obtain ⟨v16, hv16, h⟩ := h
      refine k_sreg (r_gq [(61, .p (.bool (!v16)))] [(2, {call := some (none, [.ov false [.sl (some 89) (v15.map ePt)]], true)}), (3, {call := some (some [.d false [.sl none (v9.map ePt)], .d false [.sl none (v15.map ePt)]], [.p (.bool v16)], true)})] (A4 (wk_laws_toIntervalS hv15) (show List.all [.ov false [.sl (some 89) (v15.map ePt)]] simpleR = true from (sa_o (wnR1 (wnL_enc (wn_P (wn_P wn_I wn_I) (wn_P wn_I wn_I))) rfl) rfl)) (show ([.d false [.sl none (eraL (v9.map ePt))], .d false [.sl none (eraL (v15.map ePt))]] : List Arg) = [.d false [.sl none (v9.map ePt)], .d false [.sl none (v15.map ePt)]] from (by simp only [eraL_enc (h := ePt) (era_P (era_P er_I er_I) (era_P er_I er_I)), eraL_enc (h := ePt) (era_P (era_P er_I er_I) (era_P er_I er_I))])) (wk_laws_eqIntervalS hv16))) ?_
      refine kc (!v16) (fun hc2_16 => ?_) (fun hc2_16 => ?_)
      ·replace h := ite_t hc2_16 h
       refine k_sreg (r_gq [(6, .p (.bool false))] [] trivial) ?_
       refine k_ret ?_
       refine q_r ?_
       obtain rfl := oi h
       exact er [(.p (.bool false), 6)]
      ·replace h := ite_f hc2_16 h
       refine k_skip ?_
       refine q_n ?_
       refine k_sreg (r_gq [(6, .p (.bool true))] [] trivial) ?_
       refine k_ret ?_
       obtain rfl := oi h
       exact er [(.p (.bool true), 6)]
end Go.PV

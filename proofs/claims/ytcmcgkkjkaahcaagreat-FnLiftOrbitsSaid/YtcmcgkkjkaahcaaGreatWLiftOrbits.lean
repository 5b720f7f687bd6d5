/-
  Walks through the functions that the law reaches: each answers as its plain definition does.
  Conditions: none.
-/
import Derived.KernelRfl
import Derived.Test.YtcmcgkkjkaahcaaGreatWLiftOrbitsPartA
import Derived.Test.YtcmcgkkjkaahcaaGreatProg
open Go Go.PV Go.Proofs
set_option linter.all false
namespace Go.PV
attribute [local irreducible] pvC pvL pvD sOp seqQ blockQ Meets MeetsB Ok OkL RegOk agree endQ seqL blockL loopQ endL endLB
theorem wk_spec_imOn {a0 : Qp} {a1 : Qp} {a2 : Qr}  {r : (Qr × Bool)} (h : spec_imOn a0 a1 a2 = some r) : Meets Tryz.prog 171 [.v (vPt a0), .v (vPt a1), .v (vRt a2)] { vals := [.p (vRt r.1), .p (.bool r.2)] } := by
 refine mo Tryz.func171 [(0, .p (vPt a0)), (1, .p (vPt a1)), (2, .p (vRt a2))] ?_
 unfold spec_imOn at h
 refine k_sreg (r_gq [(3, .box (ePt a0)), (4, .box (ePt a1)), (5, .box (eRt a2)), (6, .box [rI 0, rI 0])] [] trivial) ?_
 replace h := bs h
 obtain ⟨v1, hv1, h⟩ := h
 refine k_sreg (r_gq [(3, .box (ePt a0)), (4, .box (ePt a1)), (6, .box [rI 0, rI 0]), (8, .box (eRt v1.1)), (9, .p (.bool v1.2))] [(3, {call := some (none, [.p (vRt v1.1), .p (.bool v1.2)], true)})] (A1 (wk_spec_raSub hv1))) ?_
 replace h := bs h
 obtain ⟨v2, hv2, h⟩ := h
 replace h := bs h
 obtain ⟨v3, hv3, h⟩ := h
 refine k_sreg (r_dq Tryz_mixed 10 [(9, 10)] [(3, .box (ePt a0)), (6, .box [rI 0, rI 0]), (9, .p (.bool v1.2)), (10, .box (eRt v3.1)), (11, .p (.bool v3.2))] [(3, {call := some (none, [.p (vRt v2)], true)}), (4, {call := some (none, [.p (vRt v3.1), .p (.bool v3.2)], true)})] (A2 (wk_spec_imSlope hv2) (wk_spec_raMul hv3))) ?_
 refine k_seq ?_
 refine k_sreg (l1 := [(3, .box (ePt a0)), (6, .box [rI 0, rI 0]), (10, .box (eRt v3.1)), (32, .p (.bool ((!v1.2) || (!v3.2))))]) ?_ ?_
 ·rcases ft (!v1.2) with ha0 | ha0
  ·exact RegOk.of_eq (l2 := [(3, .box (ePt a0)), (6, .box [rI 0, rI 0]), (10, .box (eRt v3.1)), (32, .p (.bool ((!v1.2) || (!v3.2))))]) (r_gq [(3, .box (ePt a0)), (6, .box [rI 0, rI 0]), (10, .box (eRt v3.1)), (32, .p (.bool true))] [(3, gT), (4, gT), (5, bT)] (A3 ha0 ha0 ha0)) (by simp [ha0])
  ·exact RegOk.of_eq (l2 := [(3, .box (ePt a0)), (6, .box [rI 0, rI 0]), (10, .box (eRt v3.1)), (32, .p (.bool ((!v1.2) || (!v3.2))))]) (r_gq [(3, .box (ePt a0)), (6, .box [rI 0, rI 0]), (10, .box (eRt v3.1)), (32, .p (.bool (!v3.2)))] [(3, gF), (4, gF), (5, bF)] (A3 ha0 ha0 ha0)) (by simp [ha0])
 ·refine kc ((!v1.2) || (!v3.2)) (fun hc2_3 => ?_) (fun hc2_3 => ?_)
  ·replace h := ite_t hc2_3 h
   refine k_sreg (r_gq [(6, .box [rI 0, rI 0]), (7, .p (.bool false))] [] trivial) ?_
   refine k_ret ?_
   refine q_r ?_
   obtain rfl := oi h
   exact er [(.p (.agg #[.int .i64 0, .int .i64 0]), 6), (.p (.bool false), 7)]
  ·replace h := ite_f hc2_3 h
   refine k_skip ?_
   refine q_n ?_
   replace h := bs h
   obtain ⟨v5, hv5, h⟩ := h
   refine k_sreg (r_gq [(6, .box (eRt v5.1)), (7, .p (.bool v5.2))] [(3, {call := some (none, [.p (vRt v5.1), .p (.bool v5.2)], true)})] (A1 (wk_spec_raAdd hv5))) ?_
   refine k_ret ?_
   obtain rfl := oi h
   exact er [(.p (vRt v5.1), 6), (.p (.bool v5.2), 7)]
theorem wk_spec_imAt {a0 : (List Qp)} {a1 : Qr}  {r : (Qr × Bool)} (h : spec_imAt a0 a1 = some r) : Meets Tryz.prog 135 [.d false [.sl none (a0.map ePt)], .v (vRt a1)] { vals := [.p (vRt r.1), .p (.bool r.2)] } := by
 refine mo Tryz.func135 [(0, .d false [.sl none (a0.map ePt)]), (1, .p (vRt a1))] ?_
 unfold spec_imAt at h
 refine k_sreg (r_gq [(0, .d false [.sl none (a0.map ePt)]), (3, .box (eRt a1)), (4, .box [rI 0, rI 0])] [] trivial) ?_
 replace h := bs h
 obtain ⟨v1, hv1, h⟩ := h
 refine k_sreg (r_gq [(0, .d false [.sl none (a0.map ePt)]), (3, .box (eRt a1)), (4, .box [rI 0, rI 0]), (6, .p (iV v1))] [(2, {call := some (none, [.p (iV v1)], true)})] (A1 (wk_spec_imPiece hv1))) ?_
 replace h := bs h
 obtain ⟨v2, hv2, h⟩ := h
 replace h := bs h
 obtain ⟨v3, hv3, h⟩ := h
 replace h := bs h
 obtain ⟨v4, hv4, h⟩ := h
 refine k_sreg (r_dq Tryz_mixed 10 [] [(4, .box (eRt v4.1)), (5, .p (.bool v4.2))] [(2, {row := some (ePt v2)}), (7, {row := some (ePt v3)}), (10, {call := some (none, [.p (vRt v4.1), .p (.bool v4.2)], true)})] (A5 (idxO_some hv2).1 (map_get ePt (idxO_some hv2).2) (idxO_some hv3).1 (map_get ePt (idxO_some hv3).2) (wk_spec_imOn hv4))) ?_
 refine k_ret ?_
 obtain rfl := oi h
 exact er [(.p (vRt v4.1), 4), (.p (.bool v4.2), 5)]
theorem wk_spec_liAt {a0 : (List Qp)} {a1 : Qr}  {r : (Qr × Bool)} (h : spec_liAt a0 a1 = some r) : Meets Tryz.prog 127 [.d true [.sl none (a0.map ePt)], .v (vRt a1)] { vals := [.p (vRt r.1), .p (.bool r.2)] } := by
 refine mo Tryz.func127 [(0, .d true [.sl none (a0.map ePt)]), (1, .p (vRt a1))] ?_
 unfold spec_liAt at h
 refine k_sreg (r_gq [(2, .box [.sl none (a0.map ePt)]), (3, .box (eRt a1)), (4, .box [rI 0, rI 0])] [] trivial) ?_
 replace h := bs h
 obtain ⟨v1, hv1, h⟩ := h
 refine k_sreg (r_gq [(2, .box [.sl none (a0.map ePt)]), (3, .box (eRt a1)), (4, .box [rI 0, rI 0]), (6, .p (iV v1))] [(1, {call := some (none, [.p (iV v1)], true)})] (A1 (wk_spec_raFloor hv1))) ?_
 replace h := bs h
 obtain ⟨v2, hv2, h⟩ := h
 replace h := bs h
 obtain ⟨v3, hv3, h⟩ := h
 refine k_sreg (r_dq Tryz_mixed 12 [(11, 7)] [(4, .box [rI 0, rI 0]), (6, .p (iV v1)), (7, .box (eRt v3.1)), (8, .p (.bool v3.2))] [(1, bT), (5, {call := some (none, [.p (vRt v2)], true)}), (6, {call := some (none, [.p (vRt v3.1), .p (.bool v3.2)], true)})] (A3 (show frR [.sl none (a0.map ePt)] = true from (frR1 (frL_enc (fr_P (fr_P fr_I fr_I) (fr_P fr_I fr_I))) rfl)) (wk_spec_liPlus hv2) (wk_spec_imAt hv3))) ?_
 refine k_seq ?_
 refine k_sreg (r_gq [(4, .box [rI 0, rI 0]), (6, .p (iV v1)), (7, .box (eRt v3.1)), (22, .p (.bool (!v3.2)))] [] trivial) ?_
 refine kc (!v3.2) (fun hc2_3 => ?_) (fun hc2_3 => ?_)
 ·replace h := ite_t hc2_3 h
  refine k_sreg (r_gq [(4, .box [rI 0, rI 0]), (5, .p (.bool false))] [] trivial) ?_
  refine k_ret ?_
  refine q_r ?_
  obtain rfl := oi h
  exact er [(.p (.agg #[.int .i64 0, .int .i64 0]), 4), (.p (.bool false), 5)]
 ·replace h := ite_f hc2_3 h
  refine k_skip ?_
  refine q_n ?_
  replace h := bs h
  obtain ⟨v5, hv5, h⟩ := h
  replace h := bs h
  obtain ⟨v6, hv6, h⟩ := h
  refine k_sreg (r_dq Tryz_mixed 3 [] [(4, .box (eRt v6.1)), (5, .p (.bool v6.2))] [(2, {call := some (none, [.p (vRt v5)], true)}), (3, {call := some (none, [.p (vRt v6.1), .p (.bool v6.2)], true)})] (A2 (wk_spec_raInt hv5) (wk_spec_raAdd hv6))) ?_
  refine k_ret ?_
  obtain rfl := oi h
  exact er [(.p (vRt v6.1), 4), (.p (.bool v6.2), 5)]
theorem wk_spec_liRun {a0 : (List Qp)} {a1 : Qr} {a2 : Int}  {r : ((List Qr) × Bool)} (h : spec_liRun a0 a1 a2 = some r) : Meets Tryz.prog 67 [.d true [.sl none (a0.map ePt)], .v (vRt a1), wI a2] { vals := [.ov false [.sl (some 27) (r.1.map eRt)], .p (.bool r.2)] } := by
 refine mo Tryz.func67 [(0, .d true [.sl none (a0.map ePt)]), (1, .p (vRt a1)), (2, .p (iV a2))] ?_
 unfold spec_liRun at h
 refine k_sreg (r_gq [(2, .p (iV a2)), (3, .box [.sl none (a0.map ePt)]), (4, .box (eRt a1))] [] trivial) ?_
 refine k_sreg (r_gq [(2, .p (iV a2)), (3, .box [.sl none (a0.map ePt)]), (8, .ov false [.sl (some 27) (([a1]).map eRt)])] [] trivial) ?_
 refine k_join (J := fun (x : (List Qr)) => [(8, .ov false [.sl (some 27) (x.map eRt)])]) (K := fun x => spec_liRun_k1 x = some r) (fun x1 h => ?_) ?_
 ·unfold spec_liRun_k1 at h
  refine k_sreg (r_gq [(6, .ov false [.sl (some 27) (x1.map eRt)]), (7, .p (.bool true))] [] trivial) ?_
  refine k_ret ?_
  obtain rfl := oi h
  exact er [(.ov false [.sl (some 27) (x1.map eRt)], 6), (.p (.bool true), 7)]
 ·refine k_block ?_
  obtain ⟨y3, hl_x2, hk_x2⟩ := bs h
  clear h
  refine k_loop (J := fun (x : (List Qr)) => [(2, .p (iV a2)), (3, .box [.sl none (a0.map ePt)]), (8, .ov false [.sl (some 27) (x.map eRt)])]) hl_x2 (wk_of (by kernel_rfl) (by kernel_rfl)) (fun x2 o_x2 h hy_x2 => ?_)
  unfold spec_liRun_b1 at h
  refine k_seq ?_
  refine k_sreg (r_gq [(2, .p (iV a2)), (3, .box [.sl none (a0.map ePt)]), (8, .ov false [.sl (some 27) (x2.map eRt)]), (16, .p (.bool (decide ((x2.length : Int) ≤ a2))))] [(1, {n := some x2.length})] (A1 (show (x2.map eRt).length = x2.length from (List.length_map ..)))) ?_
  refine kc (decide ((x2.length : Int) ≤ a2)) (fun hc5_3 => ?_) (fun hc5_3 => ?_)
  ·replace h := ite_t hc5_3 h
   refine k_skip ?_
   refine q_n ?_
   refine k_block ?_
   refine k_seq ?_
   replace h := bs h
   obtain ⟨v5, hv5, h⟩ := h
   replace h := bs h
   obtain ⟨v6, hv6, h⟩ := h
   refine k_sreg (r_gq [(2, .p (iV a2)), (3, .box [.sl none (a0.map ePt)]), (8, .ov false [.sl (some 27) (x2.map eRt)]), (24, .p (.bool (!v6)))] [(2, {n := some x2.length}), (4, {row := some (eRt v5)}), (5, {row := some (eRt v5)}), (6, {call := some (none, [.p (.bool v6)], true)})] (A5 (show (x2.map eRt).length = x2.length from (List.length_map ..)) (idxO_some hv5).1 (map_get eRt (idxO_some hv5).2) (show getRow [[.sl (some 27) (x2.map eRt)]] [(0, 0), ((Int.toNat (w64 ((x2.length : Int) - 1))), 0)] = some (eRt v5) from ((gr0 rfl).trans (gre (map_get eRt (idxO_some hv5).2)))) (wk_spec_liNear hv6))) ?_
   refine kc (!v6) (fun hc6_6 => ?_) (fun hc6_6 => ?_)
   ·replace h := ite_t hc6_6 h
    refine k_sreg (r_gq [(6, .ov false [.sl (some 27) []]), (7, .p (.bool false))] [] trivial) ?_
    refine k_ret ?_
    refine q_r ?_
    refine b_r ?_
    refine lq_r ?_
    refine b_r ?_
    refine q_r ?_
    have hyy := hy_x2 _ (oi h).symm
    subst hyy
    have h := hk_x2
    dsimp only [Sum.elim] at h
    obtain rfl := oi h
    exact er [(.ov false [.sl (some 27) []], 6), (.p (.bool false), 7)]
   ·replace h := ite_f hc6_6 h
    refine k_skip ?_
    refine q_n ?_
    replace h := bs h
    obtain ⟨v8, hv8, h⟩ := h
    refine k_sreg (r_dq Tryz_mixed 13 [(12, 9)] [(2, .p (iV a2)), (3, .box [.sl none (a0.map ePt)]), (8, .ov false [.sl (some 27) (x2.map eRt)]), (9, .box (eRt v8.1)), (10, .p (.bool v8.2))] [(0, bT), (3, {n := some x2.length}), (5, {row := some (eRt v5)}), (6, {row := some (eRt v5)}), (7, {call := some (none, [.p (vRt v8.1), .p (.bool v8.2)], true)})] (A6 (show frR [.sl none (a0.map ePt)] = true from (frR1 (frL_enc (fr_P (fr_P fr_I fr_I) (fr_P fr_I fr_I))) rfl)) (show (x2.map eRt).length = x2.length from (List.length_map ..)) (idxO_some hv5).1 (map_get eRt (idxO_some hv5).2) (show getRow [[.sl (some 27) (x2.map eRt)]] [(0, 0), ((Int.toNat (w64 ((x2.length : Int) - 1))), 0)] = some (eRt v5) from ((gr0 rfl).trans (gre (map_get eRt (idxO_some hv5).2)))) (wk_spec_liAt hv8))) ?_
    refine k_seq ?_
    refine k_sreg (r_gq [(2, .p (iV a2)), (3, .box [.sl none (a0.map ePt)]), (8, .ov false [.sl (some 27) (x2.map eRt)]), (9, .box (eRt v8.1)), (37, .p (.bool (!v8.2)))] [] trivial) ?_
    refine kc (!v8.2) (fun hc6_8 => ?_) (fun hc6_8 => ?_)
    ·replace h := ite_t hc6_8 h
     refine k_sreg (r_gq [(6, .ov false [.sl (some 27) []]), (7, .p (.bool false))] [] trivial) ?_
     refine k_ret ?_
     refine q_r ?_
     refine b_r ?_
     refine lq_r ?_
     refine b_r ?_
     refine q_r ?_
     have hyy := hy_x2 _ (oi h).symm
     subst hyy
     have h := hk_x2
     dsimp only [Sum.elim] at h
     obtain rfl := oi h
     exact er [(.ov false [.sl (some 27) []], 6), (.p (.bool false), 7)]
    ·replace h := ite_f hc6_8 h
     refine k_skip ?_
     refine q_n ?_
     replace h := bs h
     obtain ⟨u10, hu10, h⟩ := h
     refine k_reg (r_gq [(2, .p (iV a2)), (3, .box [.sl none (a0.map ePt)]), (8, .ov false [.sl (some 27) ((x2 ++ [v8.1]).map eRt)])] [(3, {fix := some (41, .ov false [.sl (some 27) ((x2 ++ [v8.1]).map eRt)])})] (A3 (show List.length ((x2.map eRt) : List (List C)) + List.length ((([v8.1]).map eRt) : List (List C)) ≤ 1099511627776 from (by have hg := (guardO_some hu10); simpa using hg)) (show ∀ row ∈ ((([v8.1]).map eRt) : List (List C)), row.length = 2 from (rows_len fun _ => rfl)) (show (SV.ov false [.sl (some 27) ((x2.map eRt) ++ (([v8.1]).map eRt))] : SV) = .ov false [.sl (some 27) ((x2 ++ [v8.1]).map eRt)] from (congrArg (fun z => SV.ov false [.sl (some 27) z]) (List.map_append ..).symm)))) ?_
     refine b_n ?_
     exact lqn (x2 ++ [v8.1]) h
  ·replace h := ite_f hc5_3 h
   refine k_exit ?_
   refine q_x ?_
   refine lq_x ?_
   refine b_x ?_
   have hyy := hy_x2 _ (oi h).symm
   subst hyy
   have h := hk_x2
   dsimp only [Sum.elim] at h
   refine q_n ?_
   exact jx x2 h
theorem wk_spec_LiftOrbit {a0 : (List Qp)} {a1 : Qr} {a2 : Int}  {r : ((List Qr) × Bool)} (h : spec_LiftOrbit a0 a1 a2 = some r) : Meets Tryz.prog 8 [.d true [.sl none (a0.map ePt)], .v (vRt a1), wI a2] { vals := [.ov false [.sl (some 27) (r.1.map eRt)], .p (.bool r.2)] } := by
 refine mo Tryz.func8 [(0, .d true [.sl none (a0.map ePt)]), (1, .p (vRt a1)), (2, .p (iV a2))] ?_
 unfold spec_LiftOrbit at h
 refine k_sreg (r_gq [(2, .p (iV a2)), (3, .box [.sl none (a0.map ePt)]), (4, .box (eRt a1))] [] trivial) ?_
 refine k_seq ?_
 replace h := bs h
 obtain ⟨v1, hv1, h⟩ := h
 replace h := bs h
 obtain ⟨w4, hw4, h⟩ := h
 refine k_sreg (l1 := [(2, .p (iV a2)), (3, .box [.sl none (a0.map ePt)]), (4, .box (eRt a1)), (20, .p (.bool w4))]) ?_ ?_
 ·clear h
  rcases ft (!v1) with ha0 | ha0
  ·replace hw4 := ite_t ha0 hw4
   have hw4 := oi hw4
   subst hw4
   exact (r_gq [(2, .p (iV a2)), (3, .box [.sl none (a0.map ePt)]), (4, .box (eRt a1)), (20, .p (.bool true))] [(0, bT), (1, {call := some (none, [.p (.bool v1)], true)}), (4, gT), (5, gT), (6, gT), (7, bT), (9, gT), (10, gT), (11, gT), (12, bT)] (B6 (show frR [.sl none (a0.map ePt)] = true from (frR1 (frL_enc (fr_P (fr_P fr_I fr_I) (fr_P fr_I fr_I))) rfl)) (wk_spec_liGood hv1) ha0 ha0 ha0 ha0 (A4 (show true = true from rfl) (show true = true from rfl) (show true = true from rfl) (show true = true from rfl))))
  ·replace hw4 := ite_f ha0 hw4
   replace hw4 := bs hw4
   obtain ⟨v2, hv2, hw4⟩ := hw4
   rcases ft (!v2) with ha1 | ha1
   ·replace hw4 := ite_t ha1 hw4
    have hw4 := oi hw4
    subst hw4
    exact (r_gq [(2, .p (iV a2)), (3, .box [.sl none (a0.map ePt)]), (4, .box (eRt a1)), (20, .p (.bool true))] [(0, bT), (1, {call := some (none, [.p (.bool v1)], true)}), (4, gF), (5, {g := some false, call := some (none, [.p (.bool v2)], true)}), (6, gF), (7, bF), (9, gT), (10, gT), (11, gT), (12, bT)] (B6 (show frR [.sl none (a0.map ePt)] = true from (frR1 (frL_enc (fr_P (fr_P fr_I fr_I) (fr_P fr_I fr_I))) rfl)) (wk_spec_liGood hv1) ha0 ha0 (wk_spec_liNear hv2) ha0 (A5 ha0 ha1 ha1 ha1 ha1)))
   ·replace hw4 := ite_f ha1 hw4
    replace hw4 := bs hw4
    obtain ⟨v3, hv3, hw4⟩ := hw4
    have hw4 := oi hw4
    subst hw4
    exact (r_gq [(2, .p (iV a2)), (3, .box [.sl none (a0.map ePt)]), (4, .box (eRt a1)), (20, .p (.bool (!v3)))] [(0, bT), (1, {call := some (none, [.p (.bool v1)], true)}), (4, gF), (5, {g := some false, call := some (none, [.p (.bool v2)], true)}), (6, gF), (7, bF), (9, gF), (10, {g := some false, call := some (none, [.p (.bool v3)], true)}), (11, gF), (12, bF)] (B6 (show frR [.sl none (a0.map ePt)] = true from (frR1 (frL_enc (fr_P (fr_P fr_I fr_I) (fr_P fr_I fr_I))) rfl)) (wk_spec_liGood hv1) ha0 ha0 (wk_spec_liNear hv2) ha0 (A6 ha0 ha1 ha1 (wk_spec_orSteps hv3) ha1 ha1)))
 ·refine kc w4 (fun hc2_4 => ?_) (fun hc2_4 => ?_)
  ·replace h := ite_t hc2_4 h
   refine k_sreg (r_gq [(6, .ov false [.sl (some 27) []]), (7, .p (.bool false))] [] trivial) ?_
   refine k_ret ?_
   refine q_r ?_
   obtain rfl := oi h
   exact er [(.ov false [.sl (some 27) []], 6), (.p (.bool false), 7)]
  ·replace h := ite_f hc2_4 h
   refine k_skip ?_
   refine q_n ?_
   replace h := bs h
   obtain ⟨v6, hv6, h⟩ := h
   refine k_sreg (r_gq [(6, .ov false [.sl (some 27) (v6.1.map eRt)]), (7, .p (.bool v6.2))] [(0, bT), (3, {call := some (none, [.ov false [.sl (some 27) (v6.1.map eRt)], .p (.bool v6.2)], true)})] (A3 (show frR [.sl none (a0.map ePt)] = true from (frR1 (frL_enc (fr_P (fr_P fr_I fr_I) (fr_P fr_I fr_I))) rfl)) (wk_spec_liRun hv6) (show List.all [.ov false [.sl (some 27) (v6.1.map eRt)], .p (.bool v6.2)] simpleR = true from (sa_o (wnR1 (wnL_enc (wn_P wn_I wn_I)) rfl) (sa_p rfl))))) ?_
   refine k_ret ?_
   obtain rfl := oi h
   exact er [(.ov false [.sl (some 27) (v6.1.map eRt)], 6), (.p (.bool v6.2), 7)]
theorem wk_spec_DrawLiftCycle {a0 : (List Int)}  {r : ((List Qp) × Qr × Int)} (h : spec_DrawLiftCycle a0 = some r) : Meets Tryz.prog 9 [.d false [.sl none (a0.map (eU .u8))]] { vals := [.ov true [.sl (some 85) (r.1.map ePt)], .p (vRt r.2.1), .p (iV r.2.2)] } := by
 refine mo Tryz.func9 [(0, .d false [.sl none (a0.map (eU .u8))])] ?_
 unfold spec_DrawLiftCycle at h
 refine k_sreg (r_gq [(0, .d false [.sl none (a0.map (eU .u8))]), (2, .box [.sl (some 85) []]), (3, .box [rI 0, rI 0])] [] trivial) ?_
 refine k_sreg (r_gq [(2, .box [.sl (some 85) []]), (3, .box [rI 0, rI 0]), (5, .addr 8 [(0, 0)]), (8, .box (eCu (a0, 0, 0)))] [] trivial) ?_
 replace h := bs h
 obtain ⟨v1, hv1, h⟩ := h
 replace h := bs h
 obtain ⟨v2, hv2, h⟩ := h
 replace h := bs h
 obtain ⟨v3, hv3, h⟩ := h
 replace h := bs h
 obtain ⟨v4, hv4, h⟩ := h
 refine k_sreg (r_gq [(2, .box [.sl (some 85) (v1.1.map ePt)]), (3, .box (eRt v2.1)), (4, .p (iV v4.1))] [(1, {lend := some (none, [.ov true [.sl (some 85) (v1.1.map ePt)]], .box (eCu v1.2), false)}), (3, {lend := some (none, [.p (vRt v2.1)], .box (eCu v2.2), false)}), (6, {lend := some (none, [.p (iV v3.1)], .box (eCu v3.2), false)}), (8, {lend := some (some [.d false [.sl none (([1, 2, 3, 5, 8, 13, 60, v3.1]).map eI)]], [.p (iV v4.1)], .box (eCu v4.2), false), fix := some (16, .d false [.sl none (([1, 2, 3, 5, 8, 13, 60, v3.1]).map eI)])})] (A6 (wk_spec_l1Cur_anyLift hv1) (wk_spec_l1Cur_farRat hv2) (wk_spec_l1Cur_stepsOf hv3) (show ([.d false [.sl none (eraL (([1, 2, 3, 5, 8, 13, 60, v3.1]).map eI))]] : List Arg) = [.d false [.sl none (([1, 2, 3, 5, 8, 13, 60, v3.1]).map eI)]] from (by simp only [eraL_enc (h := eI) er_I])) (wk_spec_l1Cur_among hv4) (show (SV.d false (eraR [.sl (some 3) (([1, 2, 3, 5, 8, 13, 60, v3.1]).map eI)]) : SV) = .d false [.sl none (([1, 2, 3, 5, 8, 13, 60, v3.1]).map eI)] from (congrArg (fun z => SV.d false z) (erc_sl (eraL_enc er_I) rfl))))) ?_
 refine k_ret ?_
 obtain rfl := oi h
 exact er [(.ov true [.sl (some 85) (v1.1.map ePt)], 2), (.p (vRt v2.1), 3), (.p (iV v4.1), 4)]
theorem wk_impl_difference {a0 : Qr} {a1 : Qr}  {r : (Int × Bool)} (h : impl_difference a0 a1 = some r) : Meets Tryz.prog 69 [.v (vRt a0), .v (vRt a1)] { vals := [.p (iV r.1), .p (.bool r.2)] } := by
 refine mo Tryz.func69 [(0, .p (vRt a0)), (1, .p (vRt a1))] ?_
 unfold impl_difference at h
 refine k_sreg (r_gq [(2, .box (eRt a0)), (3, .box (eRt a1))] [] trivial) ?_
 replace h := bs h
 obtain ⟨v1, hv1, h⟩ := h
 refine k_sreg (r_gq [(6, .box (eRt v1.1)), (7, .p (.bool v1.2))] [(2, {call := some (none, [.p (vRt v1.1), .p (.bool v1.2)], true)})] (A1 (wk_impl_SubtractRats hv1))) ?_
 refine k_seq ?_
 refine k_sreg (l1 := [(6, .box (eRt v1.1)), (20, .p (.bool ((!v1.2) || (v1.1.2 != 1))))]) ?_ ?_
 ·rcases ft (!v1.2) with ha0 | ha0
  ·exact RegOk.of_eq (l2 := [(6, .box (eRt v1.1)), (20, .p (.bool ((!v1.2) || (v1.1.2 != 1))))]) (r_gq [(6, .box (eRt v1.1)), (20, .p (.bool true))] [(3, gT), (4, gT), (5, gT), (6, bT)] (A4 ha0 ha0 ha0 ha0)) (by simp [ha0])
  ·exact RegOk.of_eq (l2 := [(6, .box (eRt v1.1)), (20, .p (.bool ((!v1.2) || (v1.1.2 != 1))))]) (r_gq [(6, .box (eRt v1.1)), (20, .p (.bool (v1.1.2 != 1)))] [(3, gF), (4, gF), (5, gF), (6, bF)] (A4 ha0 ha0 ha0 ha0)) (by simp [ha0])
 ·refine kc ((!v1.2) || (v1.1.2 != 1)) (fun hc2_1 => ?_) (fun hc2_1 => ?_)
  ·replace h := ite_t hc2_1 h
   refine k_sreg (r_gq [(4, .p (iV 0)), (5, .p (.bool false))] [] trivial) ?_
   refine k_ret ?_
   refine q_r ?_
   obtain rfl := oi h
   exact er [(.p (iV 0), 4), (.p (.bool false), 5)]
  ·replace h := ite_f hc2_1 h
   refine k_skip ?_
   refine q_n ?_
   refine k_sreg (r_gq [(4, .p (iV v1.1.1)), (5, .p (.bool true))] [] trivial) ?_
   refine k_ret ?_
   obtain rfl := oi h
   exact er [(.p (iV v1.1.1), 4), (.p (.bool true), 5)]
theorem wk_impl_LiftCycle {a0 : (List Qp)} {a1 : Qr} {a2 : Int}  {r : (Int × Bool)} (h : impl_LiftCycle a0 a1 a2 = some r) : Meets Tryz.prog 10 [.d true [.sl none (a0.map ePt)], .v (vRt a1), wI a2] { vals := [.p (iV r.1), .p (.bool r.2)] } := by
 refine mo Tryz.func10 [(0, .d true [.sl none (a0.map ePt)]), (1, .p (vRt a1)), (2, .p (iV a2))] ?_
 unfold impl_LiftCycle at h
 refine k_sreg (r_gq [(2, .p (iV a2)), (3, .box [.sl none (a0.map ePt)]), (4, .box (eRt a1))] [] trivial) ?_
 refine k_seq ?_
 refine k_sreg (r_gq [(2, .p (iV a2)), (3, .box [.sl none (a0.map ePt)]), (4, .box (eRt a1)), (11, .p (.bool (decide (a2 < 1))))] [] trivial) ?_
 refine kc (decide (a2 < 1)) (fun hc2_0 => ?_) (fun hc2_0 => ?_)
 ·replace h := ite_t hc2_0 h
  refine k_sreg (r_gq [(6, .p (iV 0)), (7, .p (.bool false))] [] trivial) ?_
  refine k_ret ?_
  refine q_r ?_
  obtain rfl := oi h
  exact er [(.p (iV 0), 6), (.p (.bool false), 7)]
 ·replace h := ite_f hc2_0 h
  refine k_skip ?_
  refine q_n ?_
  replace h := bs h
  obtain ⟨v2, hv2, h⟩ := h
  refine k_sreg (r_gq [(2, .p (iV a2)), (4, .box (eRt a1)), (8, .ov false [.sl (some 27) (v2.1.map eRt)]), (9, .p (.bool v2.2))] [(0, bT), (3, {call := some (none, [.ov false [.sl (some 27) (v2.1.map eRt)], .p (.bool v2.2)], true)})] (A3 (show frR [.sl none (a0.map ePt)] = true from (frR1 (frL_enc (fr_P (fr_P fr_I fr_I) (fr_P fr_I fr_I))) rfl)) (wk_impl_LiftOrbit hv2) (show List.all [.ov false [.sl (some 27) (v2.1.map eRt)], .p (.bool v2.2)] simpleR = true from (sa_o (wnR1 (wnL_enc (wn_P wn_I wn_I)) rfl) (sa_p rfl))))) ?_
  refine k_seq ?_
  refine k_sreg (r_gq [(2, .p (iV a2)), (4, .box (eRt a1)), (8, .ov false [.sl (some 27) (v2.1.map eRt)]), (20, .p (.bool (!v2.2)))] [] trivial) ?_
  refine kc (!v2.2) (fun hc2_2 => ?_) (fun hc2_2 => ?_)
  ·replace h := ite_t hc2_2 h
   refine k_sreg (r_gq [(6, .p (iV 0)), (7, .p (.bool false))] [] trivial) ?_
   refine k_ret ?_
   refine q_r ?_
   obtain rfl := oi h
   exact er [(.p (iV 0), 6), (.p (.bool false), 7)]
  ·replace h := ite_f hc2_2 h
   refine k_skip ?_
   refine q_n ?_
   replace h := bs h
   obtain ⟨v4, hv4, h⟩ := h
   replace h := bs h
   obtain ⟨v5, hv5, h⟩ := h
   refine k_sreg (r_dq Tryz_mixed 5 [] [(6, .p (iV v5.1)), (7, .p (.bool v5.2))] [(2, {row := some (eRt v4)}), (3, {row := some (eRt v4)}), (5, {call := some (none, [.p (iV v5.1), .p (.bool v5.2)], true)})] (A4 (idxO_some hv4).1 (map_get eRt (idxO_some hv4).2) (show getRow [[.sl (some 27) (v2.1.map eRt)]] [(0, 0), ((Int.toNat a2), 0)] = some (eRt v4) from ((gr0 rfl).trans (gre (map_get eRt (idxO_some hv4).2)))) (wk_impl_difference hv5))) ?_
   refine k_ret ?_
   obtain rfl := oi h
   exact er [(.p (iV v5.1), 6), (.p (.bool v5.2), 7)]
theorem wk_spec_liCycle {a0 : (List Qp)} {a1 : Qr} {a2 : Int}  {r : (Int × Bool)} (h : spec_liCycle a0 a1 a2 = some r) : Meets Tryz.prog 71 [.d true [.sl none (a0.map ePt)], .v (vRt a1), wI a2] { vals := [.p (iV r.1), .p (.bool r.2)] } := by
 refine mo Tryz.func71 [(0, .d true [.sl none (a0.map ePt)]), (1, .p (vRt a1)), (2, .p (iV a2))] ?_
 unfold spec_liCycle at h
 refine k_sreg (r_gq [(2, .p (iV a2)), (3, .box [.sl none (a0.map ePt)]), (4, .box (eRt a1))] [] trivial) ?_
 replace h := bs h
 obtain ⟨v1, hv1, h⟩ := h
 refine k_sreg (r_gq [(2, .p (iV a2)), (4, .box (eRt a1)), (8, .ov false [.sl (some 27) (v1.1.map eRt)]), (9, .p (.bool v1.2))] [(0, bT), (3, {call := some (none, [.ov false [.sl (some 27) (v1.1.map eRt)], .p (.bool v1.2)], true)})] (A3 (show frR [.sl none (a0.map ePt)] = true from (frR1 (frL_enc (fr_P (fr_P fr_I fr_I) (fr_P fr_I fr_I))) rfl)) (wk_spec_liRun hv1) (show List.all [.ov false [.sl (some 27) (v1.1.map eRt)], .p (.bool v1.2)] simpleR = true from (sa_o (wnR1 (wnL_enc (wn_P wn_I wn_I)) rfl) (sa_p rfl))))) ?_
 refine k_seq ?_
 refine k_sreg (r_gq [(2, .p (iV a2)), (4, .box (eRt a1)), (8, .ov false [.sl (some 27) (v1.1.map eRt)]), (20, .p (.bool (!v1.2)))] [] trivial) ?_
 refine kc (!v1.2) (fun hc2_1 => ?_) (fun hc2_1 => ?_)
 ·replace h := ite_t hc2_1 h
  refine k_sreg (r_gq [(6, .p (iV 0)), (7, .p (.bool false))] [] trivial) ?_
  refine k_ret ?_
  refine q_r ?_
  obtain rfl := oi h
  exact er [(.p (iV 0), 6), (.p (.bool false), 7)]
 ·replace h := ite_f hc2_1 h
  refine k_skip ?_
  refine q_n ?_
  replace h := bs h
  obtain ⟨v3, hv3, h⟩ := h
  replace h := bs h
  obtain ⟨v4, hv4, h⟩ := h
  refine k_sreg (r_dq Tryz_mixed 11 [(10, 10)] [(10, .box (eRt v4.1)), (11, .p (.bool v4.2))] [(2, {row := some (eRt v3)}), (3, {row := some (eRt v3)}), (5, {call := some (none, [.p (vRt v4.1), .p (.bool v4.2)], true)})] (A4 (idxO_some hv3).1 (map_get eRt (idxO_some hv3).2) (show getRow [[.sl (some 27) (v1.1.map eRt)]] [(0, 0), ((Int.toNat a2), 0)] = some (eRt v3) from ((gr0 rfl).trans (gre (map_get eRt (idxO_some hv3).2)))) (wk_spec_raSub hv4))) ?_
  refine k_seq ?_
  refine k_sreg (l1 := [(10, .box (eRt v4.1)), (36, .p (.bool ((!v4.2) || (v4.1.2 != 1))))]) ?_ ?_
  ·rcases ft (!v4.2) with ha1 | ha1
   ·exact RegOk.of_eq (l2 := [(10, .box (eRt v4.1)), (36, .p (.bool ((!v4.2) || (v4.1.2 != 1))))]) (r_gq [(10, .box (eRt v4.1)), (36, .p (.bool true))] [(3, gT), (4, gT), (5, gT), (6, bT)] (A4 ha1 ha1 ha1 ha1)) (by simp [ha1])
   ·exact RegOk.of_eq (l2 := [(10, .box (eRt v4.1)), (36, .p (.bool ((!v4.2) || (v4.1.2 != 1))))]) (r_gq [(10, .box (eRt v4.1)), (36, .p (.bool (v4.1.2 != 1)))] [(3, gF), (4, gF), (5, gF), (6, bF)] (A4 ha1 ha1 ha1 ha1)) (by simp [ha1])
  ·refine kc ((!v4.2) || (v4.1.2 != 1)) (fun hc2_4 => ?_) (fun hc2_4 => ?_)
   ·replace h := ite_t hc2_4 h
    refine k_sreg (r_gq [(6, .p (iV 0)), (7, .p (.bool false))] [] trivial) ?_
    refine k_ret ?_
    refine q_r ?_
    obtain rfl := oi h
    exact er [(.p (iV 0), 6), (.p (.bool false), 7)]
   ·replace h := ite_f hc2_4 h
    refine k_skip ?_
    refine q_n ?_
    refine k_sreg (r_gq [(6, .p (iV v4.1.1)), (7, .p (.bool true))] [] trivial) ?_
    refine k_ret ?_
    obtain rfl := oi h
    exact er [(.p (iV v4.1.1), 6), (.p (.bool true), 7)]
theorem wk_spec_LiftCycle {a0 : (List Qp)} {a1 : Qr} {a2 : Int}  {r : (Int × Bool)} (h : spec_LiftCycle a0 a1 a2 = some r) : Meets Tryz.prog 11 [.d true [.sl none (a0.map ePt)], .v (vRt a1), wI a2] { vals := [.p (iV r.1), .p (.bool r.2)] } := by
 refine mo Tryz.func11 [(0, .d true [.sl none (a0.map ePt)]), (1, .p (vRt a1)), (2, .p (iV a2))] ?_
 unfold spec_LiftCycle at h
 refine k_sreg (r_gq [(2, .p (iV a2)), (3, .box [.sl none (a0.map ePt)]), (4, .box (eRt a1))] [] trivial) ?_
 refine k_seq ?_
 replace h := bs h
 obtain ⟨v1, hv1, h⟩ := h
 replace h := bs h
 obtain ⟨w4, hw4, h⟩ := h
 refine k_sreg (l1 := [(2, .p (iV a2)), (3, .box [.sl none (a0.map ePt)]), (4, .box (eRt a1)), (20, .p (.bool w4))]) ?_ ?_
 ·clear h
  rcases ft (!v1) with ha0 | ha0
  ·replace hw4 := ite_t ha0 hw4
   have hw4 := oi hw4
   subst hw4
   exact (r_gq [(2, .p (iV a2)), (3, .box [.sl none (a0.map ePt)]), (4, .box (eRt a1)), (20, .p (.bool true))] [(0, bT), (1, {call := some (none, [.p (.bool v1)], true)}), (4, gT), (5, gT), (6, gT), (7, bT), (9, gT), (10, gT), (11, gT), (12, bT)] (B6 (show frR [.sl none (a0.map ePt)] = true from (frR1 (frL_enc (fr_P (fr_P fr_I fr_I) (fr_P fr_I fr_I))) rfl)) (wk_spec_liGood hv1) ha0 ha0 ha0 ha0 (A4 (show true = true from rfl) (show true = true from rfl) (show true = true from rfl) (show true = true from rfl))))
  ·replace hw4 := ite_f ha0 hw4
   replace hw4 := bs hw4
   obtain ⟨v2, hv2, hw4⟩ := hw4
   rcases ft (!v2) with ha1 | ha1
   ·replace hw4 := ite_t ha1 hw4
    have hw4 := oi hw4
    subst hw4
    exact (r_gq [(2, .p (iV a2)), (3, .box [.sl none (a0.map ePt)]), (4, .box (eRt a1)), (20, .p (.bool true))] [(0, bT), (1, {call := some (none, [.p (.bool v1)], true)}), (4, gF), (5, {g := some false, call := some (none, [.p (.bool v2)], true)}), (6, gF), (7, bF), (9, gT), (10, gT), (11, gT), (12, bT)] (B6 (show frR [.sl none (a0.map ePt)] = true from (frR1 (frL_enc (fr_P (fr_P fr_I fr_I) (fr_P fr_I fr_I))) rfl)) (wk_spec_liGood hv1) ha0 ha0 (wk_spec_liNear hv2) ha0 (A5 ha0 ha1 ha1 ha1 ha1)))
   ·replace hw4 := ite_f ha1 hw4
    replace hw4 := bs hw4
    obtain ⟨v3, hv3, hw4⟩ := hw4
    have hw4 := oi hw4
    subst hw4
    exact (r_gq [(2, .p (iV a2)), (3, .box [.sl none (a0.map ePt)]), (4, .box (eRt a1)), (20, .p (.bool (!v3)))] [(0, bT), (1, {call := some (none, [.p (.bool v1)], true)}), (4, gF), (5, {g := some false, call := some (none, [.p (.bool v2)], true)}), (6, gF), (7, bF), (9, gF), (10, {g := some false, call := some (none, [.p (.bool v3)], true)}), (11, gF), (12, bF)] (B6 (show frR [.sl none (a0.map ePt)] = true from (frR1 (frL_enc (fr_P (fr_P fr_I fr_I) (fr_P fr_I fr_I))) rfl)) (wk_spec_liGood hv1) ha0 ha0 (wk_spec_liNear hv2) ha0 (A6 ha0 ha1 ha1 (wk_spec_l1In hv3) ha1 ha1)))
 ·refine kc w4 (fun hc2_4 => ?_) (fun hc2_4 => ?_)
  ·replace h := ite_t hc2_4 h
   refine k_sreg (r_gq [(6, .p (iV 0)), (7, .p (.bool false))] [] trivial) ?_
   refine k_ret ?_
   refine q_r ?_
   obtain rfl := oi h
   exact er [(.p (iV 0), 6), (.p (.bool false), 7)]
  ·replace h := ite_f hc2_4 h
   refine k_skip ?_
   refine q_n ?_
   replace h := bs h
   obtain ⟨v6, hv6, h⟩ := h
   refine k_sreg (r_gq [(6, .p (iV v6.1)), (7, .p (.bool v6.2))] [(0, bT), (3, {call := some (none, [.p (iV v6.1), .p (.bool v6.2)], true)})] (A2 (show frR [.sl none (a0.map ePt)] = true from (frR1 (frL_enc (fr_P (fr_P fr_I fr_I) (fr_P fr_I fr_I))) rfl)) (wk_spec_liCycle hv6))) ?_
   refine k_ret ?_
   obtain rfl := oi h
   exact er [(.p (iV v6.1), 6), (.p (.bool v6.2), 7)]
theorem wk_spec_DrawLiftAt {a0 : (List Int)}  {r : ((List Qp) × Qr)} (h : spec_DrawLiftAt a0 = some r) : Meets Tryz.prog 72 [.d false [.sl none (a0.map (eU .u8))]] { vals := [.ov true [.sl (some 85) (r.1.map ePt)], .p (vRt r.2)] } := by
 refine mo Tryz.func72 [(0, .d false [.sl none (a0.map (eU .u8))])] ?_
 unfold spec_DrawLiftAt at h
 refine k_sreg (r_gq [(0, .d false [.sl none (a0.map (eU .u8))]), (2, .box [.sl (some 85) []]), (3, .box [rI 0, rI 0])] [] trivial) ?_
 refine k_sreg (r_gq [(2, .box [.sl (some 85) []]), (3, .box [rI 0, rI 0]), (4, .addr 7 [(0, 0)]), (7, .box (eCu (a0, 0, 0)))] [] trivial) ?_
 replace h := bs h
 obtain ⟨v1, hv1, h⟩ := h
 replace h := bs h
 obtain ⟨v2, hv2, h⟩ := h
 refine k_sreg (r_gq [(2, .box [.sl (some 85) (v1.1.map ePt)]), (3, .box (eRt v2.1))] [(1, {lend := some (none, [.ov true [.sl (some 85) (v1.1.map ePt)]], .box (eCu v1.2), false)}), (3, {lend := some (none, [.p (vRt v2.1)], .box (eCu v2.2), false)})] (A2 (wk_spec_l1Cur_anyLift hv1) (wk_spec_l1Cur_farRat hv2))) ?_
 refine k_ret ?_
 obtain rfl := oi h
 exact er [(.ov true [.sl (some 85) (v1.1.map ePt)], 2), (.p (vRt v2.1), 3)]
theorem wk_spec_DrawTurnLift {a0 : (List Int)}  {r : ((List Qp) × Qr)} (h : spec_DrawTurnLift a0 = some r) : Meets Tryz.prog 12 [.d false [.sl none (a0.map (eU .u8))]] { vals := [.ov true [.sl (some 85) (r.1.map ePt)], .p (vRt r.2)] } := by
 refine mo Tryz.func12 [(0, .d false [.sl none (a0.map (eU .u8))])] ?_
 unfold spec_DrawTurnLift at h
 refine k_sreg (r_gq [(0, .d false [.sl none (a0.map (eU .u8))]), (2, .box [.sl (some 85) []]), (3, .box [rI 0, rI 0])] [] trivial) ?_
 replace h := bs h
 obtain ⟨v1, hv1, h⟩ := h
 refine k_sreg (r_gq [(2, .box [.sl (some 85) (v1.1.map ePt)]), (3, .box (eRt v1.2))] [(1, {call := some (none, [.ov true [.sl (some 85) (v1.1.map ePt)], .p (vRt v1.2)], true)})] (A2 (wk_spec_DrawLiftAt hv1) (show List.all [.ov true [.sl (some 85) (v1.1.map ePt)], .p (vRt v1.2)] simpleR = true from (sa_o (wnR1 (wnL_enc (wn_P (wn_P wn_I wn_I) (wn_P wn_I wn_I))) rfl) (sa_p rfl))))) ?_
 refine k_ret ?_
 obtain rfl := oi h
 exact er [(.ov true [.sl (some 85) (v1.1.map ePt)], 2), (.p (vRt v1.2), 3)]
theorem wk_impl_TurnLift {a0 : (List Qp)} {a1 : Qr}  {r : ((List Qp) × Bool)} (h : impl_TurnLift a0 a1 = some r) : Meets Tryz.prog 13 [.d true [.sl none (a0.map ePt)], .v (vRt a1)] { vals := [.ov true [.sl (some 85) (r.1.map ePt)], .p (.bool r.2)] } := by
 refine mo Tryz.func13 [(0, .d true [.sl none (a0.map ePt)]), (1, .p (vRt a1))] ?_
 unfold impl_TurnLift at h
 refine k_sreg (r_gq [(2, .box [.sl none (a0.map ePt)]), (3, .box (eRt a1)), (4, .box [.sl (some 85) []])] [] trivial) ?_
 refine k_seq ?_
 replace h := bs h
 obtain ⟨v1, hv1, h⟩ := h
 replace h := bs h
 obtain ⟨w3, hw3, h⟩ := h
 refine k_sreg (l1 := [(2, .box [.sl none (a0.map ePt)]), (3, .box (eRt a1)), (4, .box [.sl (some 85) []]), (17, .p (.bool w3))]) ?_ ?_
 ·clear h
  rcases ft (!v1) with ha0 | ha0
  ·replace hw3 := ite_t ha0 hw3
   have hw3 := oi hw3
   subst hw3
   exact (r_gq [(2, .box [.sl none (a0.map ePt)]), (3, .box (eRt a1)), (4, .box [.sl (some 85) []]), (17, .p (.bool true))] [(0, bT), (1, {call := some (none, [.p (.bool v1)], true)}), (4, gT), (5, gT), (6, gT), (7, bT)] (A6 (show frR [.sl none (a0.map ePt)] = true from (frR1 (frL_enc (fr_P (fr_P fr_I fr_I) (fr_P fr_I fr_I))) rfl)) (wk_impl_isLift hv1) ha0 ha0 ha0 ha0))
  ·replace hw3 := ite_f ha0 hw3
   replace hw3 := bs hw3
   obtain ⟨v2, hv2, hw3⟩ := hw3
   have hw3 := oi hw3
   subst hw3
   exact (r_gq [(2, .box [.sl none (a0.map ePt)]), (3, .box (eRt a1)), (4, .box [.sl (some 85) []]), (17, .p (.bool (!v2)))] [(0, bT), (1, {call := some (none, [.p (.bool v1)], true)}), (4, gF), (5, {g := some false, call := some (none, [.p (.bool v2)], true)}), (6, gF), (7, bF)] (B6 (show frR [.sl none (a0.map ePt)] = true from (frR1 (frL_enc (fr_P (fr_P fr_I fr_I) (fr_P fr_I fr_I))) rfl)) (wk_impl_isLift hv1) ha0 ha0 (wk_impl_isFar hv2) ha0 (A1 ha0)))
 ·refine kc w3 (fun hc2_3 => ?_) (fun hc2_3 => ?_)
  ·replace h := ite_t hc2_3 h
   refine k_sreg (r_gq [(4, .box [.sl (some 85) []]), (5, .p (.bool false))] [(0, bT)] trivial) ?_
   refine k_ret ?_
   refine q_r ?_
   obtain rfl := oi h
   exact er [(.ov true [.sl (some 85) []], 4), (.p (.bool false), 5)]
  ·replace h := ite_f hc2_3 h
   refine k_skip ?_
   refine q_n ?_
   refine k_sreg (r_gq [(2, .box [.sl none (a0.map ePt)]), (3, .box (eRt a1)), (4, .box [.sl (some 85) []]), (6, .box [.raw (.bool false)])] [] trivial) ?_
   refine k_sreg (r_gq [(2, .box [.sl none (a0.map ePt)]), (3, .box (eRt a1)), (4, .box [.sl (some 85) []]), (6, .box [.raw (.bool false)]), (7, .box [.sl (some 85) []])] [] trivial) ?_
   refine k_join (J := fun (x : (Bool × (List Qp))) => [(4, .box [.sl (some 85) []]), (6, .box [.raw (.bool x.1)]), (7, .box [.sl (some 85) (x.2.map ePt)])]) (K := fun x => impl_TurnLift_k1 x = some r) (fun x5 h => ?_) ?_
   ·unfold impl_TurnLift_k1 at h
    refine k_seq ?_
    replace h := bs h
    obtain ⟨w7, hw7, h⟩ := h
    refine k_sreg (l1 := [(4, .box [.sl (some 85) []]), (7, .box [.sl (some 85) (x5.2.map ePt)]), (45, .p (.bool w7))]) ?_ ?_
    ·clear h
     rcases ft x5.1 with ha1 | ha1
     ·replace hw7 := ite_t ha1 hw7
      have hw7 := oi hw7
      subst hw7
      exact (r_gq [(4, .box [.sl (some 85) []]), (7, .box [.sl (some 85) (x5.2.map ePt)]), (45, .p (.bool true))] [(3, gT), (4, gT), (5, gT), (6, bT)] (A4 ha1 ha1 ha1 ha1))
     ·replace hw7 := ite_f ha1 hw7
      replace hw7 := bs hw7
      obtain ⟨v6, hv6, hw7⟩ := hw7
      have hw7 := oi hw7
      subst hw7
      exact (r_gq [(4, .box [.sl (some 85) []]), (7, .box [.sl (some 85) (x5.2.map ePt)]), (45, .p (.bool (!v6)))] [(3, gF), (4, {g := some false, call := some (some [.d true [.sl none (x5.2.map ePt)]], [.p (.bool v6)], true)}), (5, gF), (6, bF)] (B6 ha1 (show frR [.sl (some 85) (x5.2.map ePt)] = false from rfl) ha1 (show ([.d true [.sl none (eraL (x5.2.map ePt))]] : List Arg) = [.d true [.sl none (x5.2.map ePt)]] from (by simp only [eraL_enc (h := ePt) (era_P (era_P er_I er_I) (era_P er_I er_I))])) (wk_impl_isLift hv6) ha1 (A1 ha1)))
    ·refine kc w7 (fun hc2_7 => ?_) (fun hc2_7 => ?_)
     ·replace h := ite_t hc2_7 h
      refine k_sreg (r_gq [(4, .box [.sl (some 85) []]), (5, .p (.bool false))] [(0, bT)] trivial) ?_
      refine k_ret ?_
      refine q_r ?_
      obtain rfl := oi h
      exact er [(.ov true [.sl (some 85) []], 4), (.p (.bool false), 5)]
     ·replace h := ite_f hc2_7 h
      refine k_skip ?_
      refine q_n ?_
      refine k_sreg (r_gq [(4, .box [.sl (some 85) (x5.2.map ePt)]), (5, .p (.bool true))] [] (A1 (show frR [.sl (some 85) (x5.2.map ePt)] = false from rfl))) ?_
      refine k_ret ?_
      obtain rfl := oi h
      exact er [(.ov true [.sl (some 85) (x5.2.map ePt)], 4), (.p (.bool true), 5)]
   ·refine k_sreg (r_gq [(3, .box (eRt a1)), (4, .box [.sl (some 85) []]), (6, .box [.raw (.bool false)]), (7, .box [.sl (some 85) []]), (20, .d false [.sl none (a0.map ePt)]), (21, .p (iV (a0.length : Int))), (22, .p (iV 0))] [(1, bT), (2, {n := some a0.length})] (A2 (show frR [.sl none (a0.map ePt)] = true from (frR1 (frL_enc (fr_P (fr_P fr_I fr_I) (fr_P fr_I fr_I))) rfl)) (show (a0.map ePt).length = a0.length from (List.length_map ..)))) ?_
    refine k_block ?_
    obtain ⟨y10, hl_x9, hk_x9⟩ := bs h
    clear h
    refine k_loop (J := fun (x : (Bool × (List Qp) × Int)) => [(3, .box (eRt a1)), (4, .box [.sl (some 85) []]), (6, .box [.raw (.bool x.1)]), (7, .box [.sl (some 85) (x.2.1.map ePt)]), (20, .d false [.sl none (a0.map ePt)]), (21, .p (iV (a0.length : Int))), (22, .p (iV x.2.2))]) hl_x9 (wk_of (by kernel_rfl) (by kernel_rfl)) (fun x9 o_x9 h hy_x9 => ?_)
    unfold impl_TurnLift_b1 at h
    refine k_sreg (r_gq [(3, .box (eRt a1)), (4, .box [.sl (some 85) []]), (6, .box [.raw (.bool x9.1)]), (7, .box [.sl (some 85) (x9.2.1.map ePt)]), (20, .d false [.sl none (a0.map ePt)]), (21, .p (iV (a0.length : Int))), (22, .p (iV x9.2.2)), (23, .p (.bool (decide (x9.2.2 < (a0.length : Int)))))] [] trivial) ?_
    refine k_seq ?_
    refine kc (decide (x9.2.2 < (a0.length : Int))) (fun hc5_10 => ?_) (fun hc5_10 => ?_)
    ·replace h := ite_t hc5_10 h
     refine k_skip ?_
     refine q_n ?_
     refine k_seq ?_
     refine k_block ?_
     replace h := bs h
     obtain ⟨v12, hv12, h⟩ := h
     refine k_sreg (r_gq [(3, .box (eRt a1)), (4, .box [.sl (some 85) []]), (6, .box [.raw (.bool x9.1)]), (7, .box [.sl (some 85) (x9.2.1.map ePt)]), (9, .box (ePt v12)), (20, .d false [.sl none (a0.map ePt)]), (21, .p (iV (a0.length : Int))), (22, .p (iV x9.2.2))] [(0, {row := some (ePt v12)})] (A2 (idxO_some hv12).1 (map_get ePt (idxO_some hv12).2))) ?_
     replace h := bs h
     obtain ⟨v13, hv13, h⟩ := h
     replace h := bs h
     obtain ⟨u14, hu14, h⟩ := h
     refine k_reg (r_dq Tryz_mixed 10 [(7, 6)] [(3, .box (eRt a1)), (4, .box [.sl (some 85) []]), (6, .box [.raw (.bool v13.2)]), (7, .box [.sl (some 85) ((x9.2.1 ++ [(v12.1, v13.1)]).map ePt)]), (20, .d false [.sl none (a0.map ePt)]), (21, .p (iV (a0.length : Int))), (22, .p (iV x9.2.2))] [(7, {lend := some (none, [.p (vRt v13.1)], .box [.raw (.bool v13.2)], true)}), (10, {take := some (27, [.sl (some 85) (x9.2.1.map ePt)]), fix := some (36, .ov false [.sl (some 85) ((x9.2.1 ++ [(v12.1, v13.1)]).map ePt)])})] (A6 (show frR [.sl (some 85) (x9.2.1.map ePt)] = false from rfl) (wk_impl_calc_add hv13) (show getRow [[.sl (some 85) (x9.2.1.map ePt)]] [(0, 0)] = some [.sl (some 85) (x9.2.1.map ePt)] from rfl) (show List.length ((x9.2.1.map ePt) : List (List C)) + List.length ((([(v12.1, v13.1)]).map ePt) : List (List C)) ≤ 1099511627776 from (by have hg := (guardO_some hu14); simpa using hg)) (show ∀ row ∈ ((([(v12.1, v13.1)]).map ePt) : List (List C)), row.length = 4 from (rows_len fun _ => rfl)) (show (SV.ov false [.sl (some 85) ((x9.2.1.map ePt) ++ (([(v12.1, v13.1)]).map ePt))] : SV) = .ov false [.sl (some 85) ((x9.2.1 ++ [(v12.1, v13.1)]).map ePt)] from (congrArg (fun z => SV.ov false [.sl (some 85) z]) (List.map_append ..).symm)))) ?_
     refine b_n ?_
     refine q_n ?_
     refine k_reg (r_gq [(3, .box (eRt a1)), (4, .box [.sl (some 85) []]), (6, .box [.raw (.bool v13.2)]), (7, .box [.sl (some 85) ((x9.2.1 ++ [(v12.1, v13.1)]).map ePt)]), (20, .d false [.sl none (a0.map ePt)]), (21, .p (iV (a0.length : Int))), (22, .p (iV (w64 (x9.2.2 + 1))))] [] trivial) ?_
     exact lqn (v13.2, (x9.2.1 ++ [(v12.1, v13.1)]), (w64 (x9.2.2 + 1))) h
    ·replace h := ite_f hc5_10 h
     refine k_exit ?_
     refine q_x ?_
     refine lq_x ?_
     refine b_x ?_
     have hyy := hy_x9 _ (oi h).symm
     subst hyy
     have h := hk_x9
     refine q_n ?_
     exact jx (x9.1, x9.2.1) h
theorem wk_spec_liIf {a0 : (List Qp)}  {r : ((List Qp) × Bool)} (h : spec_liIf a0 = some r) : Meets Tryz.prog 131 [.d false [.sl none (a0.map ePt)]] { vals := [.ov true [.sl none (r.1.map ePt)], .p (.bool r.2)] } := by
 refine mo Tryz.func131 [(0, .d false [.sl none (a0.map ePt)])] ?_
 unfold spec_liIf at h
 refine k_sreg (r_gq [(0, .d false [.sl none (a0.map ePt)]), (2, .box [.sl (some 85) []])] [] trivial) ?_
 refine k_sreg (r_gq [(2, .box [.sl (some 85) []]), (4, .box [.sl none (a0.map ePt)])] [] trivial) ?_
 refine k_seq ?_
 replace h := bs h
 obtain ⟨v1, hv1, h⟩ := h
 refine k_sreg (r_gq [(2, .box [.sl (some 85) []]), (4, .box [.sl none (a0.map ePt)]), (9, .p (.bool (!v1)))] [(0, bT), (1, {call := some (none, [.p (.bool v1)], true)})] (A2 (show frR [.sl none (a0.map ePt)] = true from (frR1 (frL_enc (fr_P (fr_P fr_I fr_I) (fr_P fr_I fr_I))) rfl)) (wk_spec_liGood hv1))) ?_
 refine kc (!v1) (fun hc2_1 => ?_) (fun hc2_1 => ?_)
 ·replace h := ite_t hc2_1 h
  refine k_sreg (r_gq [(2, .box [.sl none []]), (3, .p (.bool false))] [] trivial) ?_
  refine k_ret ?_
  refine q_r ?_
  obtain rfl := oi h
  exact er [(.ov true [.sl none []], 2), (.p (.bool false), 3)]
 ·replace h := ite_f hc2_1 h
  refine k_skip ?_
  refine q_n ?_
  refine k_sreg (r_gq [(2, .box [.sl none (a0.map ePt)]), (3, .p (.bool true))] [(0, bT)] (A1 (show frR [.sl none (a0.map ePt)] = true from (frR1 (frL_enc (fr_P (fr_P fr_I fr_I) (fr_P fr_I fr_I))) rfl)))) ?_
  refine k_ret ?_
  obtain rfl := oi h
  exact er [(.ov true [.sl none (a0.map ePt)], 2), (.p (.bool true), 3)]
theorem wk_spec_liTurn {a0 : (List Qp)} {a1 : Qr}  {r : ((List Qp) × Bool)} (h : spec_liTurn a0 a1 = some r) : Meets Tryz.prog 74 [.d true [.sl none (a0.map ePt)], .v (vRt a1)] { vals := [.ov true [.sl none (r.1.map ePt)], .p (.bool r.2)] } := by
 refine mo Tryz.func74 [(0, .d true [.sl none (a0.map ePt)]), (1, .p (vRt a1))] ?_
 unfold spec_liTurn at h
 refine k_sreg (r_gq [(2, .box [.sl none (a0.map ePt)]), (3, .box (eRt a1)), (4, .box [.sl (some 85) []])] [] trivial) ?_
 refine k_sreg (r_gq [(2, .box [.sl none (a0.map ePt)]), (3, .box (eRt a1)), (4, .box [.sl (some 85) []]), (6, .ov false [.sl (some 85) []])] [] trivial) ?_
 refine k_join (J := fun (x : (List Qp)) => [(4, .box [.sl (some 85) []]), (6, .ov false [.sl (some 85) (x.map ePt)])]) (K := fun x => spec_liTurn_k1 x = some r) (fun x1 h => ?_) ?_
 ·unfold spec_liTurn_k1 at h
  replace h := bs h
  obtain ⟨v2, hv2, h⟩ := h
  refine k_sreg (r_gq [(4, .box [.sl none (v2.1.map ePt)]), (5, .p (.bool v2.2))] [(1, {call := some (some [.d false [.sl none (x1.map ePt)]], [.ov true [.sl none (v2.1.map ePt)], .p (.bool v2.2)], false), fix := some (6, .d false [.sl none (x1.map ePt)])})] (A3 (show ([.d false [.sl none (eraL (x1.map ePt))]] : List Arg) = [.d false [.sl none (x1.map ePt)]] from (by simp only [eraL_enc (h := ePt) (era_P (era_P er_I er_I) (era_P er_I er_I))])) (wk_spec_liIf hv2) (show (SV.d false (eraR [.sl (some 85) (x1.map ePt)]) : SV) = .d false [.sl none (x1.map ePt)] from (congrArg (fun z => SV.d false z) (erc_sl (eraL_enc (era_P (era_P er_I er_I) (era_P er_I er_I))) rfl))))) ?_
  refine k_ret ?_
  obtain rfl := oi h
  exact er [(.ov true [.sl none (v2.1.map ePt)], 4), (.p (.bool v2.2), 5)]
 ·refine k_sreg (r_gq [(3, .box (eRt a1)), (4, .box [.sl (some 85) []]), (6, .ov false [.sl (some 85) []]), (12, .d false [.sl none (a0.map ePt)]), (13, .p (iV (a0.length : Int))), (14, .p (iV 0))] [(1, bT), (2, {n := some a0.length})] (A2 (show frR [.sl none (a0.map ePt)] = true from (frR1 (frL_enc (fr_P (fr_P fr_I fr_I) (fr_P fr_I fr_I))) rfl)) (show (a0.map ePt).length = a0.length from (List.length_map ..)))) ?_
  refine k_block ?_
  obtain ⟨y4, hl_x3, hk_x3⟩ := bs h
  clear h
  refine k_loop (J := fun (x : ((List Qp) × Int)) => [(3, .box (eRt a1)), (4, .box [.sl (some 85) []]), (6, .ov false [.sl (some 85) (x.1.map ePt)]), (12, .d false [.sl none (a0.map ePt)]), (13, .p (iV (a0.length : Int))), (14, .p (iV x.2))]) hl_x3 (wk_of (by kernel_rfl) (by kernel_rfl)) (fun x3 o_x3 h hy_x3 => ?_)
  unfold spec_liTurn_b1 at h
  refine k_sreg (r_gq [(3, .box (eRt a1)), (4, .box [.sl (some 85) []]), (6, .ov false [.sl (some 85) (x3.1.map ePt)]), (12, .d false [.sl none (a0.map ePt)]), (13, .p (iV (a0.length : Int))), (14, .p (iV x3.2)), (15, .p (.bool (decide (x3.2 < (a0.length : Int)))))] [] trivial) ?_
  refine k_seq ?_
  refine kc (decide (x3.2 < (a0.length : Int))) (fun hc5_4 => ?_) (fun hc5_4 => ?_)
  ·replace h := ite_t hc5_4 h
   refine k_skip ?_
   refine q_n ?_
   refine k_seq ?_
   refine k_block ?_
   replace h := bs h
   obtain ⟨v6, hv6, h⟩ := h
   refine k_sreg (r_gq [(3, .box (eRt a1)), (4, .box [.sl (some 85) []]), (6, .ov false [.sl (some 85) (x3.1.map ePt)]), (8, .box (ePt v6)), (12, .d false [.sl none (a0.map ePt)]), (13, .p (iV (a0.length : Int))), (14, .p (iV x3.2))] [(0, {row := some (ePt v6)})] (A2 (idxO_some hv6).1 (map_get ePt (idxO_some hv6).2))) ?_
   replace h := bs h
   obtain ⟨v7, hv7, h⟩ := h
   refine k_sreg (r_gq [(3, .box (eRt a1)), (4, .box [.sl (some 85) []]), (6, .ov false [.sl (some 85) (x3.1.map ePt)]), (8, .box (ePt v6)), (9, .box (eRt v7.1)), (10, .p (.bool v7.2)), (12, .d false [.sl none (a0.map ePt)]), (13, .p (iV (a0.length : Int))), (14, .p (iV x3.2))] [(3, {call := some (none, [.p (vRt v7.1), .p (.bool v7.2)], true)})] (A1 (wk_spec_raAdd hv7))) ?_
   refine k_seq ?_
   refine k_sreg (r_gq [(3, .box (eRt a1)), (4, .box [.sl (some 85) []]), (6, .ov false [.sl (some 85) (x3.1.map ePt)]), (8, .box (ePt v6)), (9, .box (eRt v7.1)), (12, .d false [.sl none (a0.map ePt)]), (13, .p (iV (a0.length : Int))), (14, .p (iV x3.2)), (26, .p (.bool (!v7.2)))] [] trivial) ?_
   refine kc (!v7.2) (fun hc7_7 => ?_) (fun hc7_7 => ?_)
   ·replace h := ite_t hc7_7 h
    refine k_sreg (r_gq [(4, .box [.sl none []]), (5, .p (.bool false))] [] trivial) ?_
    refine k_ret ?_
    refine q_r ?_
    refine b_r ?_
    refine q_r ?_
    refine lq_r ?_
    refine b_r ?_
    refine q_r ?_
    have hyy := hy_x3 _ (oi h).symm
    subst hyy
    have h := hk_x3
    dsimp only [Sum.elim] at h
    obtain rfl := oi h
    exact er [(.ov true [.sl none []], 4), (.p (.bool false), 5)]
   ·replace h := ite_f hc7_7 h
    refine k_skip ?_
    refine q_n ?_
    replace h := bs h
    obtain ⟨u9, hu9, h⟩ := h
    refine k_reg (r_gq [(3, .box (eRt a1)), (4, .box [.sl (some 85) []]), (6, .ov false [.sl (some 85) ((x3.1 ++ [(v6.1, v7.1)]).map ePt)]), (12, .d false [.sl none (a0.map ePt)]), (13, .p (iV (a0.length : Int))), (14, .p (iV x3.2))] [(6, {fix := some (34, .ov false [.sl (some 85) ((x3.1 ++ [(v6.1, v7.1)]).map ePt)])})] (A3 (show List.length ((x3.1.map ePt) : List (List C)) + List.length ((([(v6.1, v7.1)]).map ePt) : List (List C)) ≤ 1099511627776 from (by have hg := (guardO_some hu9); simpa using hg)) (show ∀ row ∈ ((([(v6.1, v7.1)]).map ePt) : List (List C)), row.length = 4 from (rows_len fun _ => rfl)) (show (SV.ov false [.sl (some 85) ((x3.1.map ePt) ++ (([(v6.1, v7.1)]).map ePt))] : SV) = .ov false [.sl (some 85) ((x3.1 ++ [(v6.1, v7.1)]).map ePt)] from (congrArg (fun z => SV.ov false [.sl (some 85) z]) (List.map_append ..).symm)))) ?_
    refine b_n ?_
    refine q_n ?_
    refine k_reg (r_gq [(3, .box (eRt a1)), (4, .box [.sl (some 85) []]), (6, .ov false [.sl (some 85) ((x3.1 ++ [(v6.1, v7.1)]).map ePt)]), (12, .d false [.sl none (a0.map ePt)]), (13, .p (iV (a0.length : Int))), (14, .p (iV (w64 (x3.2 + 1))))] [] trivial) ?_
    exact lqn ((x3.1 ++ [(v6.1, v7.1)]), (w64 (x3.2 + 1))) h
  ·replace h := ite_f hc5_4 h
   refine k_exit ?_
   refine q_x ?_
   refine lq_x ?_
   refine b_x ?_
   have hyy := hy_x3 _ (oi h).symm
   subst hyy
   have h := hk_x3
   dsimp only [Sum.elim] at h
   refine q_n ?_
   exact jx x3.1 h
theorem wk_spec_TurnLift {a0 : (List Qp)} {a1 : Qr}  {r : ((List Qp) × Bool)} (h : spec_TurnLift a0 a1 = some r) : Meets Tryz.prog 14 [.d true [.sl none (a0.map ePt)], .v (vRt a1)] { vals := [.ov true [.sl none (r.1.map ePt)], .p (.bool r.2)] } := by
 refine mo Tryz.func14 [(0, .d true [.sl none (a0.map ePt)]), (1, .p (vRt a1))] ?_
 unfold spec_TurnLift at h
 refine k_sreg (r_gq [(2, .box [.sl none (a0.map ePt)]), (3, .box (eRt a1)), (4, .box [.sl (some 85) []])] [] trivial) ?_
 refine k_seq ?_
 replace h := bs h
 obtain ⟨v1, hv1, h⟩ := h
 replace h := bs h
 obtain ⟨w3, hw3, h⟩ := h
 refine k_sreg (l1 := [(2, .box [.sl none (a0.map ePt)]), (3, .box (eRt a1)), (4, .box [.sl (some 85) []]), (13, .p (.bool w3))]) ?_ ?_
 ·clear h
  rcases ft (!v1) with ha0 | ha0
  ·replace hw3 := ite_t ha0 hw3
   have hw3 := oi hw3
   subst hw3
   exact (r_gq [(2, .box [.sl none (a0.map ePt)]), (3, .box (eRt a1)), (4, .box [.sl (some 85) []]), (13, .p (.bool true))] [(0, bT), (1, {call := some (none, [.p (.bool v1)], true)}), (4, gT), (5, gT), (6, gT), (7, bT)] (A6 (show frR [.sl none (a0.map ePt)] = true from (frR1 (frL_enc (fr_P (fr_P fr_I fr_I) (fr_P fr_I fr_I))) rfl)) (wk_spec_liGood hv1) ha0 ha0 ha0 ha0))
  ·replace hw3 := ite_f ha0 hw3
   replace hw3 := bs hw3
   obtain ⟨v2, hv2, hw3⟩ := hw3
   have hw3 := oi hw3
   subst hw3
   exact (r_gq [(2, .box [.sl none (a0.map ePt)]), (3, .box (eRt a1)), (4, .box [.sl (some 85) []]), (13, .p (.bool (!v2)))] [(0, bT), (1, {call := some (none, [.p (.bool v1)], true)}), (4, gF), (5, {g := some false, call := some (none, [.p (.bool v2)], true)}), (6, gF), (7, bF)] (B6 (show frR [.sl none (a0.map ePt)] = true from (frR1 (frL_enc (fr_P (fr_P fr_I fr_I) (fr_P fr_I fr_I))) rfl)) (wk_spec_liGood hv1) ha0 ha0 (wk_spec_liNear hv2) ha0 (A1 ha0)))
 ·refine kc w3 (fun hc2_3 => ?_) (fun hc2_3 => ?_)
  ·replace h := ite_t hc2_3 h
   refine k_sreg (r_gq [(4, .box [.sl none []]), (5, .p (.bool false))] [] trivial) ?_
   refine k_ret ?_
   refine q_r ?_
   obtain rfl := oi h
   exact er [(.ov true [.sl none []], 4), (.p (.bool false), 5)]
  ·replace h := ite_f hc2_3 h
   refine k_skip ?_
   refine q_n ?_
   replace h := bs h
   obtain ⟨v5, hv5, h⟩ := h
   refine k_sreg (r_gq [(4, .box [.sl none (v5.1.map ePt)]), (5, .p (.bool v5.2))] [(0, bT), (2, {call := some (none, [.ov true [.sl none (v5.1.map ePt)], .p (.bool v5.2)], false)})] (A2 (show frR [.sl none (a0.map ePt)] = true from (frR1 (frL_enc (fr_P (fr_P fr_I fr_I) (fr_P fr_I fr_I))) rfl)) (wk_spec_liTurn hv5))) ?_
   refine k_ret ?_
   obtain rfl := oi h
   exact er [(.ov true [.sl none (v5.1.map ePt)], 4), (.p (.bool v5.2), 5)]
theorem wk_laws_qRats {a0 : (List Qr)} {a1 : (List Qr)}  {r : Bool} (h : laws_qRats a0 a1 = some r) : Meets Tryz.prog 15 [.d false [.sl none (a0.map eRt)], .d false [.sl none (a1.map eRt)]] { vals := [.p (.bool r)] } := by
 refine mo Tryz.func15 [(0, .d false [.sl none (a0.map eRt)]), (1, .d false [.sl none (a1.map eRt)])] ?_
 unfold laws_qRats at h
 refine k_sreg (r_gq [(0, .d false [.sl none (a0.map eRt)]), (1, .d false [.sl none (a1.map eRt)])] [] trivial) ?_
 refine k_seq ?_
 refine k_sreg (r_gq [(0, .d false [.sl none (a0.map eRt)]), (1, .d false [.sl none (a1.map eRt)]), (10, .p (.bool ((a0.length : Int) != (a1.length : Int))))] [(1, {n := some a0.length}), (3, {n := some a1.length})] (A2 (show (a0.map eRt).length = a0.length from (List.length_map ..)) (show (a1.map eRt).length = a1.length from (List.length_map ..)))) ?_
 refine kc ((a0.length : Int) != (a1.length : Int)) (fun hc2_0 => ?_) (fun hc2_0 => ?_)
 ·replace h := ite_t hc2_0 h
  refine k_sreg (r_gq [(4, .p (.bool false))] [] trivial) ?_
  refine k_ret ?_
  refine q_r ?_
  obtain rfl := oi h
  exact er [(.p (.bool false), 4)]
 ·replace h := ite_f hc2_0 h
  refine k_skip ?_
  refine q_n ?_
  refine k_join (J := fun (x : Unit) => []) (K := fun x => laws_qRats_k1 x = some r) (fun x2 h => ?_) ?_
  ·unfold laws_qRats_k1 at h
   refine k_sreg (r_gq [(4, .p (.bool true))] [] trivial) ?_
   refine k_ret ?_
   obtain rfl := oi h
   exact er [(.p (.bool true), 4)]
  ·refine k_sreg (r_gq [(0, .d false [.sl none (a0.map eRt)]), (1, .d false [.sl none (a1.map eRt)]), (12, .p (iV (a0.length : Int))), (13, .p (iV 0))] [(1, {n := some a0.length})] (A1 (show (a0.map eRt).length = a0.length from (List.length_map ..)))) ?_
   refine k_block ?_
   obtain ⟨y4, hl_x3, hk_x3⟩ := bs h
   clear h
   refine k_loop (J := fun (x : Int) => [(0, .d false [.sl none (a0.map eRt)]), (1, .d false [.sl none (a1.map eRt)]), (12, .p (iV (a0.length : Int))), (13, .p (iV x))]) hl_x3 (wk_of (by kernel_rfl) (by kernel_rfl)) (fun x3 o_x3 h hy_x3 => ?_)
   unfold laws_qRats_b1 at h
   refine k_sreg (r_gq [(0, .d false [.sl none (a0.map eRt)]), (1, .d false [.sl none (a1.map eRt)]), (12, .p (iV (a0.length : Int))), (13, .p (iV x3)), (14, .p (.bool (decide (x3 < (a0.length : Int)))))] [] trivial) ?_
   refine k_seq ?_
   refine kc (decide (x3 < (a0.length : Int))) (fun hc5_4 => ?_) (fun hc5_4 => ?_)
   ·replace h := ite_t hc5_4 h
    refine k_skip ?_
    refine q_n ?_
    refine k_seq ?_
    refine k_block ?_
    refine k_sreg (r_gq [(0, .d false [.sl none (a0.map eRt)]), (1, .d false [.sl none (a1.map eRt)]), (5, .p (iV x3)), (12, .p (iV (a0.length : Int))), (13, .p (iV x3))] [] trivial) ?_
    replace h := bs h
    obtain ⟨v6, hv6, h⟩ := h
    replace h := bs h
    obtain ⟨v7, hv7, h⟩ := h
    refine k_sreg (r_dq Tryz_mixed 8 [] [(0, .d false [.sl none (a0.map eRt)]), (1, .d false [.sl none (a1.map eRt)]), (12, .p (iV (a0.length : Int))), (13, .p (iV x3)), (24, .p (.bool (!((v6.1 == v7.1) && (v6.2 == v7.2)))))] [(2, {row := some (eRt v6)}), (6, {row := some (eRt v7)}), (8, {pv := some (.bool (!((v6.1 == v7.1) && (v6.2 == v7.2))))})] (A5 (idxO_some hv6).1 (map_get eRt (idxO_some hv6).2) (idxO_some hv7).1 (map_get eRt (idxO_some hv7).2) (show PureAt Tryz.prog (.binOp .neq 27 (.tmp 19) (.tmp 23) 27) [vRt v6, vRt v7] (.bool (!((v6.1 == v7.1) && (v6.2 == v7.2)))) from (pure_neq2 (by kernel_rfl))))) ?_
    refine kc (!((v6.1 == v7.1) && (v6.2 == v7.2))) (fun hc6_7 => ?_) (fun hc6_7 => ?_)
    ·replace h := ite_t hc6_7 h
     refine k_sreg (r_gq [(4, .p (.bool false))] [] trivial) ?_
     refine k_ret ?_
     refine b_r ?_
     refine q_r ?_
     refine lq_r ?_
     refine b_r ?_
     refine q_r ?_
     have hyy := hy_x3 _ (oi h).symm
     subst hyy
     have h := hk_x3
     dsimp only [Sum.elim] at h
     obtain rfl := oi h
     exact er [(.p (.bool false), 4)]
    ·replace h := ite_f hc6_7 h
     refine k_skip ?_
     refine b_n ?_
     refine q_n ?_
     refine k_reg (r_gq [(0, .d false [.sl none (a0.map eRt)]), (1, .d false [.sl none (a1.map eRt)]), (12, .p (iV (a0.length : Int))), (13, .p (iV (w64 (x3 + 1))))] [] trivial) ?_
     exact lqn (w64 (x3 + 1)) h
   ·replace h := ite_f hc5_4 h
    refine k_exit ?_
    refine q_x ?_
    refine lq_x ?_
    refine b_x ?_
    have hyy := hy_x3 _ (oi h).symm
    subst hyy
    have h := hk_x3
    dsimp only [Sum.elim] at h
    refine q_n ?_
    exact jx () h
theorem wk_laws_qMap {a0 : (List Qp)} {a1 : (List Qp)}  {r : Bool} (h : laws_qMap a0 a1 = some r) : Meets Tryz.prog 16 [.d false [.sl none (a0.map ePt)], .d false [.sl none (a1.map ePt)]] { vals := [.p (.bool r)] } := by
 refine mo Tryz.func16 [(0, .d false [.sl none (a0.map ePt)]), (1, .d false [.sl none (a1.map ePt)])] ?_
 unfold laws_qMap at h
 refine k_sreg (r_gq [(0, .d false [.sl none (a0.map ePt)]), (1, .d false [.sl none (a1.map ePt)])] [] trivial) ?_
 refine k_seq ?_
 refine k_sreg (r_gq [(0, .d false [.sl none (a0.map ePt)]), (1, .d false [.sl none (a1.map ePt)]), (10, .p (.bool ((a0.length : Int) != (a1.length : Int))))] [(1, {n := some a0.length}), (3, {n := some a1.length})] (A2 (show (a0.map ePt).length = a0.length from (List.length_map ..)) (show (a1.map ePt).length = a1.length from (List.length_map ..)))) ?_
 refine kc ((a0.length : Int) != (a1.length : Int)) (fun hc2_0 => ?_) (fun hc2_0 => ?_)
 ·replace h := ite_t hc2_0 h
  refine k_sreg (r_gq [(4, .p (.bool false))] [] trivial) ?_
  refine k_ret ?_
  refine q_r ?_
  obtain rfl := oi h
  exact er [(.p (.bool false), 4)]
 ·replace h := ite_f hc2_0 h
  refine k_skip ?_
  refine q_n ?_
  refine k_join (J := fun (x : Unit) => []) (K := fun x => laws_qMap_k1 x = some r) (fun x2 h => ?_) ?_
  ·unfold laws_qMap_k1 at h
   refine k_sreg (r_gq [(4, .p (.bool true))] [] trivial) ?_
   refine k_ret ?_
   obtain rfl := oi h
   exact er [(.p (.bool true), 4)]
  ·refine k_sreg (r_gq [(0, .d false [.sl none (a0.map ePt)]), (1, .d false [.sl none (a1.map ePt)]), (12, .p (iV (a0.length : Int))), (13, .p (iV 0))] [(1, {n := some a0.length})] (A1 (show (a0.map ePt).length = a0.length from (List.length_map ..)))) ?_
   refine k_block ?_
   obtain ⟨y4, hl_x3, hk_x3⟩ := bs h
   clear h
   refine k_loop (J := fun (x : Int) => [(0, .d false [.sl none (a0.map ePt)]), (1, .d false [.sl none (a1.map ePt)]), (12, .p (iV (a0.length : Int))), (13, .p (iV x))]) hl_x3 (wk_of (by kernel_rfl) (by kernel_rfl)) (fun x3 o_x3 h hy_x3 => ?_)
   unfold laws_qMap_b1 at h
   refine k_sreg (r_gq [(0, .d false [.sl none (a0.map ePt)]), (1, .d false [.sl none (a1.map ePt)]), (12, .p (iV (a0.length : Int))), (13, .p (iV x3)), (14, .p (.bool (decide (x3 < (a0.length : Int)))))] [] trivial) ?_
   refine k_seq ?_
   refine kc (decide (x3 < (a0.length : Int))) (fun hc5_4 => ?_) (fun hc5_4 => ?_)
   ·replace h := ite_t hc5_4 h
    refine k_skip ?_
    refine q_n ?_
    refine k_seq ?_
    refine k_block ?_
    refine k_sreg (r_gq [(0, .d false [.sl none (a0.map ePt)]), (1, .d false [.sl none (a1.map ePt)]), (5, .p (iV x3)), (12, .p (iV (a0.length : Int))), (13, .p (iV x3))] [] trivial) ?_
    replace h := bs h
    obtain ⟨v6, hv6, h⟩ := h
    replace h := bs h
    obtain ⟨v7, hv7, h⟩ := h
    refine k_sreg (r_dq Tryz_mixed 8 [] [(0, .d false [.sl none (a0.map ePt)]), (1, .d false [.sl none (a1.map ePt)]), (12, .p (iV (a0.length : Int))), (13, .p (iV x3)), (24, .p (.bool (!(((v6.1.1 == v7.1.1) && (v6.1.2 == v7.1.2)) && ((v6.2.1 == v7.2.1) && (v6.2.2 == v7.2.2))))))] [(2, {row := some (ePt v6)}), (6, {row := some (ePt v7)}), (8, {pv := some (.bool (!(((v6.1.1 == v7.1.1) && (v6.1.2 == v7.1.2)) && ((v6.2.1 == v7.2.1) && (v6.2.2 == v7.2.2)))))})] (A5 (idxO_some hv6).1 (map_get ePt (idxO_some hv6).2) (idxO_some hv7).1 (map_get ePt (idxO_some hv7).2) (show PureAt Tryz.prog (.binOp .neq 85 (.tmp 19) (.tmp 23) 85) [vPt v6, vPt v7] (.bool (!(((v6.1.1 == v7.1.1) && (v6.1.2 == v7.1.2)) && ((v6.2.1 == v7.2.1) && (v6.2.2 == v7.2.2))))) from (pure_neq4 (by kernel_rfl))))) ?_
    refine kc (!(((v6.1.1 == v7.1.1) && (v6.1.2 == v7.1.2)) && ((v6.2.1 == v7.2.1) && (v6.2.2 == v7.2.2)))) (fun hc6_7 => ?_) (fun hc6_7 => ?_)
    ·replace h := ite_t hc6_7 h
     refine k_sreg (r_gq [(4, .p (.bool false))] [] trivial) ?_
     refine k_ret ?_
     refine b_r ?_
     refine q_r ?_
     refine lq_r ?_
     refine b_r ?_
     refine q_r ?_
     have hyy := hy_x3 _ (oi h).symm
     subst hyy
     have h := hk_x3
     dsimp only [Sum.elim] at h
     obtain rfl := oi h
     exact er [(.p (.bool false), 4)]
    ·replace h := ite_f hc6_7 h
     refine k_skip ?_
     refine b_n ?_
     refine q_n ?_
     refine k_reg (r_gq [(0, .d false [.sl none (a0.map ePt)]), (1, .d false [.sl none (a1.map ePt)]), (12, .p (iV (a0.length : Int))), (13, .p (iV (w64 (x3 + 1))))] [] trivial) ?_
     exact lqn (w64 (x3 + 1)) h
   ·replace h := ite_f hc5_4 h
    refine k_exit ?_
    refine q_x ?_
    refine lq_x ?_
    refine b_x ?_
    have hyy := hy_x3 _ (oi h).symm
    subst hyy
    have h := hk_x3
    dsimp only [Sum.elim] at h
    refine q_n ?_
    exact jx () h
theorem wk_impl_IsLift {a0 : (List Qp)}  {r : Bool} (h : impl_IsLift a0 = some r) : Meets Tryz.prog 17 [.d true [.sl none (a0.map ePt)]] { vals := [.p (.bool r)] } := by
 refine mo Tryz.func17 [(0, .d true [.sl none (a0.map ePt)])] ?_
 unfold impl_IsLift at h
 refine k_sreg (r_gq [(1, .box [.sl none (a0.map ePt)])] [] trivial) ?_
 replace h := bs h
 obtain ⟨v1, hv1, h⟩ := h
 refine k_sreg (r_gq [(2, .p (.bool v1))] [(0, bT), (1, {call := some (none, [.p (.bool v1)], true)})] (A2 (show frR [.sl none (a0.map ePt)] = true from (frR1 (frL_enc (fr_P (fr_P fr_I fr_I) (fr_P fr_I fr_I))) rfl)) (wk_impl_isLift hv1))) ?_
 refine k_ret ?_
 obtain rfl := oi h
 exact er [(.p (.bool v1), 2)]
theorem wk_slices_MinFunc_Limpl_Rat_impl_Rat_v {a0 : (List Qr)} {a1 : (Qr → Qr → Option Int)} {F1 : FuncId} (hp1 : ∀ x0 x1 y, a1 x0 x1 = some y → Meets Tryz.prog F1 ([.v (vRt x0), .v (vRt x1)] ++ []) { vals := [.p (iV y)] }) {r : Qr} (h : slices_MinFunc_Limpl_Rat_impl_Rat a0 a1 = some r) : Meets Tryz.prog 96 [.d false [.sl none (a0.map eRt)], .v (.func (.func F1) #[] #[])] { vals := [.p (vRt r)] } := by
 refine mo Tryz.func96 [(0, .d false [.sl none (a0.map eRt)]), (1, .p (.func (.func F1) #[] #[]))] ?_
 unfold slices_MinFunc_Limpl_Rat_impl_Rat at h
 refine k_sreg (r_gq [(0, .d false [.sl none (a0.map eRt)]), (1, .p (.func (.func F1) #[] #[])), (4, .box [rI 0, rI 0])] [] trivial) ?_
 refine k_join (J := fun (x : Unit) => [(0, .d false [.sl none (a0.map eRt)]), (1, .p (.func (.func F1) #[] #[])), (4, .box [rI 0, rI 0])]) (K := fun x => slices_MinFunc_Limpl_Rat_impl_Rat_k1 a0 a1 x = some r) (fun x1 h => ?_) ?_
 ·unfold slices_MinFunc_Limpl_Rat_impl_Rat_k1 at h
  replace h := bs h
  obtain ⟨v2, hv2, h⟩ := h
  refine k_sreg (r_gq [(0, .d false [.sl none (a0.map eRt)]), (1, .p (.func (.func F1) #[] #[])), (4, .box [rI 0, rI 0]), (5, .box (eRt v2))] [(1, {row := some (eRt v2)})] (A2 (idxO_some hv2).1 (map_get eRt (idxO_some hv2).2))) ?_
  refine k_join (J := fun (x : Qr) => [(4, .box [rI 0, rI 0]), (5, .box (eRt x))]) (K := fun x => slices_MinFunc_Limpl_Rat_impl_Rat_k2 x = some r) (fun x3 h => ?_) ?_
  ·unfold slices_MinFunc_Limpl_Rat_impl_Rat_k2 at h
   refine k_sreg (r_gq [(4, .box (eRt x3))] [] trivial) ?_
   refine k_ret ?_
   obtain rfl := oi h
   exact er [(.p (vRt x3), 4)]
  ·refine k_sreg (r_gq [(0, .d false [.sl none (a0.map eRt)]), (1, .p (.func (.func F1) #[] #[])), (4, .box [rI 0, rI 0]), (5, .box (eRt v2)), (6, .p (iV 1))] [] trivial) ?_
   refine k_block ?_
   obtain ⟨y5, hl_x4, hk_x4⟩ := bs h
   clear h
   refine k_loop (J := fun (x : (Int × Int × Int)) => [(0, .d false [.sl none (a0.map eRt)]), (1, .p (.func (.func F1) #[] #[])), (4, .box [rI 0, rI 0]), (5, .box [rI x.1, rI x.2.1]), (6, .p (iV x.2.2))]) hl_x4 (wk_of (by kernel_rfl) (by kernel_rfl)) (fun x4 o_x4 h hy_x4 => ?_)
   unfold slices_MinFunc_Limpl_Rat_impl_Rat_b1 at h
   refine k_seq ?_
   refine k_sreg (r_gq [(0, .d false [.sl none (a0.map eRt)]), (1, .p (.func (.func F1) #[] #[])), (4, .box [rI 0, rI 0]), (5, .box [rI x4.1, rI x4.2.1]), (6, .p (iV x4.2.2)), (17, .p (.bool (decide (x4.2.2 < (a0.length : Int)))))] [(2, {n := some a0.length})] (A1 (show (a0.map eRt).length = a0.length from (List.length_map ..)))) ?_
   refine kc (decide (x4.2.2 < (a0.length : Int))) (fun hc5_5 => ?_) (fun hc5_5 => ?_)
   ·replace h := ite_t hc5_5 h
    refine k_skip ?_
    refine q_n ?_
    refine k_seq ?_
    refine k_block ?_
    replace h := bs h
    obtain ⟨v7, hv7, h⟩ := h
    replace h := bs h
    obtain ⟨v8, hv8, h⟩ := h
    refine k_sreg (r_dq Tryz_mixed 6 [] [(0, .d false [.sl none (a0.map eRt)]), (1, .p (.func (.func F1) #[] #[])), (4, .box [rI 0, rI 0]), (5, .box [rI x4.1, rI x4.2.1]), (6, .p (iV x4.2.2)), (27, .p (.bool (decide (v8 < 0))))] [(3, {row := some (eRt v7)}), (6, {call := some (none, [.p (iV v8)], true)})] (A3 (idxO_some hv7).1 (map_get eRt (idxO_some hv7).2) (hp1 _ _ _ hv8))) ?_
    refine kc (decide (v8 < 0)) (fun hc6_8 => ?_) (fun hc6_8 => ?_)
    ·replace h := ite_t hc6_8 h
     refine k_reg (r_gq [(0, .d false [.sl none (a0.map eRt)]), (1, .p (.func (.func F1) #[] #[])), (4, .box [rI 0, rI 0]), (5, .box (eRt v7)), (6, .p (iV x4.2.2))] [(2, {row := some (eRt v7)})] (A2 (idxO_some hv7).1 (map_get eRt (idxO_some hv7).2))) ?_
     refine b_n ?_
     refine q_n ?_
     refine k_reg (r_gq [(0, .d false [.sl none (a0.map eRt)]), (1, .p (.func (.func F1) #[] #[])), (4, .box [rI 0, rI 0]), (5, .box (eRt v7)), (6, .p (iV (w64 (x4.2.2 + 1))))] [] trivial) ?_
     exact lqn (v7.1, v7.2, (w64 (x4.2.2 + 1))) h
    ·replace h := ite_f hc6_8 h
     refine k_skip ?_
     refine b_n ?_
     refine q_n ?_
     refine k_reg (r_gq [(0, .d false [.sl none (a0.map eRt)]), (1, .p (.func (.func F1) #[] #[])), (4, .box [rI 0, rI 0]), (5, .box [rI x4.1, rI x4.2.1]), (6, .p (iV (w64 (x4.2.2 + 1))))] [] trivial) ?_
     exact lqn (x4.1, x4.2.1, (w64 (x4.2.2 + 1))) h
   ·replace h := ite_f hc5_5 h
    refine k_exit ?_
    refine q_x ?_
    refine lq_x ?_
    refine b_x ?_
    have hyy := hy_x4 _ (oi h).symm
    subst hyy
    have h := hk_x4
    refine q_n ?_
    exact jx (x4.1, x4.2.1) h
 ·refine k_sreg (r_gq [(0, .d false [.sl none (a0.map eRt)]), (1, .p (.func (.func F1) #[] #[])), (4, .box [rI 0, rI 0]), (9, .p (.bool (decide ((a0.length : Int) < 1))))] [(1, {n := some a0.length})] (A1 (show (a0.map eRt).length = a0.length from (List.length_map ..)))) ?_
  refine kc (decide ((a0.length : Int) < 1)) (fun hc2_9 => ?_) (fun hc2_9 => ?_)
  ·replace h := ite_t hc2_9 h
   cases h
  ·replace h := ite_f hc2_9 h
   refine k_skip ?_
   refine q_n ?_
   exact jx () h
theorem wk_slices_MaxFunc_Limpl_Rat_impl_Rat_v {a0 : (List Qr)} {a1 : (Qr → Qr → Option Int)} {F1 : FuncId} (hp1 : ∀ x0 x1 y, a1 x0 x1 = some y → Meets Tryz.prog F1 ([.v (vRt x0), .v (vRt x1)] ++ []) { vals := [.p (iV y)] }) {r : Qr} (h : slices_MaxFunc_Limpl_Rat_impl_Rat a0 a1 = some r) : Meets Tryz.prog 94 [.d false [.sl none (a0.map eRt)], .v (.func (.func F1) #[] #[])] { vals := [.p (vRt r)] } := by
 refine mo Tryz.func94 [(0, .d false [.sl none (a0.map eRt)]), (1, .p (.func (.func F1) #[] #[]))] ?_
 unfold slices_MaxFunc_Limpl_Rat_impl_Rat at h
 refine k_sreg (r_gq [(0, .d false [.sl none (a0.map eRt)]), (1, .p (.func (.func F1) #[] #[])), (4, .box [rI 0, rI 0])] [] trivial) ?_
 refine k_join (J := fun (x : Unit) => [(0, .d false [.sl none (a0.map eRt)]), (1, .p (.func (.func F1) #[] #[])), (4, .box [rI 0, rI 0])]) (K := fun x => slices_MaxFunc_Limpl_Rat_impl_Rat_k1 a0 a1 x = some r) (fun x1 h => ?_) ?_
 ·unfold slices_MaxFunc_Limpl_Rat_impl_Rat_k1 at h
  replace h := bs h
  obtain ⟨v2, hv2, h⟩ := h
  refine k_sreg (r_gq [(0, .d false [.sl none (a0.map eRt)]), (1, .p (.func (.func F1) #[] #[])), (4, .box [rI 0, rI 0]), (5, .box (eRt v2))] [(1, {row := some (eRt v2)})] (A2 (idxO_some hv2).1 (map_get eRt (idxO_some hv2).2))) ?_
  refine k_join (J := fun (x : Qr) => [(4, .box [rI 0, rI 0]), (5, .box (eRt x))]) (K := fun x => slices_MaxFunc_Limpl_Rat_impl_Rat_k2 x = some r) (fun x3 h => ?_) ?_
  ·unfold slices_MaxFunc_Limpl_Rat_impl_Rat_k2 at h
   refine k_sreg (r_gq [(4, .box (eRt x3))] [] trivial) ?_
   refine k_ret ?_
   obtain rfl := oi h
   exact er [(.p (vRt x3), 4)]
  ·refine k_sreg (r_gq [(0, .d false [.sl none (a0.map eRt)]), (1, .p (.func (.func F1) #[] #[])), (4, .box [rI 0, rI 0]), (5, .box (eRt v2)), (6, .p (iV 1))] [] trivial) ?_
   refine k_block ?_
   obtain ⟨y5, hl_x4, hk_x4⟩ := bs h
   clear h
   refine k_loop (J := fun (x : (Int × Int × Int)) => [(0, .d false [.sl none (a0.map eRt)]), (1, .p (.func (.func F1) #[] #[])), (4, .box [rI 0, rI 0]), (5, .box [rI x.1, rI x.2.1]), (6, .p (iV x.2.2))]) hl_x4 (wk_of (by kernel_rfl) (by kernel_rfl)) (fun x4 o_x4 h hy_x4 => ?_)
   unfold slices_MaxFunc_Limpl_Rat_impl_Rat_b1 at h
   refine k_seq ?_
   refine k_sreg (r_gq [(0, .d false [.sl none (a0.map eRt)]), (1, .p (.func (.func F1) #[] #[])), (4, .box [rI 0, rI 0]), (5, .box [rI x4.1, rI x4.2.1]), (6, .p (iV x4.2.2)), (17, .p (.bool (decide (x4.2.2 < (a0.length : Int)))))] [(2, {n := some a0.length})] (A1 (show (a0.map eRt).length = a0.length from (List.length_map ..)))) ?_
   refine kc (decide (x4.2.2 < (a0.length : Int))) (fun hc5_5 => ?_) (fun hc5_5 => ?_)
   ·replace h := ite_t hc5_5 h
    refine k_skip ?_
    refine q_n ?_
    refine k_seq ?_
    refine k_block ?_
    replace h := bs h
    obtain ⟨v7, hv7, h⟩ := h
    replace h := bs h
    obtain ⟨v8, hv8, h⟩ := h
    refine k_sreg (r_dq Tryz_mixed 6 [] [(0, .d false [.sl none (a0.map eRt)]), (1, .p (.func (.func F1) #[] #[])), (4, .box [rI 0, rI 0]), (5, .box [rI x4.1, rI x4.2.1]), (6, .p (iV x4.2.2)), (27, .p (.bool (decide (v8 > 0))))] [(3, {row := some (eRt v7)}), (6, {call := some (none, [.p (iV v8)], true)})] (A3 (idxO_some hv7).1 (map_get eRt (idxO_some hv7).2) (hp1 _ _ _ hv8))) ?_
    refine kc (decide (v8 > 0)) (fun hc6_8 => ?_) (fun hc6_8 => ?_)
    ·replace h := ite_t hc6_8 h
     refine k_reg (r_gq [(0, .d false [.sl none (a0.map eRt)]), (1, .p (.func (.func F1) #[] #[])), (4, .box [rI 0, rI 0]), (5, .box (eRt v7)), (6, .p (iV x4.2.2))] [(2, {row := some (eRt v7)})] (A2 (idxO_some hv7).1 (map_get eRt (idxO_some hv7).2))) ?_
     refine b_n ?_
     refine q_n ?_
     refine k_reg (r_gq [(0, .d false [.sl none (a0.map eRt)]), (1, .p (.func (.func F1) #[] #[])), (4, .box [rI 0, rI 0]), (5, .box (eRt v7)), (6, .p (iV (w64 (x4.2.2 + 1))))] [] trivial) ?_
     exact lqn (v7.1, v7.2, (w64 (x4.2.2 + 1))) h
    ·replace h := ite_f hc6_8 h
     refine k_skip ?_
     refine b_n ?_
     refine q_n ?_
     refine k_reg (r_gq [(0, .d false [.sl none (a0.map eRt)]), (1, .p (.func (.func F1) #[] #[])), (4, .box [rI 0, rI 0]), (5, .box [rI x4.1, rI x4.2.1]), (6, .p (iV (w64 (x4.2.2 + 1))))] [] trivial) ?_
     exact lqn (x4.1, x4.2.1, (w64 (x4.2.2 + 1))) h
   ·replace h := ite_f hc5_5 h
    refine k_exit ?_
    refine q_x ?_
    refine lq_x ?_
    refine b_x ?_
    have hyy := hy_x4 _ (oi h).symm
    subst hyy
    have h := hk_x4
    refine q_n ?_
    exact jx (x4.1, x4.2.1) h
 ·refine k_sreg (r_gq [(0, .d false [.sl none (a0.map eRt)]), (1, .p (.func (.func F1) #[] #[])), (4, .box [rI 0, rI 0]), (9, .p (.bool (decide ((a0.length : Int) < 1))))] [(1, {n := some a0.length})] (A1 (show (a0.map eRt).length = a0.length from (List.length_map ..)))) ?_
  refine kc (decide ((a0.length : Int) < 1)) (fun hc2_9 => ?_) (fun hc2_9 => ?_)
  ·replace h := ite_t hc2_9 h
   cases h
  ·replace h := ite_f hc2_9 h
   refine k_skip ?_
   refine q_n ?_
   exact jx () h
theorem wk_impl_calc_moves {a0 : Bool} {a1 : (List Qp)}  {r : (Qr × Qr × Bool)} (h : impl_calc_moves a0 a1 = some r) : MeetsB Tryz.prog 75 (.box [.raw (.bool a0)]) [.d false [.sl none (a1.map ePt)]] [.p (vRt r.1), .p (vRt r.2.1)] (.box [.raw (.bool r.2.2)]) := by
 refine mob Tryz.func75 [(0, .box [.raw (.bool a0)]), (1, .d false [.sl none (a1.map ePt)])] ?_
 unfold impl_calc_moves at h
 refine k_sreg (r_gq [(0, .box [.raw (.bool a0)]), (1, .d false [.sl none (a1.map ePt)]), (4, .box [rI 0, rI 0]), (5, .box [rI 0, rI 0])] [] trivial) ?_
 refine k_sreg (r_gq [(0, .box [.raw (.bool a0)]), (1, .d false [.sl none (a1.map ePt)]), (4, .box [rI 0, rI 0]), (5, .box [rI 0, rI 0]), (6, .ov false [.sl (some 27) []])] [] trivial) ?_
 refine k_join (J := fun (x : (Bool × (List Qr))) => [(0, .box [.raw (.bool x.1)]), (4, .box [rI 0, rI 0]), (5, .box [rI 0, rI 0]), (6, .ov false [.sl (some 27) (x.2.map eRt)])]) (K := fun x => impl_calc_moves_k1 x = some r) (fun x1 h => ?_) ?_
 ·unfold impl_calc_moves_k1 at h
  replace h := bs h
  obtain ⟨v2, hv2, h⟩ := h
  replace h := bs h
  obtain ⟨v3, hv3, h⟩ := h
  refine k_sreg (r_gq [(0, .box [.raw (.bool x1.1)]), (4, .box (eRt v2)), (5, .box (eRt v3))] [(1, {call := some (some [.d false [.sl none (x1.2.map eRt)], .v (.func (.func 95) #[] #[])], [.p (vRt v2)], true)}), (3, {call := some (some [.d false [.sl none (x1.2.map eRt)], .v (.func (.func 95) #[] #[])], [.p (vRt v3)], true)})] (A4 (show ([.d false [.sl none (eraL (x1.2.map eRt))], .v (.func (.func 95) #[] #[])] : List Arg) = [.d false [.sl none (x1.2.map eRt)], .v (.func (.func 95) #[] #[])] from (by simp only [eraL_enc (h := eRt) (era_P er_I er_I)])) (show Meets Tryz.prog 96 ([.d false [.sl none (x1.2.map eRt)], .v (.func (.func 95) #[] #[])] ++ []) { vals := [.p (vRt v2)] } from (wk_slices_MinFunc_Limpl_Rat_impl_Rat_v (fun x0 x1 y hy => wk_impl_compare hy) hv2)) (show ([.d false [.sl none (eraL (x1.2.map eRt))], .v (.func (.func 95) #[] #[])] : List Arg) = [.d false [.sl none (x1.2.map eRt)], .v (.func (.func 95) #[] #[])] from (by simp only [eraL_enc (h := eRt) (era_P er_I er_I)])) (show Meets Tryz.prog 94 ([.d false [.sl none (x1.2.map eRt)], .v (.func (.func 95) #[] #[])] ++ []) { vals := [.p (vRt v3)] } from (wk_slices_MaxFunc_Limpl_Rat_impl_Rat_v (fun x0 x1 y hy => wk_impl_compare hy) hv3)))) ?_
  refine k_ret ?_
  obtain rfl := oi h
  exact ebr [(.p (vRt v2), 4), (.p (vRt v3), 5)]
 ·refine k_sreg (r_gq [(0, .box [.raw (.bool a0)]), (4, .box [rI 0, rI 0]), (5, .box [rI 0, rI 0]), (6, .ov false [.sl (some 27) []]), (9, .d false [.sl none (a1.map ePt)]), (10, .p (iV (a1.length : Int))), (11, .p (iV 0))] [(1, {n := some a1.length})] (A1 (show (a1.map ePt).length = a1.length from (List.length_map ..)))) ?_
  refine k_block ?_
  obtain ⟨y5, hl_x4, hk_x4⟩ := bs h
  clear h
  refine k_loop (J := fun (x : (Bool × (List Qr) × Int)) => [(0, .box [.raw (.bool x.1)]), (4, .box [rI 0, rI 0]), (5, .box [rI 0, rI 0]), (6, .ov false [.sl (some 27) (x.2.1.map eRt)]), (9, .d false [.sl none (a1.map ePt)]), (10, .p (iV (a1.length : Int))), (11, .p (iV x.2.2))]) hl_x4 (wk_of (by kernel_rfl) (by kernel_rfl)) (fun x4 o_x4 h hy_x4 => ?_)
  unfold impl_calc_moves_b1 at h
  refine k_sreg (r_gq [(0, .box [.raw (.bool x4.1)]), (4, .box [rI 0, rI 0]), (5, .box [rI 0, rI 0]), (6, .ov false [.sl (some 27) (x4.2.1.map eRt)]), (9, .d false [.sl none (a1.map ePt)]), (10, .p (iV (a1.length : Int))), (11, .p (iV x4.2.2)), (12, .p (.bool (decide (x4.2.2 < (a1.length : Int)))))] [] trivial) ?_
  refine k_seq ?_
  refine kc (decide (x4.2.2 < (a1.length : Int))) (fun hc5_5 => ?_) (fun hc5_5 => ?_)
  ·replace h := ite_t hc5_5 h
   refine k_skip ?_
   refine q_n ?_
   refine k_seq ?_
   refine k_block ?_
   replace h := bs h
   obtain ⟨v7, hv7, h⟩ := h
   refine k_sreg (r_gq [(0, .box [.raw (.bool x4.1)]), (4, .box [rI 0, rI 0]), (5, .box [rI 0, rI 0]), (6, .ov false [.sl (some 27) (x4.2.1.map eRt)]), (8, .box (ePt v7)), (9, .d false [.sl none (a1.map ePt)]), (10, .p (iV (a1.length : Int))), (11, .p (iV x4.2.2))] [(0, {row := some (ePt v7)})] (A2 (idxO_some hv7).1 (map_get ePt (idxO_some hv7).2))) ?_
   replace h := bs h
   obtain ⟨v8, hv8, h⟩ := h
   replace h := bs h
   obtain ⟨u9, hu9, h⟩ := h
   refine k_reg (r_gq [(0, .box [.raw (.bool v8.2)]), (4, .box [rI 0, rI 0]), (5, .box [rI 0, rI 0]), (6, .ov false [.sl (some 27) ((x4.2.1 ++ [v8.1]).map eRt)]), (9, .d false [.sl none (a1.map ePt)]), (10, .p (iV (a1.length : Int))), (11, .p (iV x4.2.2))] [(6, {lend := some (none, [.p (vRt v8.1)], .box [.raw (.bool v8.2)], true)}), (8, {fix := some (23, .ov false [.sl (some 27) ((x4.2.1 ++ [v8.1]).map eRt)])})] (A4 (wk_impl_calc_sub hv8) (show List.length ((x4.2.1.map eRt) : List (List C)) + List.length ((([v8.1]).map eRt) : List (List C)) ≤ 1099511627776 from (by have hg := (guardO_some hu9); simpa using hg)) (show ∀ row ∈ ((([v8.1]).map eRt) : List (List C)), row.length = 2 from (rows_len fun _ => rfl)) (show (SV.ov false [.sl (some 27) ((x4.2.1.map eRt) ++ (([v8.1]).map eRt))] : SV) = .ov false [.sl (some 27) ((x4.2.1 ++ [v8.1]).map eRt)] from (congrArg (fun z => SV.ov false [.sl (some 27) z]) (List.map_append ..).symm)))) ?_
   refine b_n ?_
   refine q_n ?_
   refine k_reg (r_gq [(0, .box [.raw (.bool v8.2)]), (4, .box [rI 0, rI 0]), (5, .box [rI 0, rI 0]), (6, .ov false [.sl (some 27) ((x4.2.1 ++ [v8.1]).map eRt)]), (9, .d false [.sl none (a1.map ePt)]), (10, .p (iV (a1.length : Int))), (11, .p (iV (w64 (x4.2.2 + 1))))] [] trivial) ?_
   exact lqn (v8.2, (x4.2.1 ++ [v8.1]), (w64 (x4.2.2 + 1))) h
  ·replace h := ite_f hc5_5 h
   refine k_exit ?_
   refine q_x ?_
   refine lq_x ?_
   refine b_x ?_
   have hyy := hy_x4 _ (oi h).symm
   subst hyy
   have h := hk_x4
   refine q_n ?_
   exact jx (x4.1, x4.2.1) h
theorem wk_impl_Displacements {a0 : (List Qp)}  {r : (Qr × Qr × Bool)} (h : impl_Displacements a0 = some r) : Meets Tryz.prog 18 [.d true [.sl none (a0.map ePt)]] { vals := [.p (vRt r.1), .p (vRt r.2.1), .p (.bool r.2.2)] } := by
 refine mo Tryz.func18 [(0, .d true [.sl none (a0.map ePt)])] ?_
 unfold impl_Displacements at h
 refine k_sreg (r_gq [(1, .box [.sl none (a0.map ePt)]), (2, .box [rI 0, rI 0]), (3, .box [rI 0, rI 0])] [] trivial) ?_
 refine k_seq ?_
 replace h := bs h
 obtain ⟨v1, hv1, h⟩ := h
 refine k_sreg (r_gq [(1, .box [.sl none (a0.map ePt)]), (2, .box [rI 0, rI 0]), (3, .box [rI 0, rI 0]), (10, .p (.bool (!v1)))] [(0, bT), (1, {call := some (none, [.p (.bool v1)], true)})] (A2 (show frR [.sl none (a0.map ePt)] = true from (frR1 (frL_enc (fr_P (fr_P fr_I fr_I) (fr_P fr_I fr_I))) rfl)) (wk_impl_isLift hv1))) ?_
 refine kc (!v1) (fun hc2_1 => ?_) (fun hc2_1 => ?_)
 ·replace h := ite_t hc2_1 h
  refine k_sreg (r_gq [(2, .box [rI 0, rI 0]), (3, .box [rI 0, rI 0]), (4, .p (.bool false))] [] trivial) ?_
  refine k_ret ?_
  refine q_r ?_
  obtain rfl := oi h
  exact er [(.p (.agg #[.int .i64 0, .int .i64 0]), 2), (.p (.agg #[.int .i64 0, .int .i64 0]), 3), (.p (.bool false), 4)]
 ·replace h := ite_f hc2_1 h
  refine k_skip ?_
  refine q_n ?_
  refine k_sreg (r_gq [(1, .box [.sl none (a0.map ePt)]), (2, .box [rI 0, rI 0]), (3, .box [rI 0, rI 0]), (5, .box [.raw (.bool false)])] [] trivial) ?_
  replace h := bs h
  obtain ⟨v3, hv3, h⟩ := h
  refine k_sreg (r_gq [(2, .box [rI 0, rI 0]), (3, .box [rI 0, rI 0]), (6, .box (eRt v3.1)), (7, .box (eRt v3.2.1))] [(1, bT), (2, {lend := some (none, [.p (vRt v3.1), .p (vRt v3.2.1)], .box [.raw (.bool v3.2.2)], true)})] (A2 (show frR [.sl none (a0.map ePt)] = true from (frR1 (frL_enc (fr_P (fr_P fr_I fr_I) (fr_P fr_I fr_I))) rfl)) (wk_impl_calc_moves hv3))) ?_
  refine k_sreg (r_dq Tryz_mixed 3 [(2, 2)] [(2, .box (eRt v3.1)), (3, .box (eRt v3.2.1)), (4, .p (.bool true))] [] trivial) ?_
  refine k_ret ?_
  obtain rfl := oi h
  exact er [(.p (vRt v3.1), 2), (.p (vRt v3.2.1), 3), (.p (.bool true), 4)]
theorem wk_spec_ivLess {a0 : Qr} {a1 : Qr}  {r : Qr} (h : spec_ivLess a0 a1 = some r) : Meets Tryz.prog 77 [.v (vRt a0), .v (vRt a1)] { vals := [.p (vRt r)] } := by
 refine mo Tryz.func77 [(0, .p (vRt a0)), (1, .p (vRt a1))] ?_
 unfold spec_ivLess at h
 refine k_sreg (r_gq [(2, .box (eRt a0)), (3, .box (eRt a1)), (4, .box [rI 0, rI 0])] [] trivial) ?_
 refine k_seq ?_
 replace h := bs h
 obtain ⟨v1, hv1, h⟩ := h
 refine k_sreg (r_gq [(2, .box (eRt a0)), (3, .box (eRt a1)), (4, .box [rI 0, rI 0]), (8, .p (.bool (decide (v1 < 0))))] [(2, {call := some (none, [.p (iV v1)], true)})] (A1 (wk_spec_raCmp hv1))) ?_
 refine kc (decide (v1 < 0)) (fun hc2_1 => ?_) (fun hc2_1 => ?_)
 ·replace h := ite_t hc2_1 h
  refine k_sreg (r_gq [(4, .box (eRt a0))] [] trivial) ?_
  refine k_ret ?_
  refine q_r ?_
  obtain rfl := oi h
  exact er [(.p (vRt a0), 4)]
 ·replace h := ite_f hc2_1 h
  refine k_skip ?_
  refine q_n ?_
  refine k_sreg (r_gq [(4, .box (eRt a1))] [] trivial) ?_
  refine k_ret ?_
  obtain rfl := oi h
  exact er [(.p (vRt a1), 4)]
theorem wk_spec_ivGreater {a0 : Qr} {a1 : Qr}  {r : Qr} (h : spec_ivGreater a0 a1 = some r) : Meets Tryz.prog 78 [.v (vRt a0), .v (vRt a1)] { vals := [.p (vRt r)] } := by
 refine mo Tryz.func78 [(0, .p (vRt a0)), (1, .p (vRt a1))] ?_
 unfold spec_ivGreater at h
 refine k_sreg (r_gq [(2, .box (eRt a0)), (3, .box (eRt a1)), (4, .box [rI 0, rI 0])] [] trivial) ?_
 refine k_seq ?_
 replace h := bs h
 obtain ⟨v1, hv1, h⟩ := h
 refine k_sreg (r_gq [(2, .box (eRt a0)), (3, .box (eRt a1)), (4, .box [rI 0, rI 0]), (8, .p (.bool (decide (v1 < 0))))] [(2, {call := some (none, [.p (iV v1)], true)})] (A1 (wk_spec_raCmp hv1))) ?_
 refine kc (decide (v1 < 0)) (fun hc2_1 => ?_) (fun hc2_1 => ?_)
 ·replace h := ite_t hc2_1 h
  refine k_sreg (r_gq [(4, .box (eRt a1))] [] trivial) ?_
  refine k_ret ?_
  refine q_r ?_
  obtain rfl := oi h
  exact er [(.p (vRt a1), 4)]
 ·replace h := ite_f hc2_1 h
  refine k_skip ?_
  refine q_n ?_
  refine k_sreg (r_gq [(4, .box (eRt a0))] [] trivial) ?_
  refine k_ret ?_
  obtain rfl := oi h
  exact er [(.p (vRt a0), 4)]
theorem wk_spec_Displacements {a0 : (List Qp)}  {r : (Qr × Qr × Bool)} (h : spec_Displacements a0 = some r) : Meets Tryz.prog 19 [.d true [.sl none (a0.map ePt)]] { vals := [.p (vRt r.1), .p (vRt r.2.1), .p (.bool r.2.2)] } := by
 refine mo Tryz.func19 [(0, .d true [.sl none (a0.map ePt)])] ?_
 unfold spec_Displacements at h
 refine k_sreg (r_gq [(1, .box [.sl none (a0.map ePt)]), (2, .box [rI 0, rI 0]), (3, .box [rI 0, rI 0])] [] trivial) ?_
 refine k_seq ?_
 replace h := bs h
 obtain ⟨v1, hv1, h⟩ := h
 refine k_sreg (r_gq [(1, .box [.sl none (a0.map ePt)]), (2, .box [rI 0, rI 0]), (3, .box [rI 0, rI 0]), (14, .p (.bool (!v1)))] [(0, bT), (1, {call := some (none, [.p (.bool v1)], true)})] (A2 (show frR [.sl none (a0.map ePt)] = true from (frR1 (frL_enc (fr_P (fr_P fr_I fr_I) (fr_P fr_I fr_I))) rfl)) (wk_spec_liGood hv1))) ?_
 refine kc (!v1) (fun hc2_1 => ?_) (fun hc2_1 => ?_)
 ·replace h := ite_t hc2_1 h
  refine k_sreg (r_gq [(2, .box [rI 0, rI 0]), (3, .box [rI 0, rI 0]), (4, .p (.bool false))] [] trivial) ?_
  refine k_ret ?_
  refine q_r ?_
  obtain rfl := oi h
  exact er [(.p (.agg #[.int .i64 0, .int .i64 0]), 2), (.p (.agg #[.int .i64 0, .int .i64 0]), 3), (.p (.bool false), 4)]
 ·replace h := ite_f hc2_1 h
  refine k_skip ?_
  refine q_n ?_
  replace h := bs h
  obtain ⟨v3, hv3, h⟩ := h
  replace h := bs h
  obtain ⟨v4, hv4, h⟩ := h
  refine k_sreg (r_dq Tryz_mixed 16 [(15, 5)] [(1, .box [.sl none (a0.map ePt)]), (2, .box [rI 0, rI 0]), (3, .box [rI 0, rI 0]), (5, .box (eRt v4.1))] [(1, bT), (2, {row := some (ePt v3)}), (6, bT), (7, {row := some (ePt v3)}), (10, {call := some (none, [.p (vRt v4.1), .p (.bool v4.2)], true)})] (B6 (show frR [.sl none (a0.map ePt)] = true from (frR1 (frL_enc (fr_P (fr_P fr_I fr_I) (fr_P fr_I fr_I))) rfl)) (idxO_some hv3).1 (map_get ePt (idxO_some hv3).2) (show frR [.sl none (a0.map ePt)] = true from (frR1 (frL_enc (fr_P (fr_P fr_I fr_I) (fr_P fr_I fr_I))) rfl)) (idxO_some hv3).1 (map_get ePt (idxO_some hv3).2) (A1 (wk_spec_raSub hv4)))) ?_
  refine k_sreg (r_gq [(1, .box [.sl none (a0.map ePt)]), (2, .box [rI 0, rI 0]), (3, .box [rI 0, rI 0]), (5, .box (eRt v4.1)), (7, .box (eRt v4.1))] [] trivial) ?_
  refine k_join (J := fun (x : (Int × Int × Int × Int)) => [(2, .box [rI 0, rI 0]), (3, .box [rI 0, rI 0]), (5, .box [rI x.1, rI x.2.1]), (7, .box (eRt x.2.2))]) (K := fun x => spec_Displacements_k1 x = some r) (fun x5 h => ?_) ?_
  ·unfold spec_Displacements_k1 at h
   refine k_sreg (r_dq Tryz_mixed 3 [(2, 2)] [(2, .box [rI x5.1, rI x5.2.1]), (3, .box (eRt x5.2.2)), (4, .p (.bool true))] [] trivial) ?_
   refine k_ret ?_
   obtain rfl := oi h
   exact er [(.p (.agg #[.int .i64 x5.1, .int .i64 x5.2.1]), 2), (.p (vRt x5.2.2), 3), (.p (.bool true), 4)]
  ·refine k_sreg (r_gq [(2, .box [rI 0, rI 0]), (3, .box [rI 0, rI 0]), (5, .box (eRt v4.1)), (7, .box (eRt v4.1)), (33, .d false [.sl none (a0.map ePt)]), (34, .p (iV (a0.length : Int))), (35, .p (iV 0))] [(1, bT), (2, {n := some a0.length})] (A2 (show frR [.sl none (a0.map ePt)] = true from (frR1 (frL_enc (fr_P (fr_P fr_I fr_I) (fr_P fr_I fr_I))) rfl)) (show (a0.map ePt).length = a0.length from (List.length_map ..)))) ?_
   refine k_block ?_
   obtain ⟨y7, hl_x6, hk_x6⟩ := bs h
   clear h
   refine k_loop (J := fun (x : (Int × Int × Int × Int × Int)) => [(2, .box [rI 0, rI 0]), (3, .box [rI 0, rI 0]), (5, .box [rI x.1, rI x.2.1]), (7, .box [rI x.2.2.1, rI x.2.2.2.1]), (33, .d false [.sl none (a0.map ePt)]), (34, .p (iV (a0.length : Int))), (35, .p (iV x.2.2.2.2))]) hl_x6 (wk_of (by kernel_rfl) (by kernel_rfl)) (fun x6 o_x6 h hy_x6 => ?_)
   unfold spec_Displacements_b1 at h
   refine k_sreg (r_gq [(2, .box [rI 0, rI 0]), (3, .box [rI 0, rI 0]), (5, .box [rI x6.1, rI x6.2.1]), (7, .box [rI x6.2.2.1, rI x6.2.2.2.1]), (33, .d false [.sl none (a0.map ePt)]), (34, .p (iV (a0.length : Int))), (35, .p (iV x6.2.2.2.2)), (36, .p (.bool (decide (x6.2.2.2.2 < (a0.length : Int)))))] [] trivial) ?_
   refine k_seq ?_
   refine kc (decide (x6.2.2.2.2 < (a0.length : Int))) (fun hc5_7 => ?_) (fun hc5_7 => ?_)
   ·replace h := ite_t hc5_7 h
    refine k_skip ?_
    refine q_n ?_
    refine k_seq ?_
    refine k_block ?_
    replace h := bs h
    obtain ⟨v9, hv9, h⟩ := h
    refine k_sreg (r_gq [(2, .box [rI 0, rI 0]), (3, .box [rI 0, rI 0]), (5, .box [rI x6.1, rI x6.2.1]), (7, .box [rI x6.2.2.1, rI x6.2.2.2.1]), (9, .box (ePt v9)), (33, .d false [.sl none (a0.map ePt)]), (34, .p (iV (a0.length : Int))), (35, .p (iV x6.2.2.2.2))] [(0, {row := some (ePt v9)})] (A2 (idxO_some hv9).1 (map_get ePt (idxO_some hv9).2))) ?_
    replace h := bs h
    obtain ⟨v10, hv10, h⟩ := h
    refine k_sreg (r_gq [(2, .box [rI 0, rI 0]), (3, .box [rI 0, rI 0]), (5, .box [rI x6.1, rI x6.2.1]), (7, .box [rI x6.2.2.1, rI x6.2.2.2.1]), (10, .box (eRt v10.1)), (33, .d false [.sl none (a0.map ePt)]), (34, .p (iV (a0.length : Int))), (35, .p (iV x6.2.2.2.2))] [(4, {call := some (none, [.p (vRt v10.1), .p (.bool v10.2)], true)})] (A1 (wk_spec_raSub hv10))) ?_
    replace h := bs h
    obtain ⟨v11, hv11, h⟩ := h
    refine k_sreg (r_gq [(2, .box [rI 0, rI 0]), (3, .box [rI 0, rI 0]), (5, .box (eRt v11)), (7, .box [rI x6.2.2.1, rI x6.2.2.2.1]), (10, .box (eRt v10.1)), (33, .d false [.sl none (a0.map ePt)]), (34, .p (iV (a0.length : Int))), (35, .p (iV x6.2.2.2.2))] [(2, {call := some (none, [.p (vRt v11)], true)})] (A1 (wk_spec_ivLess hv11))) ?_
    replace h := bs h
    obtain ⟨v12, hv12, h⟩ := h
    refine k_reg (r_gq [(2, .box [rI 0, rI 0]), (3, .box [rI 0, rI 0]), (5, .box (eRt v11)), (7, .box (eRt v12)), (33, .d false [.sl none (a0.map ePt)]), (34, .p (iV (a0.length : Int))), (35, .p (iV x6.2.2.2.2))] [(2, {call := some (none, [.p (vRt v12)], true)})] (A1 (wk_spec_ivGreater hv12))) ?_
    refine b_n ?_
    refine q_n ?_
    refine k_reg (r_gq [(2, .box [rI 0, rI 0]), (3, .box [rI 0, rI 0]), (5, .box (eRt v11)), (7, .box (eRt v12)), (33, .d false [.sl none (a0.map ePt)]), (34, .p (iV (a0.length : Int))), (35, .p (iV (w64 (x6.2.2.2.2 + 1))))] [] trivial) ?_
    exact lqn (v11.1, v11.2, v12.1, v12.2, (w64 (x6.2.2.2.2 + 1))) h
   ·replace h := ite_f hc5_7 h
    refine k_exit ?_
    refine q_x ?_
    refine lq_x ?_
    refine b_x ?_
    have hyy := hy_x6 _ (oi h).symm
    subst hyy
    have h := hk_x6
    refine q_n ?_
    exact jx (x6.1, x6.2.1, x6.2.2.1, x6.2.2.2.1) h
theorem wk_spec_raTwo {a0 : Qr} {a1 : Qr}  {r : Bool} (h : spec_raTwo a0 a1 = some r) : Meets Tryz.prog 79 [.v (vRt a0), .v (vRt a1)] { vals := [.p (.bool r)] } := by
 refine mo Tryz.func79 [(0, .p (vRt a0)), (1, .p (vRt a1))] ?_
 unfold spec_raTwo at h
 refine k_sreg (r_gq [(2, .box (eRt a0)), (3, .box (eRt a1))] [] trivial) ?_
 replace h := bs h
 obtain ⟨v1, hv1, h⟩ := h
 replace h := bs h
 obtain ⟨w3, hw3, h⟩ := h
 refine k_sreg (l1 := [(4, .p (.bool w3))]) ?_ ?_
 ·clear h
  rcases ft v1 with ha0 | ha0
  ·replace hw3 := ite_t ha0 hw3
   replace hw3 := bs hw3
   obtain ⟨v2, hv2, hw3⟩ := hw3
   have hw3 := oi hw3
   subst hw3
   exact (r_gq [(4, .p (.bool v2))] [(1, {call := some (none, [.p (.bool v1)], true)}), (3, gT), (4, {g := some true, call := some (none, [.p (.bool v2)], true)}), (5, bT)] (A5 (wk_spec_raGood hv1) ha0 ha0 (wk_spec_raGood hv2) ha0))
  ·replace hw3 := ite_f ha0 hw3
   have hw3 := oi hw3
   subst hw3
   exact (r_gq [(4, .p (.bool false))] [(1, {call := some (none, [.p (.bool v1)], true)}), (3, gF), (4, gF), (5, bF)] (A4 (wk_spec_raGood hv1) ha0 ha0 ha0))
 ·refine k_ret ?_
  obtain rfl := oi h
  exact er [(.p (.bool w3), 4)]
theorem wk_spec_AddRats {a0 : Qr} {a1 : Qr}  {r : (Qr × Bool)} (h : spec_AddRats a0 a1 = some r) : Meets Tryz.prog 20 [.v (vRt a0), .v (vRt a1)] { vals := [.p (vRt r.1), .p (.bool r.2)] } := by
 refine mo Tryz.func20 [(0, .p (vRt a0)), (1, .p (vRt a1))] ?_
 unfold spec_AddRats at h
 refine k_sreg (r_gq [(2, .box (eRt a0)), (3, .box (eRt a1)), (4, .box [rI 0, rI 0])] [] trivial) ?_
 refine k_seq ?_
 replace h := bs h
 obtain ⟨v1, hv1, h⟩ := h
 refine k_sreg (r_gq [(2, .box (eRt a0)), (3, .box (eRt a1)), (4, .box [rI 0, rI 0]), (9, .p (.bool (!v1)))] [(2, {call := some (none, [.p (.bool v1)], true)})] (A1 (wk_spec_raTwo hv1))) ?_
 refine kc (!v1) (fun hc2_1 => ?_) (fun hc2_1 => ?_)
 ·replace h := ite_t hc2_1 h
  refine k_sreg (r_gq [(4, .box [rI 0, rI 0]), (5, .p (.bool false))] [] trivial) ?_
  refine k_ret ?_
  refine q_r ?_
  obtain rfl := oi h
  exact er [(.p (.agg #[.int .i64 0, .int .i64 0]), 4), (.p (.bool false), 5)]
 ·replace h := ite_f hc2_1 h
  refine k_skip ?_
  refine q_n ?_
  replace h := bs h
  obtain ⟨v3, hv3, h⟩ := h
  refine k_sreg (r_gq [(4, .box (eRt v3.1)), (5, .p (.bool v3.2))] [(2, {call := some (none, [.p (vRt v3.1), .p (.bool v3.2)], true)})] (A1 (wk_spec_raAdd hv3))) ?_
  refine k_ret ?_
  obtain rfl := oi h
  exact er [(.p (vRt v3.1), 4), (.p (.bool v3.2), 5)]
theorem wk_laws_qUp {a0 : Qr} {a1 : Qr}  {r : Int} (h : laws_qUp a0 a1 = some r) : Meets Tryz.prog 21 [.v (vRt a0), .v (vRt a1)] { vals := [.p (iV r)] } := by
 refine mo Tryz.func21 [(0, .p (vRt a0)), (1, .p (vRt a1))] ?_
 unfold laws_qUp at h
 refine k_sreg (r_gq [(2, .box (eRt a0)), (3, .box (eRt a1))] [] trivial) ?_
 refine k_sreg (r_gq [(5, .p (iV (w64 ((w64 (a0.1 * a1.2)) - (w64 (a1.1 * a0.2))))))] [] trivial) ?_
 refine k_seq ?_
 refine k_block ?_
 refine k_sreg (r_gq [(5, .p (iV (w64 ((w64 (a0.1 * a1.2)) - (w64 (a1.1 * a0.2)))))), (17, .p (.bool (decide ((w64 ((w64 (a0.1 * a1.2)) - (w64 (a1.1 * a0.2)))) < 0))))] [] trivial) ?_
 refine kc (decide ((w64 ((w64 (a0.1 * a1.2)) - (w64 (a1.1 * a0.2)))) < 0)) (fun hc3_0 => ?_) (fun hc3_0 => ?_)
 ·replace h := ite_t hc3_0 h
  refine k_sreg (r_gq [(4, .p (iV (-1)))] [] trivial) ?_
  refine k_ret ?_
  refine b_r ?_
  refine q_r ?_
  obtain rfl := oi h
  exact er [(.p (iV (-1)), 4)]
 ·replace h := ite_f hc3_0 h
  refine k_sreg (r_gq [(20, .p (.bool (decide ((w64 ((w64 (a0.1 * a1.2)) - (w64 (a1.1 * a0.2)))) > 0))))] [] trivial) ?_
  refine kc (decide ((w64 ((w64 (a0.1 * a1.2)) - (w64 (a1.1 * a0.2)))) > 0)) (fun hc3_1 => ?_) (fun hc3_1 => ?_)
  ·replace h := ite_t hc3_1 h
   refine k_sreg (r_gq [(4, .p (iV 1))] [] trivial) ?_
   refine k_ret ?_
   refine b_r ?_
   refine q_r ?_
   obtain rfl := oi h
   exact er [(.p (iV 1), 4)]
  ·replace h := ite_f hc3_1 h
   refine k_skip ?_
   refine b_n ?_
   refine q_n ?_
   refine k_sreg (r_gq [(4, .p (iV 0))] [] trivial) ?_
   refine k_ret ?_
   obtain rfl := oi h
   exact er [(.p (iV 0), 4)]
theorem wk_laws_FnLiftOrbits {a0 : (List Int)} {a1 : (List Int)}  {r : Bool} (h : laws_FnLiftOrbits a0 a1 = some r) : Meets Tryz.prog 3 [.d false [.sl none (a0.map (eU .u8))], .d false [.sl none (a1.map (eU .u8))]] { vals := [.p (.bool r)] } := by
 refine mo Tryz.func3 [(0, .d false [.sl none (a0.map (eU .u8))]), (1, .d false [.sl none (a1.map (eU .u8))])] ?_
 unfold laws_FnLiftOrbits at h
 refine k_sreg (r_gq [(0, .d false [.sl none (a0.map (eU .u8))]), (1, .d false [.sl none (a1.map (eU .u8))])] [] trivial) ?_
 refine k_seq ?_
 refine k_sreg (r_gq [(0, .d false [.sl none (a0.map (eU .u8))]), (1, .d false [.sl none (a1.map (eU .u8))]), (55, .p (.bool (decide ((w64 ((a0.length : Int) + (a1.length : Int))) > 1048576))))] [(1, {n := some a0.length}), (3, {n := some a1.length})] (A2 (show (a0.map (eU .u8)).length = a0.length from (List.length_map ..)) (show (a1.map (eU .u8)).length = a1.length from (List.length_map ..)))) ?_
 refine kc (decide ((w64 ((a0.length : Int) + (a1.length : Int))) > 1048576)) (fun hc2_0 => ?_) (fun hc2_0 => ?_)
 ·replace h := ite_t hc2_0 h
  refine k_sreg (r_gq [(4, .p (.bool true))] [] trivial) ?_
  refine k_ret ?_
  refine q_r ?_
  obtain rfl := oi h
  exact er [(.p (.bool true), 4)]
 ·replace h := ite_f hc2_0 h
  refine k_skip ?_
  refine q_n ?_
  replace h := bs h
  obtain ⟨v2, hv2, h⟩ := h
  refine k_sreg (r_gq [(1, .d false [.sl none (a1.map (eU .u8))]), (5, .box [.sl (some 85) (v2.1.map ePt)]), (6, .box (eRt v2.2.1)), (7, .p (iV v2.2.2))] [(1, {call := some (none, [.ov true [.sl (some 85) (v2.1.map ePt)], .p (vRt v2.2.1), .p (iV v2.2.2)], true)})] (A2 (wk_spec_DrawLiftOrbit hv2) (show List.all [.ov true [.sl (some 85) (v2.1.map ePt)], .p (vRt v2.2.1), .p (iV v2.2.2)] simpleR = true from (sa_o (wnR1 (wnL_enc (wn_P (wn_P wn_I wn_I) (wn_P wn_I wn_I))) rfl) (sa_p (sa_p rfl)))))) ?_
  replace h := bs h
  obtain ⟨v3, hv3, h⟩ := h
  refine k_sreg (r_gq [(1, .d false [.sl none (a1.map (eU .u8))]), (5, .box [.sl (some 85) (v2.1.map ePt)]), (6, .box (eRt v2.2.1)), (7, .p (iV v2.2.2)), (8, .ov false [.sl (some 27) (v3.1.map eRt)]), (9, .p (.bool v3.2))] [(3, {call := some (some [.d true [.sl none (v2.1.map ePt)], .v (vRt v2.2.1), wI v2.2.2], [.ov false [.sl (some 27) (v3.1.map eRt)], .p (.bool v3.2)], true)})] (A4 (show frR [.sl (some 85) (v2.1.map ePt)] = false from rfl) (show ([.d true [.sl none (eraL (v2.1.map ePt))], .v (vRt v2.2.1), wI v2.2.2] : List Arg) = [.d true [.sl none (v2.1.map ePt)], .v (vRt v2.2.1), wI v2.2.2] from (by simp only [eraL_enc (h := ePt) (era_P (era_P er_I er_I) (era_P er_I er_I))])) (wk_impl_LiftOrbit hv3) (show List.all [.ov false [.sl (some 27) (v3.1.map eRt)], .p (.bool v3.2)] simpleR = true from (sa_o (wnR1 (wnL_enc (wn_P wn_I wn_I)) rfl) (sa_p rfl))))) ?_
  replace h := bs h
  obtain ⟨v4, hv4, h⟩ := h
  refine k_sreg (r_gq [(1, .d false [.sl none (a1.map (eU .u8))]), (5, .box [.sl (some 85) (v2.1.map ePt)]), (6, .box (eRt v2.2.1)), (7, .p (iV v2.2.2)), (8, .ov false [.sl (some 27) (v3.1.map eRt)]), (9, .p (.bool v3.2)), (10, .ov false [.sl (some 27) (v4.1.map eRt)]), (11, .p (.bool v4.2))] [(3, {call := some (some [.d true [.sl none (v2.1.map ePt)], .v (vRt v2.2.1), wI v2.2.2], [.ov false [.sl (some 27) (v4.1.map eRt)], .p (.bool v4.2)], true)})] (A4 (show frR [.sl (some 85) (v2.1.map ePt)] = false from rfl) (show ([.d true [.sl none (eraL (v2.1.map ePt))], .v (vRt v2.2.1), wI v2.2.2] : List Arg) = [.d true [.sl none (v2.1.map ePt)], .v (vRt v2.2.1), wI v2.2.2] from (by simp only [eraL_enc (h := ePt) (era_P (era_P er_I er_I) (era_P er_I er_I))])) (wk_spec_LiftOrbit hv4) (show List.all [.ov false [.sl (some 27) (v4.1.map eRt)], .p (.bool v4.2)] simpleR = true from (sa_o (wnR1 (wnL_enc (wn_P wn_I wn_I)) rfl) (sa_p rfl))))) ?_
  replace h := bs h
  obtain ⟨v5, hv5, h⟩ := h
  refine k_sreg (r_gq [(1, .d false [.sl none (a1.map (eU .u8))]), (5, .box [.sl (some 85) (v2.1.map ePt)]), (6, .box (eRt v2.2.1)), (7, .p (iV v2.2.2)), (8, .ov false [.sl (some 27) (v3.1.map eRt)]), (9, .p (.bool v3.2)), (10, .ov false [.sl (some 27) (v4.1.map eRt)]), (11, .p (.bool v4.2)), (12, .box [.sl (some 85) (v5.1.map ePt)]), (13, .box (eRt v5.2.1)), (14, .p (iV v5.2.2))] [(1, {call := some (none, [.ov true [.sl (some 85) (v5.1.map ePt)], .p (vRt v5.2.1), .p (iV v5.2.2)], true)})] (A2 (wk_spec_DrawLiftCycle hv5) (show List.all [.ov true [.sl (some 85) (v5.1.map ePt)], .p (vRt v5.2.1), .p (iV v5.2.2)] simpleR = true from (sa_o (wnR1 (wnL_enc (wn_P (wn_P wn_I wn_I) (wn_P wn_I wn_I))) rfl) (sa_p (sa_p rfl)))))) ?_
  replace h := bs h
  obtain ⟨v6, hv6, h⟩ := h
  refine k_sreg (r_gq [(1, .d false [.sl none (a1.map (eU .u8))]), (5, .box [.sl (some 85) (v2.1.map ePt)]), (6, .box (eRt v2.2.1)), (7, .p (iV v2.2.2)), (8, .ov false [.sl (some 27) (v3.1.map eRt)]), (9, .p (.bool v3.2)), (10, .ov false [.sl (some 27) (v4.1.map eRt)]), (11, .p (.bool v4.2)), (12, .box [.sl (some 85) (v5.1.map ePt)]), (13, .box (eRt v5.2.1)), (14, .p (iV v5.2.2)), (15, .p (iV v6.1)), (16, .p (.bool v6.2))] [(3, {call := some (some [.d true [.sl none (v5.1.map ePt)], .v (vRt v5.2.1), wI v5.2.2], [.p (iV v6.1), .p (.bool v6.2)], true)})] (A3 (show frR [.sl (some 85) (v5.1.map ePt)] = false from rfl) (show ([.d true [.sl none (eraL (v5.1.map ePt))], .v (vRt v5.2.1), wI v5.2.2] : List Arg) = [.d true [.sl none (v5.1.map ePt)], .v (vRt v5.2.1), wI v5.2.2] from (by simp only [eraL_enc (h := ePt) (era_P (era_P er_I er_I) (era_P er_I er_I))])) (wk_impl_LiftCycle hv6))) ?_
  replace h := bs h
  obtain ⟨v7, hv7, h⟩ := h
  refine k_sreg (r_gq [(1, .d false [.sl none (a1.map (eU .u8))]), (5, .box [.sl (some 85) (v2.1.map ePt)]), (6, .box (eRt v2.2.1)), (7, .p (iV v2.2.2)), (8, .ov false [.sl (some 27) (v3.1.map eRt)]), (9, .p (.bool v3.2)), (10, .ov false [.sl (some 27) (v4.1.map eRt)]), (11, .p (.bool v4.2)), (12, .box [.sl (some 85) (v5.1.map ePt)]), (13, .box (eRt v5.2.1)), (14, .p (iV v5.2.2)), (15, .p (iV v6.1)), (16, .p (.bool v6.2)), (17, .p (iV v7.1)), (18, .p (.bool v7.2))] [(3, {call := some (some [.d true [.sl none (v5.1.map ePt)], .v (vRt v5.2.1), wI v5.2.2], [.p (iV v7.1), .p (.bool v7.2)], true)})] (A3 (show frR [.sl (some 85) (v5.1.map ePt)] = false from rfl) (show ([.d true [.sl none (eraL (v5.1.map ePt))], .v (vRt v5.2.1), wI v5.2.2] : List Arg) = [.d true [.sl none (v5.1.map ePt)], .v (vRt v5.2.1), wI v5.2.2] from (by simp only [eraL_enc (h := ePt) (era_P (era_P er_I er_I) (era_P er_I er_I))])) (wk_spec_LiftCycle hv7))) ?_
  replace h := bs h
  obtain ⟨v8, hv8, h⟩ := h
  refine k_sreg (r_gq [(5, .box [.sl (some 85) (v2.1.map ePt)]), (6, .box (eRt v2.2.1)), (7, .p (iV v2.2.2)), (8, .ov false [.sl (some 27) (v3.1.map eRt)]), (9, .p (.bool v3.2)), (10, .ov false [.sl (some 27) (v4.1.map eRt)]), (11, .p (.bool v4.2)), (12, .box [.sl (some 85) (v5.1.map ePt)]), (13, .box (eRt v5.2.1)), (14, .p (iV v5.2.2)), (15, .p (iV v6.1)), (16, .p (.bool v6.2)), (17, .p (iV v7.1)), (18, .p (.bool v7.2)), (19, .box [.sl (some 85) (v8.1.map ePt)]), (20, .box (eRt v8.2))] [(1, {call := some (none, [.ov true [.sl (some 85) (v8.1.map ePt)], .p (vRt v8.2)], true)})] (A2 (wk_spec_DrawTurnLift hv8) (show List.all [.ov true [.sl (some 85) (v8.1.map ePt)], .p (vRt v8.2)] simpleR = true from (sa_o (wnR1 (wnL_enc (wn_P (wn_P wn_I wn_I) (wn_P wn_I wn_I))) rfl) (sa_p rfl))))) ?_
  replace h := bs h
  obtain ⟨v9, hv9, h⟩ := h
  refine k_sreg (r_gq [(5, .box [.sl (some 85) (v2.1.map ePt)]), (6, .box (eRt v2.2.1)), (7, .p (iV v2.2.2)), (8, .ov false [.sl (some 27) (v3.1.map eRt)]), (9, .p (.bool v3.2)), (10, .ov false [.sl (some 27) (v4.1.map eRt)]), (11, .p (.bool v4.2)), (12, .box [.sl (some 85) (v5.1.map ePt)]), (13, .box (eRt v5.2.1)), (14, .p (iV v5.2.2)), (15, .p (iV v6.1)), (16, .p (.bool v6.2)), (17, .p (iV v7.1)), (18, .p (.bool v7.2)), (19, .box [.sl (some 85) (v8.1.map ePt)]), (20, .box (eRt v8.2)), (21, .box [.sl (some 85) (v9.1.map ePt)]), (22, .p (.bool v9.2))] [(2, {call := some (some [.d true [.sl none (v8.1.map ePt)], .v (vRt v8.2)], [.ov true [.sl (some 85) (v9.1.map ePt)], .p (.bool v9.2)], true)})] (A4 (show frR [.sl (some 85) (v8.1.map ePt)] = false from rfl) (show ([.d true [.sl none (eraL (v8.1.map ePt))], .v (vRt v8.2)] : List Arg) = [.d true [.sl none (v8.1.map ePt)], .v (vRt v8.2)] from (by simp only [eraL_enc (h := ePt) (era_P (era_P er_I er_I) (era_P er_I er_I))])) (wk_impl_TurnLift hv9) (show List.all [.ov true [.sl (some 85) (v9.1.map ePt)], .p (.bool v9.2)] simpleR = true from (sa_o (wnR1 (wnL_enc (wn_P (wn_P wn_I wn_I) (wn_P wn_I wn_I))) rfl) (sa_p rfl))))) ?_
  replace h := bs h
  obtain ⟨v10, hv10, h⟩ := h
  refine k_sreg (r_gq [(5, .box [.sl (some 85) (v2.1.map ePt)]), (6, .box (eRt v2.2.1)), (7, .p (iV v2.2.2)), (8, .ov false [.sl (some 27) (v3.1.map eRt)]), (9, .p (.bool v3.2)), (10, .ov false [.sl (some 27) (v4.1.map eRt)]), (11, .p (.bool v4.2)), (12, .box [.sl (some 85) (v5.1.map ePt)]), (13, .box (eRt v5.2.1)), (14, .p (iV v5.2.2)), (15, .p (iV v6.1)), (16, .p (.bool v6.2)), (17, .p (iV v7.1)), (18, .p (.bool v7.2)), (19, .box [.sl none (v8.1.map ePt)]), (20, .box (eRt v8.2)), (21, .box [.sl (some 85) (v9.1.map ePt)]), (22, .p (.bool v9.2)), (23, .box [.sl none (v10.1.map ePt)]), (24, .p (.bool v10.2))] [(2, {call := some (some [.d true [.sl none (v8.1.map ePt)], .v (vRt v8.2)], [.ov true [.sl none (v10.1.map ePt)], .p (.bool v10.2)], false), fix := some (19, .box [.sl none (v8.1.map ePt)])})] (A4 (show frR [.sl (some 85) (v8.1.map ePt)] = false from rfl) (show ([.d true [.sl none (eraL (v8.1.map ePt))], .v (vRt v8.2)] : List Arg) = [.d true [.sl none (v8.1.map ePt)], .v (vRt v8.2)] from (by simp only [eraL_enc (h := ePt) (era_P (era_P er_I er_I) (era_P er_I er_I))])) (wk_spec_TurnLift hv10) (show (SV.box (eraR [.sl (some 85) (v8.1.map ePt)]) : SV) = .box [.sl none (v8.1.map ePt)] from (congrArg (fun z => SV.box z) (erc_sl (eraL_enc (era_P (era_P er_I er_I) (era_P er_I er_I))) rfl))))) ?_
  refine k_seq ?_
  replace h := bs h
  obtain ⟨w13, hw13, h⟩ := h
  refine k_sreg (l1 := [(5, .box [.sl (some 85) (v2.1.map ePt)]), (6, .box (eRt v2.2.1)), (7, .p (iV v2.2.2)), (9, .p (.bool v3.2)), (10, .ov false [.sl (some 27) (v4.1.map eRt)]), (12, .box [.sl (some 85) (v5.1.map ePt)]), (13, .box (eRt v5.2.1)), (14, .p (iV v5.2.2)), (16, .p (.bool v6.2)), (17, .p (iV v7.1)), (19, .box [.sl none (v8.1.map ePt)]), (20, .box (eRt v8.2)), (21, .box [.sl (some 85) (v9.1.map ePt)]), (22, .p (.bool v9.2)), (144, .p (.bool w13))]) ?_ ?_
  ·clear h
   rcases ft (!(v3.2 == v4.2)) with ha1 | ha1
   ·replace hw13 := ite_t ha1 hw13
    have hw13 := oi hw13
    subst hw13
    exact (r_gq [(5, .box [.sl (some 85) (v2.1.map ePt)]), (6, .box (eRt v2.2.1)), (7, .p (iV v2.2.2)), (9, .p (.bool v3.2)), (10, .ov false [.sl (some 27) (v4.1.map eRt)]), (12, .box [.sl (some 85) (v5.1.map ePt)]), (13, .box (eRt v5.2.1)), (14, .p (iV v5.2.2)), (16, .p (.bool v6.2)), (17, .p (iV v7.1)), (19, .box [.sl none (v8.1.map ePt)]), (20, .box (eRt v8.2)), (21, .box [.sl (some 85) (v9.1.map ePt)]), (22, .p (.bool v9.2)), (144, .p (.bool true))] [(4, gT), (5, gT), (6, gT), (7, gT), (8, bT), (10, gT), (11, gT), (12, gT), (13, bT), (15, gT), (16, gT), (17, gT), (18, bT), (20, gT), (21, gT), (22, gT), (23, bT), (25, gT), (26, gT), (27, gT), (28, gT), (29, gT), (30, gT), (31, bT)] (B6 ha1 ha1 ha1 ha1 ha1 (show true = true from rfl) (B6 (show true = true from rfl) (show true = true from rfl) (show true = true from rfl) (show true = true from rfl) (show true = true from rfl) (show true = true from rfl) (B6 (show true = true from rfl) (show true = true from rfl) (show true = true from rfl) (show true = true from rfl) (show true = true from rfl) (show true = true from rfl) (A6 (show true = true from rfl) (show true = true from rfl) (show true = true from rfl) (show true = true from rfl) (show true = true from rfl) (show true = true from rfl))))))
   ·replace hw13 := ite_f ha1 hw13
    replace hw13 := bs hw13
    obtain ⟨v11, hv11, hw13⟩ := hw13
    rcases ft (!v11) with ha2 | ha2
    ·replace hw13 := ite_t ha2 hw13
     have hw13 := oi hw13
     subst hw13
     exact (r_gq [(5, .box [.sl (some 85) (v2.1.map ePt)]), (6, .box (eRt v2.2.1)), (7, .p (iV v2.2.2)), (9, .p (.bool v3.2)), (10, .ov false [.sl (some 27) (v4.1.map eRt)]), (12, .box [.sl (some 85) (v5.1.map ePt)]), (13, .box (eRt v5.2.1)), (14, .p (iV v5.2.2)), (16, .p (.bool v6.2)), (17, .p (iV v7.1)), (19, .box [.sl none (v8.1.map ePt)]), (20, .box (eRt v8.2)), (21, .box [.sl (some 85) (v9.1.map ePt)]), (22, .p (.bool v9.2)), (144, .p (.bool true))] [(4, gF), (5, gF), (6, {g := some false, call := some (some [.d false [.sl none (v3.1.map eRt)], .d false [.sl none (v4.1.map eRt)]], [.p (.bool v11)], true)}), (7, gF), (8, bF), (10, gT), (11, gT), (12, gT), (13, bT), (15, gT), (16, gT), (17, gT), (18, bT), (20, gT), (21, gT), (22, gT), (23, bT), (25, gT), (26, gT), (27, gT), (28, gT), (29, gT), (30, gT), (31, bT)] (B6 ha1 ha1 ha1 (show ([.d false [.sl none (eraL (v3.1.map eRt))], .d false [.sl none (eraL (v4.1.map eRt))]] : List Arg) = [.d false [.sl none (v3.1.map eRt)], .d false [.sl none (v4.1.map eRt)]] from (by simp only [eraL_enc (h := eRt) (era_P er_I er_I), eraL_enc (h := eRt) (era_P er_I er_I)])) (wk_laws_qRats hv11) ha1 (B6 ha1 ha2 ha2 ha2 ha2 (show true = true from rfl) (B6 (show true = true from rfl) (show true = true from rfl) (show true = true from rfl) (show true = true from rfl) (show true = true from rfl) (show true = true from rfl) (B6 (show true = true from rfl) (show true = true from rfl) (show true = true from rfl) (show true = true from rfl) (show true = true from rfl) (show true = true from rfl) (A2 (show true = true from rfl) (show true = true from rfl)))))))
    ·replace hw13 := ite_f ha2 hw13
     rcases ft (!(v6.2 == v7.2)) with ha3 | ha3
     ·replace hw13 := ite_t ha3 hw13
      have hw13 := oi hw13
      subst hw13
      exact (r_gq [(5, .box [.sl (some 85) (v2.1.map ePt)]), (6, .box (eRt v2.2.1)), (7, .p (iV v2.2.2)), (9, .p (.bool v3.2)), (10, .ov false [.sl (some 27) (v4.1.map eRt)]), (12, .box [.sl (some 85) (v5.1.map ePt)]), (13, .box (eRt v5.2.1)), (14, .p (iV v5.2.2)), (16, .p (.bool v6.2)), (17, .p (iV v7.1)), (19, .box [.sl none (v8.1.map ePt)]), (20, .box (eRt v8.2)), (21, .box [.sl (some 85) (v9.1.map ePt)]), (22, .p (.bool v9.2)), (144, .p (.bool true))] [(4, gF), (5, gF), (6, {g := some false, call := some (some [.d false [.sl none (v3.1.map eRt)], .d false [.sl none (v4.1.map eRt)]], [.p (.bool v11)], true)}), (7, gF), (8, bF), (10, gF), (11, gF), (12, gF), (13, bF), (15, gT), (16, gT), (17, gT), (18, bT), (20, gT), (21, gT), (22, gT), (23, bT), (25, gT), (26, gT), (27, gT), (28, gT), (29, gT), (30, gT), (31, bT)] (B6 ha1 ha1 ha1 (show ([.d false [.sl none (eraL (v3.1.map eRt))], .d false [.sl none (eraL (v4.1.map eRt))]] : List Arg) = [.d false [.sl none (v3.1.map eRt)], .d false [.sl none (v4.1.map eRt)]] from (by simp only [eraL_enc (h := eRt) (era_P er_I er_I), eraL_enc (h := eRt) (era_P er_I er_I)])) (wk_laws_qRats hv11) ha1 (B6 ha1 ha2 ha2 ha2 ha2 ha3 (B6 ha3 ha3 ha3 (show true = true from rfl) (show true = true from rfl) (show true = true from rfl) (B6 (show true = true from rfl) (show true = true from rfl) (show true = true from rfl) (show true = true from rfl) (show true = true from rfl) (show true = true from rfl) (A2 (show true = true from rfl) (show true = true from rfl)))))))
     ·replace hw13 := ite_f ha3 hw13
      rcases ft (v6.1 != v7.1) with ha4 | ha4
      ·replace hw13 := ite_t ha4 hw13
       have hw13 := oi hw13
       subst hw13
       exact (r_gq [(5, .box [.sl (some 85) (v2.1.map ePt)]), (6, .box (eRt v2.2.1)), (7, .p (iV v2.2.2)), (9, .p (.bool v3.2)), (10, .ov false [.sl (some 27) (v4.1.map eRt)]), (12, .box [.sl (some 85) (v5.1.map ePt)]), (13, .box (eRt v5.2.1)), (14, .p (iV v5.2.2)), (16, .p (.bool v6.2)), (17, .p (iV v7.1)), (19, .box [.sl none (v8.1.map ePt)]), (20, .box (eRt v8.2)), (21, .box [.sl (some 85) (v9.1.map ePt)]), (22, .p (.bool v9.2)), (144, .p (.bool true))] [(4, gF), (5, gF), (6, {g := some false, call := some (some [.d false [.sl none (v3.1.map eRt)], .d false [.sl none (v4.1.map eRt)]], [.p (.bool v11)], true)}), (7, gF), (8, bF), (10, gF), (11, gF), (12, gF), (13, bF), (15, gF), (16, gF), (17, gF), (18, bF), (20, gT), (21, gT), (22, gT), (23, bT), (25, gT), (26, gT), (27, gT), (28, gT), (29, gT), (30, gT), (31, bT)] (B6 ha1 ha1 ha1 (show ([.d false [.sl none (eraL (v3.1.map eRt))], .d false [.sl none (eraL (v4.1.map eRt))]] : List Arg) = [.d false [.sl none (v3.1.map eRt)], .d false [.sl none (v4.1.map eRt)]] from (by simp only [eraL_enc (h := eRt) (era_P er_I er_I), eraL_enc (h := eRt) (era_P er_I er_I)])) (wk_laws_qRats hv11) ha1 (B6 ha1 ha2 ha2 ha2 ha2 ha3 (B6 ha3 ha3 ha3 ha4 ha4 ha4 (B6 ha4 (show true = true from rfl) (show true = true from rfl) (show true = true from rfl) (show true = true from rfl) (show true = true from rfl) (A2 (show true = true from rfl) (show true = true from rfl)))))))
      ·replace hw13 := ite_f ha4 hw13
       rcases ft (!(v9.2 == v10.2)) with ha5 | ha5
       ·replace hw13 := ite_t ha5 hw13
        have hw13 := oi hw13
        subst hw13
        exact (r_gq [(5, .box [.sl (some 85) (v2.1.map ePt)]), (6, .box (eRt v2.2.1)), (7, .p (iV v2.2.2)), (9, .p (.bool v3.2)), (10, .ov false [.sl (some 27) (v4.1.map eRt)]), (12, .box [.sl (some 85) (v5.1.map ePt)]), (13, .box (eRt v5.2.1)), (14, .p (iV v5.2.2)), (16, .p (.bool v6.2)), (17, .p (iV v7.1)), (19, .box [.sl none (v8.1.map ePt)]), (20, .box (eRt v8.2)), (21, .box [.sl (some 85) (v9.1.map ePt)]), (22, .p (.bool v9.2)), (144, .p (.bool true))] [(4, gF), (5, gF), (6, {g := some false, call := some (some [.d false [.sl none (v3.1.map eRt)], .d false [.sl none (v4.1.map eRt)]], [.p (.bool v11)], true)}), (7, gF), (8, bF), (10, gF), (11, gF), (12, gF), (13, bF), (15, gF), (16, gF), (17, gF), (18, bF), (20, gF), (21, gF), (22, gF), (23, bF), (25, gT), (26, gT), (27, gT), (28, gT), (29, gT), (30, gT), (31, bT)] (B6 ha1 ha1 ha1 (show ([.d false [.sl none (eraL (v3.1.map eRt))], .d false [.sl none (eraL (v4.1.map eRt))]] : List Arg) = [.d false [.sl none (v3.1.map eRt)], .d false [.sl none (v4.1.map eRt)]] from (by simp only [eraL_enc (h := eRt) (era_P er_I er_I), eraL_enc (h := eRt) (era_P er_I er_I)])) (wk_laws_qRats hv11) ha1 (B6 ha1 ha2 ha2 ha2 ha2 ha3 (B6 ha3 ha3 ha3 ha4 ha4 ha4 (B6 ha4 ha5 ha5 ha5 ha5 ha5 (A2 ha5 ha5))))))
       ·replace hw13 := ite_f ha5 hw13
        replace hw13 := bs hw13
        obtain ⟨v12, hv12, hw13⟩ := hw13
        have hw13 := oi hw13
        subst hw13
        exact (r_gq [(5, .box [.sl (some 85) (v2.1.map ePt)]), (6, .box (eRt v2.2.1)), (7, .p (iV v2.2.2)), (9, .p (.bool v3.2)), (10, .ov false [.sl (some 27) (v4.1.map eRt)]), (12, .box [.sl (some 85) (v5.1.map ePt)]), (13, .box (eRt v5.2.1)), (14, .p (iV v5.2.2)), (16, .p (.bool v6.2)), (17, .p (iV v7.1)), (19, .box [.sl none (v8.1.map ePt)]), (20, .box (eRt v8.2)), (21, .box [.sl (some 85) (v9.1.map ePt)]), (22, .p (.bool v9.2)), (144, .p (.bool (!v12)))] [(4, gF), (5, gF), (6, {g := some false, call := some (some [.d false [.sl none (v3.1.map eRt)], .d false [.sl none (v4.1.map eRt)]], [.p (.bool v11)], true)}), (7, gF), (8, bF), (10, gF), (11, gF), (12, gF), (13, bF), (15, gF), (16, gF), (17, gF), (18, bF), (20, gF), (21, gF), (22, gF), (23, bF), (25, gF), (26, gF), (27, gF), (28, {g := some false, b := some true}), (29, {g := some false, call := some (some [.d false [.sl none (v9.1.map ePt)], .d false [.sl none (v10.1.map ePt)]], [.p (.bool v12)], true)}), (30, gF), (31, bF)] (B6 ha1 ha1 ha1 (show ([.d false [.sl none (eraL (v3.1.map eRt))], .d false [.sl none (eraL (v4.1.map eRt))]] : List Arg) = [.d false [.sl none (v3.1.map eRt)], .d false [.sl none (v4.1.map eRt)]] from (by simp only [eraL_enc (h := eRt) (era_P er_I er_I), eraL_enc (h := eRt) (era_P er_I er_I)])) (wk_laws_qRats hv11) ha1 (B6 ha1 ha2 ha2 ha2 ha2 ha3 (B6 ha3 ha3 ha3 ha4 ha4 ha4 (B6 ha4 ha5 ha5 (show frR [.sl (some 85) (v9.1.map ePt)] = false from rfl) ha5 ha5 (A6 (show frR [.sl none (v10.1.map ePt)] = true from (frR1 (frL_enc (fr_P (fr_P fr_I fr_I) (fr_P fr_I fr_I))) rfl)) ha5 (show ([.d false [.sl none (eraL (v9.1.map ePt))], .d false [.sl none (v10.1.map ePt)]] : List Arg) = [.d false [.sl none (v9.1.map ePt)], .d false [.sl none (v10.1.map ePt)]] from (by simp only [eraL_enc (h := ePt) (era_P (era_P er_I er_I) (era_P er_I er_I))])) (wk_laws_qMap hv12) ha5 ha5))))))
  ·refine kc w13 (fun hc2_13 => ?_) (fun hc2_13 => ?_)
   ·replace h := ite_t hc2_13 h
    refine k_sreg (r_gq [(4, .p (.bool false))] [] trivial) ?_
    refine k_ret ?_
    refine q_r ?_
    obtain rfl := oi h
    exact er [(.p (.bool false), 4)]
   ·replace h := ite_f hc2_13 h
    refine k_skip ?_
    refine q_n ?_
    refine k_join (J := fun (x : Unit) => [(5, .box [.sl (some 85) (v2.1.map ePt)]), (6, .box (eRt v2.2.1)), (7, .p (iV v2.2.2)), (9, .p (.bool v3.2)), (10, .ov false [.sl (some 27) (v4.1.map eRt)]), (19, .box [.sl none (v8.1.map ePt)]), (20, .box (eRt v8.2)), (21, .box [.sl (some 85) (v9.1.map ePt)]), (22, .p (.bool v9.2))]) (K := fun x => laws_FnLiftOrbits_k1 v2 v3 v4 v8 v9 x = some r) (fun x15 h => ?_) ?_
    ·unfold laws_FnLiftOrbits_k1 at h
     refine k_join (J := fun (x : Unit) => [(5, .box [.sl (some 85) (v2.1.map ePt)]), (6, .box (eRt v2.2.1)), (7, .p (iV v2.2.2)), (9, .p (.bool v3.2)), (10, .ov false [.sl (some 27) (v4.1.map eRt)])]) (K := fun x => laws_FnLiftOrbits_k2 v2 v3 v4 x = some r) (fun x16 h => ?_) ?_
     ·unfold laws_FnLiftOrbits_k2 at h
      refine k_seq ?_
      refine k_sreg (r_gq [(5, .box [.sl (some 85) (v2.1.map ePt)]), (6, .box (eRt v2.2.1)), (7, .p (iV v2.2.2)), (10, .ov false [.sl (some 27) (v4.1.map eRt)]), (288, .p (.bool (!v3.2)))] [] trivial) ?_
      refine kc (!v3.2) (fun hc2_16 => ?_) (fun hc2_16 => ?_)
      ·replace h := ite_t hc2_16 h
       refine k_sreg (r_gq [(4, .p (.bool true))] [] trivial) ?_
       refine k_ret ?_
       refine q_r ?_
       obtain rfl := oi h
       exact er [(.p (.bool true), 4)]
      ·replace h := ite_f hc2_16 h
       refine k_skip ?_
       refine q_n ?_
       refine k_seq ?_
       replace h := bs h
       obtain ⟨w19, hw19, h⟩ := h
       refine k_sreg (l1 := [(5, .box [.sl (some 85) (v2.1.map ePt)]), (6, .box (eRt v2.2.1)), (7, .p (iV v2.2.2)), (10, .ov false [.sl (some 27) (v4.1.map eRt)]), (300, .p (.bool w19))]) ?_ ?_
       ·clear h
        rcases ft ((v4.1.length : Int) != (w64 (v2.2.2 + 1))) with ha3 | ha3
        ·replace hw19 := ite_t ha3 hw19
         have hw19 := oi hw19
         subst hw19
         exact (r_dq Tryz_mixed 10 [] [(5, .box [.sl (some 85) (v2.1.map ePt)]), (6, .box (eRt v2.2.1)), (7, .p (iV v2.2.2)), (10, .ov false [.sl (some 27) (v4.1.map eRt)]), (300, .p (.bool true))] [(1, {n := some v4.1.length}), (6, gT), (7, gT), (8, gT), (9, gT), (10, gT), (11, bT)] (B6 (show (v4.1.map eRt).length = v4.1.length from (List.length_map ..)) ha3 ha3 ha3 ha3 ha3 (A1 ha3)))
        ·replace hw19 := ite_f ha3 hw19
         replace hw19 := bs hw19
         obtain ⟨v18, hv18, hw19⟩ := hw19
         have hw19 := oi hw19
         subst hw19
         exact (r_dq Tryz_mixed 10 [] [(5, .box [.sl (some 85) (v2.1.map ePt)]), (6, .box (eRt v2.2.1)), (7, .p (iV v2.2.2)), (10, .ov false [.sl (some 27) (v4.1.map eRt)]), (300, .p (.bool (!((v18.1 == v2.2.1.1) && (v18.2 == v2.2.1.2)))))] [(1, {n := some v4.1.length}), (6, gF), (7, {g := some false, row := some (eRt v18)}), (8, {g := some false, row := some (eRt v18)}), (9, gF), (10, {g := some false, pv := some (.bool (!((v18.1 == v2.2.1.1) && (v18.2 == v2.2.1.2))))}), (11, bF)] (B6 (show (v4.1.map eRt).length = v4.1.length from (List.length_map ..)) ha3 ha3 (idxO_some hv18).1 (map_get eRt (idxO_some hv18).2) ha3 (A5 (show getRow [[.sl (some 27) (v4.1.map eRt)]] [(0, 0), ((Int.toNat 0), 0)] = some (eRt v18) from ((gr0 rfl).trans (gre (map_get eRt (idxO_some hv18).2)))) ha3 ha3 (show PureAt Tryz.prog (.binOp .neq 27 (.tmp 297) (.tmp 298) 27) [vRt v18, vRt v2.2.1] (.bool (!((v18.1 == v2.2.1.1) && (v18.2 == v2.2.1.2)))) from (pure_neq2 (by kernel_rfl))) ha3)))
       ·refine kc w19 (fun hc2_19 => ?_) (fun hc2_19 => ?_)
        ·replace h := ite_t hc2_19 h
         refine k_sreg (r_gq [(4, .p (.bool false))] [] trivial) ?_
         refine k_ret ?_
         refine q_r ?_
         obtain rfl := oi h
         exact er [(.p (.bool false), 4)]
        ·replace h := ite_f hc2_19 h
         refine k_skip ?_
         refine q_n ?_
         replace h := bs h
         obtain ⟨v21, hv21, h⟩ := h
         refine k_sreg (r_gq [(5, .box [.sl (some 85) (v2.1.map ePt)]), (6, .box (eRt v2.2.1)), (7, .p (iV v2.2.2)), (10, .ov false [.sl (some 27) (v4.1.map eRt)]), (44, .ov false [.sl (some 27) (v21.1.map eRt)]), (45, .p (.bool v21.2))] [(3, {call := some (some [.d true [.sl none (v2.1.map ePt)], .v (.agg #[.int .i64 0, .int .i64 1]), wI v2.2.2], [.ov false [.sl (some 27) (v21.1.map eRt)], .p (.bool v21.2)], true)})] (A4 (show frR [.sl (some 85) (v2.1.map ePt)] = false from rfl) (show ([.d true [.sl none (eraL (v2.1.map ePt))], .v (.agg #[.int .i64 0, .int .i64 1]), wI v2.2.2] : List Arg) = [.d true [.sl none (v2.1.map ePt)], .v (.agg #[.int .i64 0, .int .i64 1]), wI v2.2.2] from (by simp only [eraL_enc (h := ePt) (era_P (era_P er_I er_I) (era_P er_I er_I))])) (wk_impl_LiftOrbit hv21) (show List.all [.ov false [.sl (some 27) (v21.1.map eRt)], .p (.bool v21.2)] simpleR = true from (sa_o (wnR1 (wnL_enc (wn_P wn_I wn_I)) rfl) (sa_p rfl))))) ?_
         replace h := bs h
         obtain ⟨v22, hv22, h⟩ := h
         refine k_sreg (r_gq [(6, .box (eRt v2.2.1)), (10, .ov false [.sl (some 27) (v4.1.map eRt)]), (44, .ov false [.sl (some 27) (v21.1.map eRt)]), (45, .p (.bool v21.2)), (46, .ov false [.sl (some 27) (v22.1.map eRt)]), (47, .p (.bool v22.2))] [(3, {call := some (some [.d true [.sl none (v2.1.map ePt)], .v (.agg #[.int .i64 0, .int .i64 1]), wI v2.2.2], [.ov false [.sl (some 27) (v22.1.map eRt)], .p (.bool v22.2)], true)})] (A4 (show frR [.sl (some 85) (v2.1.map ePt)] = false from rfl) (show ([.d true [.sl none (eraL (v2.1.map ePt))], .v (.agg #[.int .i64 0, .int .i64 1]), wI v2.2.2] : List Arg) = [.d true [.sl none (v2.1.map ePt)], .v (.agg #[.int .i64 0, .int .i64 1]), wI v2.2.2] from (by simp only [eraL_enc (h := ePt) (era_P (era_P er_I er_I) (era_P er_I er_I))])) (wk_spec_LiftOrbit hv22) (show List.all [.ov false [.sl (some 27) (v22.1.map eRt)], .p (.bool v22.2)] simpleR = true from (sa_o (wnR1 (wnL_enc (wn_P wn_I wn_I)) rfl) (sa_p rfl))))) ?_
         refine k_seq ?_
         replace h := bs h
         obtain ⟨w24, hw24, h⟩ := h
         refine k_sreg (l1 := [(6, .box (eRt v2.2.1)), (10, .ov false [.sl (some 27) (v4.1.map eRt)]), (46, .ov false [.sl (some 27) (v22.1.map eRt)]), (323, .p (.bool w24))]) ?_ ?_
         ·clear h
          rcases ft (!(v21.2 == v22.2)) with ha4 | ha4
          ·replace hw24 := ite_t ha4 hw24
           have hw24 := oi hw24
           subst hw24
           exact (r_gq [(6, .box (eRt v2.2.1)), (10, .ov false [.sl (some 27) (v4.1.map eRt)]), (46, .ov false [.sl (some 27) (v22.1.map eRt)]), (323, .p (.bool true))] [(4, gT), (5, gT), (6, gT), (7, gT), (8, bT)] (A5 ha4 ha4 ha4 ha4 ha4))
          ·replace hw24 := ite_f ha4 hw24
           replace hw24 := bs hw24
           obtain ⟨v23, hv23, hw24⟩ := hw24
           have hw24 := oi hw24
           subst hw24
           exact (r_gq [(6, .box (eRt v2.2.1)), (10, .ov false [.sl (some 27) (v4.1.map eRt)]), (46, .ov false [.sl (some 27) (v22.1.map eRt)]), (323, .p (.bool (!v23)))] [(4, gF), (5, gF), (6, {g := some false, call := some (some [.d false [.sl none (v21.1.map eRt)], .d false [.sl none (v22.1.map eRt)]], [.p (.bool v23)], true)}), (7, gF), (8, bF)] (B6 ha4 ha4 ha4 (show ([.d false [.sl none (eraL (v21.1.map eRt))], .d false [.sl none (eraL (v22.1.map eRt))]] : List Arg) = [.d false [.sl none (v21.1.map eRt)], .d false [.sl none (v22.1.map eRt)]] from (by simp only [eraL_enc (h := eRt) (era_P er_I er_I), eraL_enc (h := eRt) (era_P er_I er_I)])) (wk_laws_qRats hv23) ha4 (A1 ha4)))
         ·refine kc w24 (fun hc2_24 => ?_) (fun hc2_24 => ?_)
          ·replace h := ite_t hc2_24 h
           refine k_sreg (r_gq [(4, .p (.bool false))] [] trivial) ?_
           refine k_ret ?_
           refine q_r ?_
           obtain rfl := oi h
           exact er [(.p (.bool false), 4)]
          ·replace h := ite_f hc2_24 h
           refine k_skip ?_
           refine q_n ?_
           refine k_join (J := fun (x : Unit) => []) (K := fun x => laws_FnLiftOrbits_k3 x = some r) (fun x26 h => ?_) ?_
           ·unfold laws_FnLiftOrbits_k3 at h
            refine k_sreg (r_gq [(4, .p (.bool true))] [] trivial) ?_
            refine k_ret ?_
            obtain rfl := oi h
            exact er [(.p (.bool true), 4)]
           ·refine k_sreg (r_gq [(6, .box (eRt v2.2.1)), (10, .ov false [.sl (some 27) (v4.1.map eRt)]), (46, .ov false [.sl (some 27) (v22.1.map eRt)]), (324, .ref 46 [(0, 0)] none), (325, .p (iV (v22.1.length : Int))), (326, .p (iV 0))] [(1, {n := some v22.1.length})] (A1 (show (v22.1.map eRt).length = v22.1.length from (List.length_map ..)))) ?_
            refine k_block ?_
            obtain ⟨y28, hl_x27, hk_x27⟩ := bs h
            clear h
            refine k_loop (J := fun (x : Int) => [(6, .box (eRt v2.2.1)), (10, .ov false [.sl (some 27) (v4.1.map eRt)]), (46, .ov false [.sl (some 27) (v22.1.map eRt)]), (324, .ref 46 [(0, 0)] none), (325, .p (iV (v22.1.length : Int))), (326, .p (iV x))]) hl_x27 (wk_of (by kernel_rfl) (by kernel_rfl)) (fun x27 o_x27 h hy_x27 => ?_)
            unfold laws_FnLiftOrbits_b1 at h
            refine k_sreg (r_gq [(6, .box (eRt v2.2.1)), (10, .ov false [.sl (some 27) (v4.1.map eRt)]), (46, .ov false [.sl (some 27) (v22.1.map eRt)]), (324, .ref 46 [(0, 0)] none), (325, .p (iV (v22.1.length : Int))), (326, .p (iV x27)), (327, .p (.bool (decide (x27 < (v22.1.length : Int)))))] [] trivial) ?_
            refine k_seq ?_
            refine kc (decide (x27 < (v22.1.length : Int))) (fun hc5_28 => ?_) (fun hc5_28 => ?_)
            ·replace h := ite_t hc5_28 h
             refine k_skip ?_
             refine q_n ?_
             refine k_seq ?_
             refine k_block ?_
             replace h := bs h
             obtain ⟨v30, hv30, h⟩ := h
             refine k_sreg (r_gq [(6, .box (eRt v2.2.1)), (10, .ov false [.sl (some 27) (v4.1.map eRt)]), (46, .ov false [.sl (some 27) (v22.1.map eRt)]), (48, .p (iV x27)), (49, .box (eRt v30)), (324, .ref 46 [(0, 0)] none), (325, .p (iV (v22.1.length : Int))), (326, .p (iV x27))] [(1, {row := some (eRt v30)}), (2, {row := some (eRt v30)})] (A3 (idxO_some hv30).1 (map_get eRt (idxO_some hv30).2) (show getRow [[.sl (some 27) (v22.1.map eRt)]] [(0, 0), ((Int.toNat x27), 0)] = some (eRt v30) from ((gr0 rfl).trans (gre (map_get eRt (idxO_some hv30).2)))))) ?_
             replace h := bs h
             obtain ⟨v31, hv31, h⟩ := h
             replace h := bs h
             obtain ⟨v32, hv32, h⟩ := h
             replace h := bs h
             obtain ⟨v33, hv33, h⟩ := h
             refine k_sreg (r_dq Tryz_mixed 8 [] [(6, .box (eRt v2.2.1)), (10, .ov false [.sl (some 27) (v4.1.map eRt)]), (46, .ov false [.sl (some 27) (v22.1.map eRt)]), (324, .ref 46 [(0, 0)] none), (325, .p (iV (v22.1.length : Int))), (326, .p (iV x27)), (341, .p (.bool (decide ((w64 (v31 * v33)) < 0))))] [(2, {call := some (none, [.p (iV v31)], true)}), (6, {row := some (eRt v32)}), (7, {row := some (eRt v32)}), (8, {call := some (none, [.p (iV v33)], true)})] (A5 (wk_laws_qUp hv31) (idxO_some hv32).1 (map_get eRt (idxO_some hv32).2) (show getRow [[.sl (some 27) (v4.1.map eRt)]] [(0, 0), ((Int.toNat x27), 0)] = some (eRt v32) from ((gr0 rfl).trans (gre (map_get eRt (idxO_some hv32).2)))) (wk_laws_qUp hv33))) ?_
             refine kc (decide ((w64 (v31 * v33)) < 0)) (fun hc6_33 => ?_) (fun hc6_33 => ?_)
             ·replace h := ite_t hc6_33 h
              refine k_sreg (r_gq [(4, .p (.bool false))] [] trivial) ?_
              refine k_ret ?_
              refine b_r ?_
              refine q_r ?_
              refine lq_r ?_
              refine b_r ?_
              refine q_r ?_
              have hyy := hy_x27 _ (oi h).symm
              subst hyy
              have h := hk_x27
              dsimp only [Sum.elim] at h
              obtain rfl := oi h
              exact er [(.p (.bool false), 4)]
             ·replace h := ite_f hc6_33 h
              refine k_skip ?_
              refine b_n ?_
              refine q_n ?_
              refine k_reg (r_gq [(6, .box (eRt v2.2.1)), (10, .ov false [.sl (some 27) (v4.1.map eRt)]), (46, .ov false [.sl (some 27) (v22.1.map eRt)]), (324, .ref 46 [(0, 0)] none), (325, .p (iV (v22.1.length : Int))), (326, .p (iV (w64 (x27 + 1))))] [] trivial) ?_
              exact lqn (w64 (x27 + 1)) h
            ·replace h := ite_f hc5_28 h
             refine k_exit ?_
             refine q_x ?_
             refine lq_x ?_
             refine b_x ?_
             have hyy := hy_x27 _ (oi h).symm
             subst hyy
             have h := hk_x27
             dsimp only [Sum.elim] at h
             refine q_n ?_
             exact jx () h
     ·refine k_sreg (r_gq [(5, .box [.sl (some 85) (v2.1.map ePt)]), (6, .box (eRt v2.2.1)), (7, .p (iV v2.2.2)), (9, .p (.bool v3.2)), (10, .ov false [.sl (some 27) (v4.1.map eRt)]), (19, .box [.sl none (v8.1.map ePt)]), (20, .box (eRt v8.2)), (21, .box [.sl (some 85) (v9.1.map ePt)]), (196, .p (.bool v9.2))] [] trivial) ?_
      refine kc v9.2 (fun hc2_34 => ?_) (fun hc2_34 => ?_)
      ·replace h := ite_t hc2_34 h
       replace h := bs h
       obtain ⟨v36, hv36, h⟩ := h
       refine k_sreg (r_gq [(5, .box [.sl (some 85) (v2.1.map ePt)]), (6, .box (eRt v2.2.1)), (7, .p (iV v2.2.2)), (9, .p (.bool v3.2)), (10, .ov false [.sl (some 27) (v4.1.map eRt)]), (19, .box [.sl none (v8.1.map ePt)]), (20, .box (eRt v8.2)), (21, .box [.sl (some 85) (v9.1.map ePt)]), (29, .box [.sl (some 85) (v36.1.map ePt)]), (30, .p (.bool v36.2))] [(7, {call := some (some [.d true [.sl none (v9.1.map ePt)], .v (.agg #[.int .i64 (w64 (0 - v8.2.1)), .int .i64 v8.2.2])], [.ov true [.sl (some 85) (v36.1.map ePt)], .p (.bool v36.2)], true)})] (A4 (show frR [.sl (some 85) (v9.1.map ePt)] = false from rfl) (show ([.d true [.sl none (eraL (v9.1.map ePt))], .v (.agg #[.int .i64 (w64 (0 - v8.2.1)), .int .i64 v8.2.2])] : List Arg) = [.d true [.sl none (v9.1.map ePt)], .v (.agg #[.int .i64 (w64 (0 - v8.2.1)), .int .i64 v8.2.2])] from (by simp only [eraL_enc (h := ePt) (era_P (era_P er_I er_I) (era_P er_I er_I))])) (wk_impl_TurnLift hv36) (show List.all [.ov true [.sl (some 85) (v36.1.map ePt)], .p (.bool v36.2)] simpleR = true from (sa_o (wnR1 (wnL_enc (wn_P (wn_P wn_I wn_I) (wn_P wn_I wn_I))) rfl) (sa_p rfl))))) ?_
       refine k_seq ?_
       replace h := bs h
       obtain ⟨w39, hw39, h⟩ := h
       refine k_sreg (l1 := [(5, .box [.sl (some 85) (v2.1.map ePt)]), (6, .box (eRt v2.2.1)), (7, .p (iV v2.2.2)), (9, .p (.bool v3.2)), (10, .ov false [.sl (some 27) (v4.1.map eRt)]), (19, .box [.sl none (v8.1.map ePt)]), (20, .box (eRt v8.2)), (21, .box [.sl (some 85) (v9.1.map ePt)]), (222, .p (.bool w39))]) ?_ ?_
       ·clear h
        rcases ft (!v36.2) with ha3 | ha3
        ·replace hw39 := ite_t ha3 hw39
         have hw39 := oi hw39
         subst hw39
         exact (r_gq [(5, .box [.sl (some 85) (v2.1.map ePt)]), (6, .box (eRt v2.2.1)), (7, .p (iV v2.2.2)), (9, .p (.bool v3.2)), (10, .ov false [.sl (some 27) (v4.1.map eRt)]), (19, .box [.sl none (v8.1.map ePt)]), (20, .box (eRt v8.2)), (21, .box [.sl (some 85) (v9.1.map ePt)]), (222, .p (.bool true))] [(3, gT), (4, gT), (5, gT), (6, gT), (7, gT), (8, gT), (9, bT), (11, gT), (12, gT), (13, gT), (14, bT)] (B6 ha3 ha3 ha3 ha3 ha3 ha3 (A5 ha3 (show true = true from rfl) (show true = true from rfl) (show true = true from rfl) (show true = true from rfl))))
        ·replace hw39 := ite_f ha3 hw39
         replace hw39 := bs hw39
         obtain ⟨v37, hv37, hw39⟩ := hw39
         rcases ft (!v37) with ha4 | ha4
         ·replace hw39 := ite_t ha4 hw39
          have hw39 := oi hw39
          subst hw39
          exact (r_gq [(5, .box [.sl (some 85) (v2.1.map ePt)]), (6, .box (eRt v2.2.1)), (7, .p (iV v2.2.2)), (9, .p (.bool v3.2)), (10, .ov false [.sl (some 27) (v4.1.map eRt)]), (19, .box [.sl none (v8.1.map ePt)]), (20, .box (eRt v8.2)), (21, .box [.sl (some 85) (v9.1.map ePt)]), (222, .p (.bool true))] [(3, gF), (4, gF), (5, gF), (6, {g := some false, b := some true}), (7, {g := some false, call := some (some [.d false [.sl none (v36.1.map ePt)], .d false [.sl none (v8.1.map ePt)]], [.p (.bool v37)], true)}), (8, gF), (9, bF), (11, gT), (12, gT), (13, gT), (14, bT)] (B6 ha3 ha3 (show frR [.sl (some 85) (v36.1.map ePt)] = false from rfl) ha3 ha3 (show frR [.sl none (v8.1.map ePt)] = true from (frR1 (frL_enc (fr_P (fr_P fr_I fr_I) (fr_P fr_I fr_I))) rfl)) (B6 ha3 (show ([.d false [.sl none (eraL (v36.1.map ePt))], .d false [.sl none (v8.1.map ePt)]] : List Arg) = [.d false [.sl none (v36.1.map ePt)], .d false [.sl none (v8.1.map ePt)]] from (by simp only [eraL_enc (h := ePt) (era_P (era_P er_I er_I) (era_P er_I er_I))])) (wk_laws_qMap hv37) ha3 ha3 ha4 (A3 ha4 ha4 ha4))))
         ·replace hw39 := ite_f ha4 hw39
          replace hw39 := bs hw39
          obtain ⟨v38, hv38, hw39⟩ := hw39
          have hw39 := oi hw39
          subst hw39
          exact (r_gq [(5, .box [.sl (some 85) (v2.1.map ePt)]), (6, .box (eRt v2.2.1)), (7, .p (iV v2.2.2)), (9, .p (.bool v3.2)), (10, .ov false [.sl (some 27) (v4.1.map eRt)]), (19, .box [.sl none (v8.1.map ePt)]), (20, .box (eRt v8.2)), (21, .box [.sl (some 85) (v9.1.map ePt)]), (222, .p (.bool (!v38)))] [(3, gF), (4, gF), (5, gF), (6, {g := some false, b := some true}), (7, {g := some false, call := some (some [.d false [.sl none (v36.1.map ePt)], .d false [.sl none (v8.1.map ePt)]], [.p (.bool v37)], true)}), (8, gF), (9, bF), (11, gF), (12, {g := some false, call := some (some [.d true [.sl none (v9.1.map ePt)]], [.p (.bool v38)], true)}), (13, gF), (14, bF)] (B6 ha3 ha3 (show frR [.sl (some 85) (v36.1.map ePt)] = false from rfl) ha3 ha3 (show frR [.sl none (v8.1.map ePt)] = true from (frR1 (frL_enc (fr_P (fr_P fr_I fr_I) (fr_P fr_I fr_I))) rfl)) (B6 ha3 (show ([.d false [.sl none (eraL (v36.1.map ePt))], .d false [.sl none (v8.1.map ePt)]] : List Arg) = [.d false [.sl none (v36.1.map ePt)], .d false [.sl none (v8.1.map ePt)]] from (by simp only [eraL_enc (h := ePt) (era_P (era_P er_I er_I) (era_P er_I er_I))])) (wk_laws_qMap hv37) ha3 ha3 ha4 (A6 (show frR [.sl (some 85) (v9.1.map ePt)] = false from rfl) ha4 (show ([.d true [.sl none (eraL (v9.1.map ePt))]] : List Arg) = [.d true [.sl none (v9.1.map ePt)]] from (by simp only [eraL_enc (h := ePt) (era_P (era_P er_I er_I) (era_P er_I er_I))])) (wk_impl_IsLift hv38) ha4 ha4))))
       ·refine kc w39 (fun hc3_39 => ?_) (fun hc3_39 => ?_)
        ·replace h := ite_t hc3_39 h
         refine k_sreg (r_gq [(4, .p (.bool false))] [] trivial) ?_
         refine k_ret ?_
         refine q_r ?_
         refine q_r ?_
         obtain rfl := oi h
         exact er [(.p (.bool false), 4)]
        ·replace h := ite_f hc3_39 h
         refine k_skip ?_
         refine q_n ?_
         replace h := bs h
         obtain ⟨v41, hv41, h⟩ := h
         refine k_sreg (r_gq [(5, .box [.sl (some 85) (v2.1.map ePt)]), (6, .box (eRt v2.2.1)), (7, .p (iV v2.2.2)), (9, .p (.bool v3.2)), (10, .ov false [.sl (some 27) (v4.1.map eRt)]), (19, .box [.sl none (v8.1.map ePt)]), (20, .box (eRt v8.2)), (21, .box [.sl (some 85) (v9.1.map ePt)]), (31, .box (eRt v41.1)), (32, .box (eRt v41.2.1)), (33, .p (.bool v41.2.2))] [(0, bT), (1, {call := some (none, [.p (vRt v41.1), .p (vRt v41.2.1), .p (.bool v41.2.2)], true)})] (A2 (show frR [.sl none (v8.1.map ePt)] = true from (frR1 (frL_enc (fr_P (fr_P fr_I fr_I) (fr_P fr_I fr_I))) rfl)) (wk_impl_Displacements hv41))) ?_
         replace h := bs h
         obtain ⟨v42, hv42, h⟩ := h
         refine k_sreg (r_gq [(5, .box [.sl (some 85) (v2.1.map ePt)]), (6, .box (eRt v2.2.1)), (7, .p (iV v2.2.2)), (9, .p (.bool v3.2)), (10, .ov false [.sl (some 27) (v4.1.map eRt)]), (19, .box [.sl none (v8.1.map ePt)]), (20, .box (eRt v8.2)), (31, .box (eRt v41.1)), (32, .box (eRt v41.2.1)), (33, .p (.bool v41.2.2)), (34, .box (eRt v42.1)), (35, .box (eRt v42.2.1)), (36, .p (.bool v42.2.2))] [(1, {call := some (some [.d true [.sl none (v9.1.map ePt)]], [.p (vRt v42.1), .p (vRt v42.2.1), .p (.bool v42.2.2)], true)})] (A3 (show frR [.sl (some 85) (v9.1.map ePt)] = false from rfl) (show ([.d true [.sl none (eraL (v9.1.map ePt))]] : List Arg) = [.d true [.sl none (v9.1.map ePt)]] from (by simp only [eraL_enc (h := ePt) (era_P (era_P er_I er_I) (era_P er_I er_I))])) (wk_impl_Displacements hv42))) ?_
         replace h := bs h
         obtain ⟨v43, hv43, h⟩ := h
         refine k_sreg (r_gq [(5, .box [.sl (some 85) (v2.1.map ePt)]), (6, .box (eRt v2.2.1)), (7, .p (iV v2.2.2)), (9, .p (.bool v3.2)), (10, .ov false [.sl (some 27) (v4.1.map eRt)]), (20, .box (eRt v8.2)), (31, .box (eRt v41.1)), (32, .box (eRt v41.2.1)), (33, .p (.bool v41.2.2)), (34, .box (eRt v42.1)), (35, .box (eRt v42.2.1)), (36, .p (.bool v42.2.2)), (37, .box (eRt v43.1)), (38, .box (eRt v43.2.1)), (39, .p (.bool v43.2.2))] [(0, bT), (1, {call := some (none, [.p (vRt v43.1), .p (vRt v43.2.1), .p (.bool v43.2.2)], true)})] (A2 (show frR [.sl none (v8.1.map ePt)] = true from (frR1 (frL_enc (fr_P (fr_P fr_I fr_I) (fr_P fr_I fr_I))) rfl)) (wk_spec_Displacements hv43))) ?_
         refine k_seq ?_
         refine k_sreg (l1 := [(5, .box [.sl (some 85) (v2.1.map ePt)]), (6, .box (eRt v2.2.1)), (7, .p (iV v2.2.2)), (9, .p (.bool v3.2)), (10, .ov false [.sl (some 27) (v4.1.map eRt)]), (20, .box (eRt v8.2)), (34, .box (eRt v42.1)), (35, .box (eRt v42.2.1)), (37, .box (eRt v43.1)), (38, .box (eRt v43.2.1)), (260, .p (.bool ((!v41.2.2) || ((!v42.2.2) || ((!v43.2.2) || ((!((v41.1.1 == v43.1.1) && (v41.1.2 == v43.1.2))) || (!((v41.2.1.1 == v43.2.1.1) && (v41.2.1.2 == v43.2.1.2)))))))))]) ?_ ?_
         ·rcases ft (!v41.2.2) with ha4 | ha4
          ·exact RegOk.of_eq (l2 := [(5, .box [.sl (some 85) (v2.1.map ePt)]), (6, .box (eRt v2.2.1)), (7, .p (iV v2.2.2)), (9, .p (.bool v3.2)), (10, .ov false [.sl (some 27) (v4.1.map eRt)]), (20, .box (eRt v8.2)), (34, .box (eRt v42.1)), (35, .box (eRt v42.2.1)), (37, .box (eRt v43.1)), (38, .box (eRt v43.2.1)), (260, .p (.bool ((!v41.2.2) || ((!v42.2.2) || ((!v43.2.2) || ((!((v41.1.1 == v43.1.1) && (v41.1.2 == v43.1.2))) || (!((v41.2.1.1 == v43.2.1.1) && (v41.2.1.2 == v43.2.1.2)))))))))]) (r_gq [(5, .box [.sl (some 85) (v2.1.map ePt)]), (6, .box (eRt v2.2.1)), (7, .p (iV v2.2.2)), (9, .p (.bool v3.2)), (10, .ov false [.sl (some 27) (v4.1.map eRt)]), (20, .box (eRt v8.2)), (34, .box (eRt v42.1)), (35, .box (eRt v42.2.1)), (37, .box (eRt v43.1)), (38, .box (eRt v43.2.1)), (260, .p (.bool true))] [(3, gT), (4, gT), (5, bT), (7, gT), (8, gT), (9, bT), (11, gT), (12, gT), (13, gT), (14, bT), (16, gT), (17, gT), (18, gT), (19, bT)] (B6 ha4 ha4 ha4 (show true = true from rfl) (show true = true from rfl) (show true = true from rfl) (B6 (show true = true from rfl) (show true = true from rfl) (show true = true from rfl) (show true = true from rfl) (show true = true from rfl) (show true = true from rfl) (A2 (show true = true from rfl) (show true = true from rfl))))) (by simp [ha4])
          ·rcases ft (!v42.2.2) with ha5 | ha5
           ·exact RegOk.of_eq (l2 := [(5, .box [.sl (some 85) (v2.1.map ePt)]), (6, .box (eRt v2.2.1)), (7, .p (iV v2.2.2)), (9, .p (.bool v3.2)), (10, .ov false [.sl (some 27) (v4.1.map eRt)]), (20, .box (eRt v8.2)), (34, .box (eRt v42.1)), (35, .box (eRt v42.2.1)), (37, .box (eRt v43.1)), (38, .box (eRt v43.2.1)), (260, .p (.bool ((!v41.2.2) || ((!v42.2.2) || ((!v43.2.2) || ((!((v41.1.1 == v43.1.1) && (v41.1.2 == v43.1.2))) || (!((v41.2.1.1 == v43.2.1.1) && (v41.2.1.2 == v43.2.1.2)))))))))]) (r_gq [(5, .box [.sl (some 85) (v2.1.map ePt)]), (6, .box (eRt v2.2.1)), (7, .p (iV v2.2.2)), (9, .p (.bool v3.2)), (10, .ov false [.sl (some 27) (v4.1.map eRt)]), (20, .box (eRt v8.2)), (34, .box (eRt v42.1)), (35, .box (eRt v42.2.1)), (37, .box (eRt v43.1)), (38, .box (eRt v43.2.1)), (260, .p (.bool true))] [(3, gF), (4, gF), (5, bF), (7, gT), (8, gT), (9, bT), (11, gT), (12, gT), (13, gT), (14, bT), (16, gT), (17, gT), (18, gT), (19, bT)] (B6 ha4 ha4 ha4 ha5 ha5 ha5 (B6 (show true = true from rfl) (show true = true from rfl) (show true = true from rfl) (show true = true from rfl) (show true = true from rfl) (show true = true from rfl) (A2 (show true = true from rfl) (show true = true from rfl))))) (by simp [ha4, ha5])
           ·rcases ft (!v43.2.2) with ha6 | ha6
            ·exact RegOk.of_eq (l2 := [(5, .box [.sl (some 85) (v2.1.map ePt)]), (6, .box (eRt v2.2.1)), (7, .p (iV v2.2.2)), (9, .p (.bool v3.2)), (10, .ov false [.sl (some 27) (v4.1.map eRt)]), (20, .box (eRt v8.2)), (34, .box (eRt v42.1)), (35, .box (eRt v42.2.1)), (37, .box (eRt v43.1)), (38, .box (eRt v43.2.1)), (260, .p (.bool ((!v41.2.2) || ((!v42.2.2) || ((!v43.2.2) || ((!((v41.1.1 == v43.1.1) && (v41.1.2 == v43.1.2))) || (!((v41.2.1.1 == v43.2.1.1) && (v41.2.1.2 == v43.2.1.2)))))))))]) (r_gq [(5, .box [.sl (some 85) (v2.1.map ePt)]), (6, .box (eRt v2.2.1)), (7, .p (iV v2.2.2)), (9, .p (.bool v3.2)), (10, .ov false [.sl (some 27) (v4.1.map eRt)]), (20, .box (eRt v8.2)), (34, .box (eRt v42.1)), (35, .box (eRt v42.2.1)), (37, .box (eRt v43.1)), (38, .box (eRt v43.2.1)), (260, .p (.bool true))] [(3, gF), (4, gF), (5, bF), (7, gF), (8, gF), (9, bF), (11, gT), (12, gT), (13, gT), (14, bT), (16, gT), (17, gT), (18, gT), (19, bT)] (B6 ha4 ha4 ha4 ha5 ha5 ha5 (B6 ha6 ha6 ha6 ha6 (show true = true from rfl) (show true = true from rfl) (A2 (show true = true from rfl) (show true = true from rfl))))) (by (try rw [ha4]); (try rw [ha5]); (try rw [ha6]); all_goals (first | rfl | simp [ha4, ha5, ha6]))
            ·rcases ft (!((v41.1.1 == v43.1.1) && (v41.1.2 == v43.1.2))) with ha7 | ha7
             ·exact RegOk.of_eq (l2 := [(5, .box [.sl (some 85) (v2.1.map ePt)]), (6, .box (eRt v2.2.1)), (7, .p (iV v2.2.2)), (9, .p (.bool v3.2)), (10, .ov false [.sl (some 27) (v4.1.map eRt)]), (20, .box (eRt v8.2)), (34, .box (eRt v42.1)), (35, .box (eRt v42.2.1)), (37, .box (eRt v43.1)), (38, .box (eRt v43.2.1)), (260, .p (.bool ((!v41.2.2) || ((!v42.2.2) || ((!v43.2.2) || ((!((v41.1.1 == v43.1.1) && (v41.1.2 == v43.1.2))) || (!((v41.2.1.1 == v43.2.1.1) && (v41.2.1.2 == v43.2.1.2)))))))))]) (r_gq [(5, .box [.sl (some 85) (v2.1.map ePt)]), (6, .box (eRt v2.2.1)), (7, .p (iV v2.2.2)), (9, .p (.bool v3.2)), (10, .ov false [.sl (some 27) (v4.1.map eRt)]), (20, .box (eRt v8.2)), (34, .box (eRt v42.1)), (35, .box (eRt v42.2.1)), (37, .box (eRt v43.1)), (38, .box (eRt v43.2.1)), (260, .p (.bool true))] [(3, gF), (4, gF), (5, bF), (7, gF), (8, gF), (9, bF), (11, gF), (12, gF), (13, {g := some false, pv := some (.bool (!((v41.1.1 == v43.1.1) && (v41.1.2 == v43.1.2))))}), (14, bF), (16, gT), (17, gT), (18, gT), (19, bT)] (B6 ha4 ha4 ha4 ha5 ha5 ha5 (B6 ha6 ha6 ha6 (show PureAt Tryz.prog (.binOp .neq 27 (.tmp 252) (.tmp 253) 27) [vRt v41.1, vRt v43.1] (.bool (!((v41.1.1 == v43.1.1) && (v41.1.2 == v43.1.2)))) from (pure_neq2 (by kernel_rfl))) ha6 ha7 (A3 ha7 ha7 ha7)))) (by (try rw [ha4]); (try rw [ha5]); (try rw [ha6]); (try rw [ha7]); all_goals (first | rfl | simp [ha4, ha5, ha6, ha7]))
             ·exact RegOk.of_eq (l2 := [(5, .box [.sl (some 85) (v2.1.map ePt)]), (6, .box (eRt v2.2.1)), (7, .p (iV v2.2.2)), (9, .p (.bool v3.2)), (10, .ov false [.sl (some 27) (v4.1.map eRt)]), (20, .box (eRt v8.2)), (34, .box (eRt v42.1)), (35, .box (eRt v42.2.1)), (37, .box (eRt v43.1)), (38, .box (eRt v43.2.1)), (260, .p (.bool ((!v41.2.2) || ((!v42.2.2) || ((!v43.2.2) || ((!((v41.1.1 == v43.1.1) && (v41.1.2 == v43.1.2))) || (!((v41.2.1.1 == v43.2.1.1) && (v41.2.1.2 == v43.2.1.2)))))))))]) (r_gq [(5, .box [.sl (some 85) (v2.1.map ePt)]), (6, .box (eRt v2.2.1)), (7, .p (iV v2.2.2)), (9, .p (.bool v3.2)), (10, .ov false [.sl (some 27) (v4.1.map eRt)]), (20, .box (eRt v8.2)), (34, .box (eRt v42.1)), (35, .box (eRt v42.2.1)), (37, .box (eRt v43.1)), (38, .box (eRt v43.2.1)), (260, .p (.bool (!((v41.2.1.1 == v43.2.1.1) && (v41.2.1.2 == v43.2.1.2)))))] [(3, gF), (4, gF), (5, bF), (7, gF), (8, gF), (9, bF), (11, gF), (12, gF), (13, {g := some false, pv := some (.bool (!((v41.1.1 == v43.1.1) && (v41.1.2 == v43.1.2))))}), (14, bF), (16, gF), (17, gF), (18, {g := some false, pv := some (.bool (!((v41.2.1.1 == v43.2.1.1) && (v41.2.1.2 == v43.2.1.2))))}), (19, bF)] (B6 ha4 ha4 ha4 ha5 ha5 ha5 (B6 ha6 ha6 ha6 (show PureAt Tryz.prog (.binOp .neq 27 (.tmp 252) (.tmp 253) 27) [vRt v41.1, vRt v43.1] (.bool (!((v41.1.1 == v43.1.1) && (v41.1.2 == v43.1.2)))) from (pure_neq2 (by kernel_rfl))) ha6 ha7 (A4 ha7 ha7 (show PureAt Tryz.prog (.binOp .neq 27 (.tmp 257) (.tmp 258) 27) [vRt v41.2.1, vRt v43.2.1] (.bool (!((v41.2.1.1 == v43.2.1.1) && (v41.2.1.2 == v43.2.1.2)))) from (pure_neq2 (by kernel_rfl))) ha7)))) (by (try rw [ha4]); (try rw [ha5]); (try rw [ha6]); (try rw [ha7]); all_goals (first | rfl | simp [ha4, ha5, ha6, ha7]))
         ·refine kc ((!v41.2.2) || ((!v42.2.2) || ((!v43.2.2) || ((!((v41.1.1 == v43.1.1) && (v41.1.2 == v43.1.2))) || (!((v41.2.1.1 == v43.2.1.1) && (v41.2.1.2 == v43.2.1.2))))))) (fun hc3_43 => ?_) (fun hc3_43 => ?_)
          ·replace h := ite_t hc3_43 h
           refine k_sreg (r_gq [(4, .p (.bool false))] [] trivial) ?_
           refine k_ret ?_
           refine q_r ?_
           refine q_r ?_
           obtain rfl := oi h
           exact er [(.p (.bool false), 4)]
          ·replace h := ite_f hc3_43 h
           refine k_skip ?_
           refine q_n ?_
           replace h := bs h
           obtain ⟨v45, hv45, h⟩ := h
           refine k_sreg (r_gq [(5, .box [.sl (some 85) (v2.1.map ePt)]), (6, .box (eRt v2.2.1)), (7, .p (iV v2.2.2)), (9, .p (.bool v3.2)), (10, .ov false [.sl (some 27) (v4.1.map eRt)]), (20, .box (eRt v8.2)), (34, .box (eRt v42.1)), (35, .box (eRt v42.2.1)), (38, .box (eRt v43.2.1)), (40, .box (eRt v45.1)), (41, .p (.bool v45.2))] [(2, {call := some (none, [.p (vRt v45.1), .p (.bool v45.2)], true)})] (A1 (wk_spec_AddRats hv45))) ?_
           replace h := bs h
           obtain ⟨v46, hv46, h⟩ := h
           refine k_sreg (r_gq [(5, .box [.sl (some 85) (v2.1.map ePt)]), (6, .box (eRt v2.2.1)), (7, .p (iV v2.2.2)), (9, .p (.bool v3.2)), (10, .ov false [.sl (some 27) (v4.1.map eRt)]), (34, .box (eRt v42.1)), (35, .box (eRt v42.2.1)), (40, .box (eRt v45.1)), (41, .p (.bool v45.2)), (42, .box (eRt v46.1)), (43, .p (.bool v46.2))] [(2, {call := some (none, [.p (vRt v46.1), .p (.bool v46.2)], true)})] (A1 (wk_spec_AddRats hv46))) ?_
           refine k_sreg (l1 := [(5, .box [.sl (some 85) (v2.1.map ePt)]), (6, .box (eRt v2.2.1)), (7, .p (iV v2.2.2)), (9, .p (.bool v3.2)), (10, .ov false [.sl (some 27) (v4.1.map eRt)]), (286, .p (.bool (if v45.2 then ((!((v42.1.1 == v45.1.1) && (v42.1.2 == v45.1.2))) || (v46.2 && (!((v42.2.1.1 == v46.1.1) && (v42.2.1.2 == v46.1.2))))) else (v46.2 && (!((v42.2.1.1 == v46.1.1) && (v42.2.1.2 == v46.1.2)))))))]) ?_ ?_
           ·rcases ft v45.2 with ha5 | ha5
            ·rcases ft (!((v42.1.1 == v45.1.1) && (v42.1.2 == v45.1.2))) with ha6 | ha6
             ·exact RegOk.of_eq (l2 := [(5, .box [.sl (some 85) (v2.1.map ePt)]), (6, .box (eRt v2.2.1)), (7, .p (iV v2.2.2)), (9, .p (.bool v3.2)), (10, .ov false [.sl (some 27) (v4.1.map eRt)]), (286, .p (.bool (if v45.2 then ((!((v42.1.1 == v45.1.1) && (v42.1.2 == v45.1.2))) || (v46.2 && (!((v42.2.1.1 == v46.1.1) && (v42.2.1.2 == v46.1.2))))) else (v46.2 && (!((v42.2.1.1 == v46.1.1) && (v42.2.1.2 == v46.1.2)))))))]) (r_gq [(5, .box [.sl (some 85) (v2.1.map ePt)]), (6, .box (eRt v2.2.1)), (7, .p (iV v2.2.2)), (9, .p (.bool v3.2)), (10, .ov false [.sl (some 27) (v4.1.map eRt)]), (286, .p (.bool true))] [(2, gT), (3, gT), (4, {g := some true, pv := some (.bool (!((v42.1.1 == v45.1.1) && (v42.1.2 == v45.1.2))))}), (5, bT), (7, gT), (8, gT), (12, gT), (13, bT)] (B6 ha5 ha5 ha5 (show PureAt Tryz.prog (.binOp .neq 27 (.tmp 275) (.tmp 276) 27) [vRt v42.1, vRt v45.1] (.bool (!((v42.1.1 == v45.1.1) && (v42.1.2 == v45.1.2)))) from (pure_neq2 (by kernel_rfl))) ha5 ha6 (A3 ha6 ha6 ha6))) (by simp [ha5, ha6])
             ·rcases ft v46.2 with ha7 | ha7
              ·exact RegOk.of_eq (l2 := [(5, .box [.sl (some 85) (v2.1.map ePt)]), (6, .box (eRt v2.2.1)), (7, .p (iV v2.2.2)), (9, .p (.bool v3.2)), (10, .ov false [.sl (some 27) (v4.1.map eRt)]), (286, .p (.bool (if v45.2 then ((!((v42.1.1 == v45.1.1) && (v42.1.2 == v45.1.2))) || (v46.2 && (!((v42.2.1.1 == v46.1.1) && (v42.2.1.2 == v46.1.2))))) else (v46.2 && (!((v42.2.1.1 == v46.1.1) && (v42.2.1.2 == v46.1.2)))))))]) (r_gq [(5, .box [.sl (some 85) (v2.1.map ePt)]), (6, .box (eRt v2.2.1)), (7, .p (iV v2.2.2)), (9, .p (.bool v3.2)), (10, .ov false [.sl (some 27) (v4.1.map eRt)]), (286, .p (.bool (!((v42.2.1.1 == v46.1.1) && (v42.2.1.2 == v46.1.2)))))] [(2, gT), (3, gT), (4, {g := some true, pv := some (.bool (!((v42.1.1 == v45.1.1) && (v42.1.2 == v45.1.2))))}), (5, bT), (7, gF), (8, gF), (9, gT), (10, gT), (11, {g := some true, pv := some (.bool (!((v42.2.1.1 == v46.1.1) && (v42.2.1.2 == v46.1.2))))}), (12, {g := some false, b := some true}), (13, bF)] (B6 ha5 ha5 ha5 (show PureAt Tryz.prog (.binOp .neq 27 (.tmp 275) (.tmp 276) 27) [vRt v42.1, vRt v45.1] (.bool (!((v42.1.1 == v45.1.1) && (v42.1.2 == v45.1.2)))) from (pure_neq2 (by kernel_rfl))) ha5 ha6 (B6 ha6 ha7 ha7 ha7 (show PureAt Tryz.prog (.binOp .neq 27 (.tmp 282) (.tmp 283) 27) [vRt v42.2.1, vRt v46.1] (.bool (!((v42.2.1.1 == v46.1.1) && (v42.2.1.2 == v46.1.2)))) from (pure_neq2 (by kernel_rfl))) ha6 (A2 ha7 ha6)))) (by (try rw [ha5]); (try rw [ha6]); (try rw [ha7]); all_goals (first | rfl | simp [ha5, ha6, ha7]))
              ·exact RegOk.of_eq (l2 := [(5, .box [.sl (some 85) (v2.1.map ePt)]), (6, .box (eRt v2.2.1)), (7, .p (iV v2.2.2)), (9, .p (.bool v3.2)), (10, .ov false [.sl (some 27) (v4.1.map eRt)]), (286, .p (.bool (if v45.2 then ((!((v42.1.1 == v45.1.1) && (v42.1.2 == v45.1.2))) || (v46.2 && (!((v42.2.1.1 == v46.1.1) && (v42.2.1.2 == v46.1.2))))) else (v46.2 && (!((v42.2.1.1 == v46.1.1) && (v42.2.1.2 == v46.1.2)))))))]) (r_gq [(5, .box [.sl (some 85) (v2.1.map ePt)]), (6, .box (eRt v2.2.1)), (7, .p (iV v2.2.2)), (9, .p (.bool v3.2)), (10, .ov false [.sl (some 27) (v4.1.map eRt)]), (286, .p (.bool false))] [(2, gT), (3, gT), (4, {g := some true, pv := some (.bool (!((v42.1.1 == v45.1.1) && (v42.1.2 == v45.1.2))))}), (5, bT), (7, gF), (8, gF), (9, gF), (10, gF), (11, gF), (12, {g := some false, b := some false}), (13, bF)] (B6 ha5 ha5 ha5 (show PureAt Tryz.prog (.binOp .neq 27 (.tmp 275) (.tmp 276) 27) [vRt v42.1, vRt v45.1] (.bool (!((v42.1.1 == v45.1.1) && (v42.1.2 == v45.1.2)))) from (pure_neq2 (by kernel_rfl))) ha5 ha6 (B6 ha6 ha7 ha7 ha7 ha6 ha7 (A1 ha6)))) (by (try rw [ha5]); (try rw [ha6]); (try rw [ha7]); all_goals (first | rfl | simp [ha5, ha6, ha7]))
            ·rcases ft v46.2 with ha6 | ha6
             ·exact RegOk.of_eq (l2 := [(5, .box [.sl (some 85) (v2.1.map ePt)]), (6, .box (eRt v2.2.1)), (7, .p (iV v2.2.2)), (9, .p (.bool v3.2)), (10, .ov false [.sl (some 27) (v4.1.map eRt)]), (286, .p (.bool (if v45.2 then ((!((v42.1.1 == v45.1.1) && (v42.1.2 == v45.1.2))) || (v46.2 && (!((v42.2.1.1 == v46.1.1) && (v42.2.1.2 == v46.1.2))))) else (v46.2 && (!((v42.2.1.1 == v46.1.1) && (v42.2.1.2 == v46.1.2)))))))]) (r_gq [(5, .box [.sl (some 85) (v2.1.map ePt)]), (6, .box (eRt v2.2.1)), (7, .p (iV v2.2.2)), (9, .p (.bool v3.2)), (10, .ov false [.sl (some 27) (v4.1.map eRt)]), (286, .p (.bool (!((v42.2.1.1 == v46.1.1) && (v42.2.1.2 == v46.1.2)))))] [(2, gF), (3, gF), (4, gF), (5, bF), (7, gF), (8, gF), (9, gT), (10, gT), (11, {g := some true, pv := some (.bool (!((v42.2.1.1 == v46.1.1) && (v42.2.1.2 == v46.1.2))))}), (12, {g := some false, b := some true}), (13, bF)] (B6 ha5 ha5 ha5 ha5 (show false = false from rfl) (show false = false from rfl) (B6 ha6 ha6 ha6 (show PureAt Tryz.prog (.binOp .neq 27 (.tmp 282) (.tmp 283) 27) [vRt v42.2.1, vRt v46.1] (.bool (!((v42.2.1.1 == v46.1.1) && (v42.2.1.2 == v46.1.2)))) from (pure_neq2 (by kernel_rfl))) (show false = false from rfl) ha6 (A1 (show false = false from rfl))))) (by simp [ha5, ha6])
             ·exact RegOk.of_eq (l2 := [(5, .box [.sl (some 85) (v2.1.map ePt)]), (6, .box (eRt v2.2.1)), (7, .p (iV v2.2.2)), (9, .p (.bool v3.2)), (10, .ov false [.sl (some 27) (v4.1.map eRt)]), (286, .p (.bool (if v45.2 then ((!((v42.1.1 == v45.1.1) && (v42.1.2 == v45.1.2))) || (v46.2 && (!((v42.2.1.1 == v46.1.1) && (v42.2.1.2 == v46.1.2))))) else (v46.2 && (!((v42.2.1.1 == v46.1.1) && (v42.2.1.2 == v46.1.2)))))))]) (r_gq [(5, .box [.sl (some 85) (v2.1.map ePt)]), (6, .box (eRt v2.2.1)), (7, .p (iV v2.2.2)), (9, .p (.bool v3.2)), (10, .ov false [.sl (some 27) (v4.1.map eRt)]), (286, .p (.bool false))] [(2, gF), (3, gF), (4, gF), (5, bF), (7, gF), (8, gF), (9, gF), (10, gF), (11, gF), (12, {g := some false, b := some false}), (13, bF)] (B6 ha5 ha5 ha5 ha5 (show false = false from rfl) (show false = false from rfl) (A6 ha6 ha6 ha6 (show false = false from rfl) ha6 (show false = false from rfl)))) (by simp [ha5, ha6])
           ·refine kc (if v45.2 then ((!((v42.1.1 == v45.1.1) && (v42.1.2 == v45.1.2))) || (v46.2 && (!((v42.2.1.1 == v46.1.1) && (v42.2.1.2 == v46.1.2))))) else (v46.2 && (!((v42.2.1.1 == v46.1.1) && (v42.2.1.2 == v46.1.2))))) (fun hc2_46 => ?_) (fun hc2_46 => ?_)
            ·replace h := ite_t hc2_46 h
             refine k_sreg (r_gq [(4, .p (.bool false))] [] trivial) ?_
             refine k_ret ?_
             refine q_r ?_
             obtain rfl := oi h
             exact er [(.p (.bool false), 4)]
            ·replace h := ite_f hc2_46 h
             refine k_skip ?_
             refine q_n ?_
             exact jx () h
      ·replace h := ite_f hc2_34 h
       refine k_skip ?_
       refine q_n ?_
       exact jx () h
    ·refine k_sreg (r_gq [(5, .box [.sl (some 85) (v2.1.map ePt)]), (6, .box (eRt v2.2.1)), (7, .p (iV v2.2.2)), (9, .p (.bool v3.2)), (10, .ov false [.sl (some 27) (v4.1.map eRt)]), (12, .box [.sl (some 85) (v5.1.map ePt)]), (13, .box (eRt v5.2.1)), (14, .p (iV v5.2.2)), (17, .p (iV v7.1)), (19, .box [.sl none (v8.1.map ePt)]), (20, .box (eRt v8.2)), (21, .box [.sl (some 85) (v9.1.map ePt)]), (22, .p (.bool v9.2)), (145, .p (.bool v6.2))] [] trivial) ?_
     refine kc v6.2 (fun hc2_47 => ?_) (fun hc2_47 => ?_)
     ·replace h := ite_t hc2_47 h
      replace h := bs h
      obtain ⟨v49, hv49, h⟩ := h
      refine k_sreg (r_gq [(5, .box [.sl (some 85) (v2.1.map ePt)]), (6, .box (eRt v2.2.1)), (7, .p (iV v2.2.2)), (9, .p (.bool v3.2)), (10, .ov false [.sl (some 27) (v4.1.map eRt)]), (12, .box [.sl (some 85) (v5.1.map ePt)]), (13, .box (eRt v5.2.1)), (14, .p (iV v5.2.2)), (17, .p (iV v7.1)), (19, .box [.sl none (v8.1.map ePt)]), (20, .box (eRt v8.2)), (21, .box [.sl (some 85) (v9.1.map ePt)]), (22, .p (.bool v9.2)), (25, .ov false [.sl (some 27) (v49.1.map eRt)]), (26, .p (.bool v49.2))] [(3, {call := some (some [.d true [.sl none (v5.1.map ePt)], .v (vRt v5.2.1), wI v5.2.2], [.ov false [.sl (some 27) (v49.1.map eRt)], .p (.bool v49.2)], true)})] (A4 (show frR [.sl (some 85) (v5.1.map ePt)] = false from rfl) (show ([.d true [.sl none (eraL (v5.1.map ePt))], .v (vRt v5.2.1), wI v5.2.2] : List Arg) = [.d true [.sl none (v5.1.map ePt)], .v (vRt v5.2.1), wI v5.2.2] from (by simp only [eraL_enc (h := ePt) (era_P (era_P er_I er_I) (era_P er_I er_I))])) (wk_impl_LiftOrbit hv49) (show List.all [.ov false [.sl (some 27) (v49.1.map eRt)], .p (.bool v49.2)] simpleR = true from (sa_o (wnR1 (wnL_enc (wn_P wn_I wn_I)) rfl) (sa_p rfl))))) ?_
      replace h := bs h
      obtain ⟨v50, hv50, h⟩ := h
      refine k_sreg (r_gq [(5, .box [.sl (some 85) (v2.1.map ePt)]), (6, .box (eRt v2.2.1)), (7, .p (iV v2.2.2)), (9, .p (.bool v3.2)), (10, .ov false [.sl (some 27) (v4.1.map eRt)]), (13, .box (eRt v5.2.1)), (14, .p (iV v5.2.2)), (17, .p (iV v7.1)), (19, .box [.sl none (v8.1.map ePt)]), (20, .box (eRt v8.2)), (21, .box [.sl (some 85) (v9.1.map ePt)]), (22, .p (.bool v9.2)), (25, .ov false [.sl (some 27) (v49.1.map eRt)]), (26, .p (.bool v49.2)), (27, .ov false [.sl (some 27) (v50.1.map eRt)]), (28, .p (.bool v50.2))] [(3, {call := some (some [.d true [.sl none (v5.1.map ePt)], .v (vRt v5.2.1), wI v5.2.2], [.ov false [.sl (some 27) (v50.1.map eRt)], .p (.bool v50.2)], true)})] (A4 (show frR [.sl (some 85) (v5.1.map ePt)] = false from rfl) (show ([.d true [.sl none (eraL (v5.1.map ePt))], .v (vRt v5.2.1), wI v5.2.2] : List Arg) = [.d true [.sl none (v5.1.map ePt)], .v (vRt v5.2.1), wI v5.2.2] from (by simp only [eraL_enc (h := ePt) (era_P (era_P er_I er_I) (era_P er_I er_I))])) (wk_spec_LiftOrbit hv50) (show List.all [.ov false [.sl (some 27) (v50.1.map eRt)], .p (.bool v50.2)] simpleR = true from (sa_o (wnR1 (wnL_enc (wn_P wn_I wn_I)) rfl) (sa_p rfl))))) ?_
      replace h := bs h
      obtain ⟨w53, hw53, h⟩ := h
      refine k_sreg (l1 := [(5, .box [.sl (some 85) (v2.1.map ePt)]), (6, .box (eRt v2.2.1)), (7, .p (iV v2.2.2)), (9, .p (.bool v3.2)), (10, .ov false [.sl (some 27) (v4.1.map eRt)]), (19, .box [.sl none (v8.1.map ePt)]), (20, .box (eRt v8.2)), (21, .box [.sl (some 85) (v9.1.map ePt)]), (22, .p (.bool v9.2)), (195, .p (.bool w53))]) ?_ ?_
      ·clear h
       rcases ft (!v49.2) with ha3 | ha3
       ·replace hw53 := ite_t ha3 hw53
        have hw53 := oi hw53
        subst hw53
        exact (r_dq Tryz_mixed 34 [] [(5, .box [.sl (some 85) (v2.1.map ePt)]), (6, .box (eRt v2.2.1)), (7, .p (iV v2.2.2)), (9, .p (.bool v3.2)), (10, .ov false [.sl (some 27) (v4.1.map eRt)]), (19, .box [.sl none (v8.1.map ePt)]), (20, .box (eRt v8.2)), (21, .box [.sl (some 85) (v9.1.map ePt)]), (22, .p (.bool v9.2)), (195, .p (.bool true))] [(3, gT), (4, gT), (5, bT), (7, gT), (8, gT), (9, gT), (10, gT), (11, bT), (13, gT), (14, gT), (15, gT), (16, gT), (17, gT), (18, bT), (20, gT), (21, gT), (22, gT), (23, gT), (24, gT), (25, gT), (26, gT), (27, gT), (28, gT), (29, gT), (30, gT), (31, gT), (32, gT), (33, gT), (34, gT), (35, bT)] (B6 ha3 ha3 ha3 (show true = true from rfl) (show true = true from rfl) (show true = true from rfl) (B6 (show true = true from rfl) (show true = true from rfl) (show true = true from rfl) (show true = true from rfl) (show true = true from rfl) (show true = true from rfl) (B6 (show true = true from rfl) (show true = true from rfl) (show true = true from rfl) (show true = true from rfl) (show true = true from rfl) (show true = true from rfl) (B6 (show true = true from rfl) (show true = true from rfl) (show true = true from rfl) (show true = true from rfl) (show true = true from rfl) (show true = true from rfl) (A6 (show true = true from rfl) (show true = true from rfl) (show true = true from rfl) (show true = true from rfl) (show true = true from rfl) (show true = true from rfl)))))))
       ·replace hw53 := ite_f ha3 hw53
        rcases ft (!v50.2) with ha4 | ha4
        ·replace hw53 := ite_t ha4 hw53
         have hw53 := oi hw53
         subst hw53
         exact (r_dq Tryz_mixed 34 [] [(5, .box [.sl (some 85) (v2.1.map ePt)]), (6, .box (eRt v2.2.1)), (7, .p (iV v2.2.2)), (9, .p (.bool v3.2)), (10, .ov false [.sl (some 27) (v4.1.map eRt)]), (19, .box [.sl none (v8.1.map ePt)]), (20, .box (eRt v8.2)), (21, .box [.sl (some 85) (v9.1.map ePt)]), (22, .p (.bool v9.2)), (195, .p (.bool true))] [(3, gF), (4, gF), (5, bF), (7, gT), (8, gT), (9, gT), (10, gT), (11, bT), (13, gT), (14, gT), (15, gT), (16, gT), (17, gT), (18, bT), (20, gT), (21, gT), (22, gT), (23, gT), (24, gT), (25, gT), (26, gT), (27, gT), (28, gT), (29, gT), (30, gT), (31, gT), (32, gT), (33, gT), (34, gT), (35, bT)] (B6 ha3 ha3 ha3 ha4 ha4 ha4 (B6 ha4 ha4 (show true = true from rfl) (show true = true from rfl) (show true = true from rfl) (show true = true from rfl) (B6 (show true = true from rfl) (show true = true from rfl) (show true = true from rfl) (show true = true from rfl) (show true = true from rfl) (show true = true from rfl) (B6 (show true = true from rfl) (show true = true from rfl) (show true = true from rfl) (show true = true from rfl) (show true = true from rfl) (show true = true from rfl) (A6 (show true = true from rfl) (show true = true from rfl) (show true = true from rfl) (show true = true from rfl) (show true = true from rfl) (show true = true from rfl)))))))
        ·replace hw53 := ite_f ha4 hw53
         replace hw53 := bs hw53
         obtain ⟨v51, hv51, hw53⟩ := hw53
         rcases ft (!v51) with ha5 | ha5
         ·replace hw53 := ite_t ha5 hw53
          have hw53 := oi hw53
          subst hw53
          exact (r_dq Tryz_mixed 34 [] [(5, .box [.sl (some 85) (v2.1.map ePt)]), (6, .box (eRt v2.2.1)), (7, .p (iV v2.2.2)), (9, .p (.bool v3.2)), (10, .ov false [.sl (some 27) (v4.1.map eRt)]), (19, .box [.sl none (v8.1.map ePt)]), (20, .box (eRt v8.2)), (21, .box [.sl (some 85) (v9.1.map ePt)]), (22, .p (.bool v9.2)), (195, .p (.bool true))] [(3, gF), (4, gF), (5, bF), (7, gF), (8, gF), (9, {g := some false, call := some (some [.d false [.sl none (v49.1.map eRt)], .d false [.sl none (v50.1.map eRt)]], [.p (.bool v51)], true)}), (10, gF), (11, bF), (13, gT), (14, gT), (15, gT), (16, gT), (17, gT), (18, bT), (20, gT), (21, gT), (22, gT), (23, gT), (24, gT), (25, gT), (26, gT), (27, gT), (28, gT), (29, gT), (30, gT), (31, gT), (32, gT), (33, gT), (34, gT), (35, bT)] (B6 ha3 ha3 ha3 ha4 ha4 ha4 (B6 (show ([.d false [.sl none (eraL (v49.1.map eRt))], .d false [.sl none (eraL (v50.1.map eRt))]] : List Arg) = [.d false [.sl none (v49.1.map eRt)], .d false [.sl none (v50.1.map eRt)]] from (by simp only [eraL_enc (h := eRt) (era_P er_I er_I), eraL_enc (h := eRt) (era_P er_I er_I)])) (wk_laws_qRats hv51) ha4 ha4 ha5 ha5 (B6 ha5 ha5 ha5 ha5 (show true = true from rfl) (show true = true from rfl) (B6 (show true = true from rfl) (show true = true from rfl) (show true = true from rfl) (show true = true from rfl) (show true = true from rfl) (show true = true from rfl) (B6 (show true = true from rfl) (show true = true from rfl) (show true = true from rfl) (show true = true from rfl) (show true = true from rfl) (show true = true from rfl) (A2 (show true = true from rfl) (show true = true from rfl))))))))
         ·replace hw53 := ite_f ha5 hw53
          rcases ft ((v50.1.length : Int) != (w64 (v5.2.2 + 1))) with ha6 | ha6
          ·replace hw53 := ite_t ha6 hw53
           have hw53 := oi hw53
           subst hw53
           exact (r_dq Tryz_mixed 34 [] [(5, .box [.sl (some 85) (v2.1.map ePt)]), (6, .box (eRt v2.2.1)), (7, .p (iV v2.2.2)), (9, .p (.bool v3.2)), (10, .ov false [.sl (some 27) (v4.1.map eRt)]), (19, .box [.sl none (v8.1.map ePt)]), (20, .box (eRt v8.2)), (21, .box [.sl (some 85) (v9.1.map ePt)]), (22, .p (.bool v9.2)), (195, .p (.bool true))] [(3, gF), (4, gF), (5, bF), (7, gF), (8, gF), (9, {g := some false, call := some (some [.d false [.sl none (v49.1.map eRt)], .d false [.sl none (v50.1.map eRt)]], [.p (.bool v51)], true)}), (10, gF), (11, bF), (13, gF), (14, {g := some false, n := some v50.1.length}), (15, gF), (16, gF), (17, gF), (18, bF), (20, gT), (21, gT), (22, gT), (23, gT), (24, gT), (25, gT), (26, gT), (27, gT), (28, gT), (29, gT), (30, gT), (31, gT), (32, gT), (33, gT), (34, gT), (35, bT)] (B6 ha3 ha3 ha3 ha4 ha4 ha4 (B6 (show ([.d false [.sl none (eraL (v49.1.map eRt))], .d false [.sl none (eraL (v50.1.map eRt))]] : List Arg) = [.d false [.sl none (v49.1.map eRt)], .d false [.sl none (v50.1.map eRt)]] from (by simp only [eraL_enc (h := eRt) (era_P er_I er_I), eraL_enc (h := eRt) (era_P er_I er_I)])) (wk_laws_qRats hv51) ha4 ha4 ha5 ha5 (B6 (show (v50.1.map eRt).length = v50.1.length from (List.length_map ..)) ha5 ha5 ha5 ha5 ha6 (B6 ha6 ha6 ha6 ha6 ha6 ha6 (B6 ha6 ha6 ha6 ha6 ha6 ha6 (A3 ha6 ha6 ha6)))))))
          ·replace hw53 := ite_f ha6 hw53
           replace hw53 := bs hw53
           obtain ⟨v52, hv52, hw53⟩ := hw53
           have hw53 := oi hw53
           subst hw53
           exact (r_dq Tryz_mixed 34 [] [(5, .box [.sl (some 85) (v2.1.map ePt)]), (6, .box (eRt v2.2.1)), (7, .p (iV v2.2.2)), (9, .p (.bool v3.2)), (10, .ov false [.sl (some 27) (v4.1.map eRt)]), (19, .box [.sl none (v8.1.map ePt)]), (20, .box (eRt v8.2)), (21, .box [.sl (some 85) (v9.1.map ePt)]), (22, .p (.bool v9.2)), (195, .p (.bool (!((v52.1 == (w64 (v5.2.1.1 + (w64 (v7.1 * v5.2.1.2))))) && (v52.2 == v5.2.1.2)))))] [(3, gF), (4, gF), (5, bF), (7, gF), (8, gF), (9, {g := some false, call := some (some [.d false [.sl none (v49.1.map eRt)], .d false [.sl none (v50.1.map eRt)]], [.p (.bool v51)], true)}), (10, gF), (11, bF), (13, gF), (14, {g := some false, n := some v50.1.length}), (15, gF), (16, gF), (17, gF), (18, bF), (20, gF), (21, gF), (22, {g := some false, row := some (eRt v52)}), (23, {g := some false, row := some (eRt v52)}), (24, gF), (25, gF), (26, gF), (27, gF), (28, gF), (29, gF), (30, gF), (31, gF), (32, gF), (33, gF), (34, {g := some false, pv := some (.bool (!((v52.1 == (w64 (v5.2.1.1 + (w64 (v7.1 * v5.2.1.2))))) && (v52.2 == v5.2.1.2))))}), (35, bF)] (B6 ha3 ha3 ha3 ha4 ha4 ha4 (B6 (show ([.d false [.sl none (eraL (v49.1.map eRt))], .d false [.sl none (eraL (v50.1.map eRt))]] : List Arg) = [.d false [.sl none (v49.1.map eRt)], .d false [.sl none (v50.1.map eRt)]] from (by simp only [eraL_enc (h := eRt) (era_P er_I er_I), eraL_enc (h := eRt) (era_P er_I er_I)])) (wk_laws_qRats hv51) ha4 ha4 ha5 ha5 (B6 (show (v50.1.map eRt).length = v50.1.length from (List.length_map ..)) ha5 ha5 ha5 ha5 ha6 (B6 ha6 ha6 (idxO_some hv52).1 (map_get eRt (idxO_some hv52).2) ha6 (show getRow [[.sl (some 27) (v50.1.map eRt)]] [(0, 0), ((Int.toNat v5.2.2), 0)] = some (eRt v52) from ((gr0 rfl).trans (gre (map_get eRt (idxO_some hv52).2)))) (B6 ha6 ha6 ha6 ha6 ha6 ha6 (B6 ha6 ha6 ha6 ha6 ha6 (show PureAt Tryz.prog (.binOp .neq 27 (.tmp 183) (.tmp 193) 27) [vRt v52, .agg #[.int .i64 (w64 (v5.2.1.1 + (w64 (v7.1 * v5.2.1.2)))), .int .i64 v5.2.1.2]] (.bool (!((v52.1 == (w64 (v5.2.1.1 + (w64 (v7.1 * v5.2.1.2))))) && (v52.2 == v5.2.1.2)))) from (pure_neq2 (by kernel_rfl))) (A1 ha6))))))))
      ·refine kc w53 (fun hc2_53 => ?_) (fun hc2_53 => ?_)
       ·replace h := ite_t hc2_53 h
        refine k_sreg (r_gq [(4, .p (.bool false))] [] trivial) ?_
        refine k_ret ?_
        refine q_r ?_
        obtain rfl := oi h
        exact er [(.p (.bool false), 4)]
       ·replace h := ite_f hc2_53 h
        refine k_skip ?_
        refine q_n ?_
        exact jx () h
     ·replace h := ite_f hc2_47 h
      refine k_skip ?_
      refine q_n ?_
      exact jx () h
end Go.PV

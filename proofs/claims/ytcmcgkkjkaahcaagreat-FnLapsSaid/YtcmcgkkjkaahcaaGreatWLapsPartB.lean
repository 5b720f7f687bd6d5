/-
  Walks through the functions that the law reaches: each answers as its plain definition does.
  Conditions: none.
-/
import Derived.KernelRfl
import Derived.Test.YtcmcgkkjkaahcaaGreatWLapsPartA
import Derived.Test.YtcmcgkkjkaahcaaGreatProg
open Go Go.PV Go.Proofs
set_option linter.all false
namespace Go.PV
attribute [local irreducible] pvC pvL pvD sOp seqQ blockQ Meets MeetsB Ok OkL RegOk agree endQ seqL blockL loopQ endL endLB
theorem wk_impl_iterates {a0 : (List Qp)} {a1 : Int}  {r : ((List (List Qr)) × Bool)} (h : impl_iterates a0 a1 = some r) : Meets Tryz.prog 133 [.d false [.sl none (a0.map ePt)], wI a1] { vals := [.ov false [.sl (some 30) (r.1.map (eO 27 eRt))], .p (.bool r.2)] } := by
 refine mo Tryz.func133 [(0, .d false [.sl none (a0.map ePt)]), (1, .p (iV a1))] ?_
 unfold impl_iterates at h
 refine k_sreg (r_gq [(0, .d false [.sl none (a0.map ePt)]), (1, .p (iV a1))] [] trivial) ?_
 refine k_sreg (r_gq [(0, .d false [.sl none (a0.map ePt)]), (1, .p (iV a1)), (6, .box [.raw (.bool false)])] [] trivial) ?_
 replace h := bs h
 obtain ⟨v1, hv1, h⟩ := h
 replace h := bs h
 obtain ⟨v2, hv2, h⟩ := h
 refine k_sreg (r_gq [(0, .d false [.sl none (a0.map ePt)]), (1, .p (iV a1)), (6, .box [.raw (.bool false)]), (7, .ov false [.sl (some 30) (([[v1, v2]]).map (eO 27 eRt))])] [(0, {call := some (none, [.p (vRt v1)], true)}), (1, {call := some (none, [.p (vRt v2)], true)})] (A2 (wk_impl_zero hv1) (wk_impl_oneRat hv2))) ?_
 replace h := bs h
 obtain ⟨v3, hv3, h⟩ := h
 refine k_sreg (r_gq [(0, .d false [.sl none (a0.map ePt)]), (1, .p (iV a1)), (6, .box [.raw (.bool false)]), (7, .ov false [.sl (some 30) (([[v1, v2]]).map (eO 27 eRt))]), (8, .ov false [.sl (some 27) (v3.map eRt)])] [(1, {call := some (none, [.ov false [.sl (some 27) (v3.map eRt)]], true)})] (A2 (wk_impl_turns hv3) (show List.all [.ov false [.sl (some 27) (v3.map eRt)]] simpleR = true from (sa_o (wnR1 (wnL_enc (wn_P wn_I wn_I)) rfl) rfl)))) ?_
 refine k_join (J := fun (x : (List (List Qr))) => [(7, .ov false [.sl (some 30) (x.map (eO 27 eRt))])]) (K := fun x => impl_iterates_k1 x = some r) (fun x4 h => ?_) ?_
 ·unfold impl_iterates_k1 at h
  refine k_sreg (r_gq [(4, .ov false [.sl (some 30) (x4.map (eO 27 eRt))]), (5, .p (.bool true))] [] trivial) ?_
  refine k_ret ?_
  obtain rfl := oi h
  exact er [(.ov false [.sl (some 30) (x4.map (eO 27 eRt))], 4), (.p (.bool true), 5)]
 ·refine k_sreg (r_gq [(0, .d false [.sl none (a0.map ePt)]), (6, .box [.raw (.bool false)]), (7, .ov false [.sl (some 30) (([[v1, v2]]).map (eO 27 eRt))]), (8, .ov false [.sl (some 27) (v3.map eRt)]), (20, .p (iV a1)), (21, .p (iV 0))] [] trivial) ?_
  refine k_block ?_
  obtain ⟨y6, hl_x5, hk_x5⟩ := bs h
  clear h
  refine k_loop (J := fun (x : (Bool × (List (List Qr)) × Int)) => [(0, .d false [.sl none (a0.map ePt)]), (6, .box [.raw (.bool x.1)]), (7, .ov false [.sl (some 30) (x.2.1.map (eO 27 eRt))]), (8, .ov false [.sl (some 27) (v3.map eRt)]), (20, .p (iV a1)), (21, .p (iV x.2.2))]) hl_x5 (wk_of (by kernel_rfl) (by kernel_rfl)) (fun x5 o_x5 h hy_x5 => ?_)
  unfold impl_iterates_b1 at h
  refine k_sreg (r_gq [(0, .d false [.sl none (a0.map ePt)]), (6, .box [.raw (.bool x5.1)]), (7, .ov false [.sl (some 30) (x5.2.1.map (eO 27 eRt))]), (8, .ov false [.sl (some 27) (v3.map eRt)]), (20, .p (iV a1)), (21, .p (iV x5.2.2)), (22, .p (.bool (decide (x5.2.2 < a1))))] [] trivial) ?_
  refine k_seq ?_
  refine kc (decide (x5.2.2 < a1)) (fun hc5_6 => ?_) (fun hc5_6 => ?_)
  ·replace h := ite_t hc5_6 h
   refine k_skip ?_
   refine q_n ?_
   refine k_join (J := fun (x : (Bool × (List (List Qr)))) => [(0, .d false [.sl none (a0.map ePt)]), (6, .box [.raw (.bool x.1)]), (7, .ov false [.sl (some 30) (x.2.map (eO 27 eRt))]), (8, .ov false [.sl (some 27) (v3.map eRt)]), (20, .p (iV a1)), (21, .p (iV x5.2.2))]) (K := fun x => impl_iterates_k2 x5 x = some o_x5) (fun x8 h => ?_) ?_
   ·unfold impl_iterates_k2 at h
    refine k_reg (r_gq [(0, .d false [.sl none (a0.map ePt)]), (6, .box [.raw (.bool x8.1)]), (7, .ov false [.sl (some 30) (x8.2.map (eO 27 eRt))]), (8, .ov false [.sl (some 27) (v3.map eRt)]), (20, .p (iV a1)), (21, .p (iV (w64 (x5.2.2 + 1))))] [] trivial) ?_
    exact lqn (x8.1, x8.2, (w64 (x5.2.2 + 1))) h
   ·refine k_block ?_
    replace h := bs h
    obtain ⟨v9, hv9, h⟩ := h
    refine k_sreg (r_gq [(0, .d false [.sl none (a0.map ePt)]), (6, .box [.raw (.bool x5.1)]), (7, .ov false [.sl (some 30) (x5.2.1.map (eO 27 eRt))]), (8, .ov false [.sl (some 27) (v3.map eRt)]), (9, .ref 7 [(0, 0), ((Int.toNat (w64 ((x5.2.1.length : Int) - 1))), 0)] none), (20, .p (iV a1)), (21, .p (iV x5.2.2))] [(2, {n := some x5.2.1.length}), (4, {row := some [.sl (some 27) (v9.map eRt)]}), (5, {row := some [.sl (some 27) (v9.map eRt)]})] (A5 (show (x5.2.1.map (eO 27 eRt)).length = x5.2.1.length from (List.length_map ..)) (idxO_some hv9).1 (map_get (eO 27 eRt) (idxO_some hv9).2) (show frR [.sl (some 27) (v9.map eRt)] = false from rfl) (show getRow [[.sl (some 30) (x5.2.1.map (eO 27 eRt))]] [(0, 0), ((Int.toNat (w64 ((x5.2.1.length : Int) - 1))), 0)] = some [.sl (some 27) (v9.map eRt)] from ((gr0 rfl).trans (gre (map_get (eO 27 eRt) (idxO_some hv9).2)))))) ?_
    replace h := bs h
    obtain ⟨v10, hv10, h⟩ := h
    replace h := bs h
    obtain ⟨v11, hv11, h⟩ := h
    refine k_sreg (r_gq [(0, .d false [.sl none (a0.map ePt)]), (6, .box [.raw (.bool v11.2)]), (7, .ov false [.sl (some 30) (x5.2.1.map (eO 27 eRt))]), (8, .ov false [.sl (some 27) (v3.map eRt)]), (9, .ref 7 [(0, 0), ((Int.toNat (w64 ((x5.2.1.length : Int) - 1))), 0)] none), (10, .ov false [.sl (some 27) (([v11.1]).map eRt)]), (20, .p (iV a1)), (21, .p (iV x5.2.2))] [(2, {deep := some [.sl (some 27) (v9.map eRt)], row := some (eRt v10)}), (3, {row := some (eRt v10)}), (4, {lend := some (none, [.p (vRt v11.1)], .box [.raw (.bool v11.2)], true)})] (A5 (idxO_some hv10).1 (map_get eRt (idxO_some hv10).2) (show getRow [[.sl (some 30) (x5.2.1.map (eO 27 eRt))]] [(0, 0), ((Int.toNat (w64 ((x5.2.1.length : Int) - 1))), 0)] = some [.sl (some 27) (v9.map eRt)] from ((gr0 rfl).trans (gre (map_get (eO 27 eRt) (idxO_some hv9).2)))) (show getRow [[.sl (some 30) (x5.2.1.map (eO 27 eRt))]] [(0, 0), ((Int.toNat (w64 ((x5.2.1.length : Int) - 1))), 0), ((Int.toNat 0), 0)] = some (eRt v10) from ((gr0 rfl).trans ((grs (map_get (eO 27 eRt) (idxO_some hv9).2) rfl).trans (gre (map_get eRt (idxO_some hv10).2))))) (wk_impl_calc_value hv11))) ?_
    refine k_join (J := fun (x : (Bool × (List Qr))) => [(0, .d false [.sl none (a0.map ePt)]), (6, .box [.raw (.bool x.1)]), (7, .ov false [.sl (some 30) (x5.2.1.map (eO 27 eRt))]), (8, .ov false [.sl (some 27) (v3.map eRt)]), (10, .ov false [.sl (some 27) (x.2.map eRt)]), (20, .p (iV a1)), (21, .p (iV x5.2.2))]) (K := fun x => impl_iterates_k3 x5 x = some o_x5) (fun x12 h => ?_) ?_
    ·unfold impl_iterates_k3 at h
     refine k_seq ?_
     refine k_sreg (l1 := [(0, .d false [.sl none (a0.map ePt)]), (6, .box [.raw (.bool x12.1)]), (7, .ov false [.sl (some 30) (x5.2.1.map (eO 27 eRt))]), (8, .ov false [.sl (some 27) (v3.map eRt)]), (10, .ov false [.sl (some 27) (x12.2.map eRt)]), (20, .p (iV a1)), (21, .p (iV x5.2.2)), (80, .p (.bool (x12.1 || (decide ((w64 ((x12.2.length : Int) - 1)) > 4096)))))]) ?_ ?_
     ·rcases ft x12.1 with ha1 | ha1
      ·exact RegOk.of_eq (l2 := [(0, .d false [.sl none (a0.map ePt)]), (6, .box [.raw (.bool x12.1)]), (7, .ov false [.sl (some 30) (x5.2.1.map (eO 27 eRt))]), (8, .ov false [.sl (some 27) (v3.map eRt)]), (10, .ov false [.sl (some 27) (x12.2.map eRt)]), (20, .p (iV a1)), (21, .p (iV x5.2.2)), (80, .p (.bool (x12.1 || (decide ((w64 ((x12.2.length : Int) - 1)) > 4096)))))]) (r_gq [(0, .d false [.sl none (a0.map ePt)]), (6, .box [.raw (.bool x12.1)]), (7, .ov false [.sl (some 30) (x5.2.1.map (eO 27 eRt))]), (8, .ov false [.sl (some 27) (v3.map eRt)]), (10, .ov false [.sl (some 27) (x12.2.map eRt)]), (20, .p (iV a1)), (21, .p (iV x5.2.2)), (80, .p (.bool true))] [(3, gT), (4, gT), (5, gT), (6, gT), (7, bT)] (A5 ha1 ha1 ha1 ha1 ha1)) (by simp [ha1])
      ·exact RegOk.of_eq (l2 := [(0, .d false [.sl none (a0.map ePt)]), (6, .box [.raw (.bool x12.1)]), (7, .ov false [.sl (some 30) (x5.2.1.map (eO 27 eRt))]), (8, .ov false [.sl (some 27) (v3.map eRt)]), (10, .ov false [.sl (some 27) (x12.2.map eRt)]), (20, .p (iV a1)), (21, .p (iV x5.2.2)), (80, .p (.bool (x12.1 || (decide ((w64 ((x12.2.length : Int) - 1)) > 4096)))))]) (r_gq [(0, .d false [.sl none (a0.map ePt)]), (6, .box [.raw (.bool x12.1)]), (7, .ov false [.sl (some 30) (x5.2.1.map (eO 27 eRt))]), (8, .ov false [.sl (some 27) (v3.map eRt)]), (10, .ov false [.sl (some 27) (x12.2.map eRt)]), (20, .p (iV a1)), (21, .p (iV x5.2.2)), (80, .p (.bool (decide ((w64 ((x12.2.length : Int) - 1)) > 4096))))] [(3, gF), (4, {g := some false, n := some x12.2.length}), (5, gF), (6, gF), (7, bF)] (A6 ha1 ha1 (show (x12.2.map eRt).length = x12.2.length from (List.length_map ..)) ha1 ha1 ha1)) (by simp [ha1])
     ·refine kc (x12.1 || (decide ((w64 ((x12.2.length : Int) - 1)) > 4096))) (fun hc7_12 => ?_) (fun hc7_12 => ?_)
      ·replace h := ite_t hc7_12 h
       refine k_sreg (r_gq [(4, .ov false [.sl (some 30) []]), (5, .p (.bool false))] [] trivial) ?_
       refine k_ret ?_
       refine q_r ?_
       refine b_r ?_
       refine q_r ?_
       refine lq_r ?_
       refine b_r ?_
       refine q_r ?_
       have hyy := hy_x5 _ (oi h).symm
       subst hyy
       have h := hk_x5
       dsimp only [Sum.elim] at h
       obtain rfl := oi h
       exact er [(.ov false [.sl (some 30) []], 4), (.p (.bool false), 5)]
      ·replace h := ite_f hc7_12 h
       refine k_skip ?_
       refine q_n ?_
       replace h := bs h
       obtain ⟨u14, hu14, h⟩ := h
       refine k_reg (r_gq [(0, .d false [.sl none (a0.map ePt)]), (6, .box [.raw (.bool x12.1)]), (7, .ov false [.sl (some 30) ((x5.2.1 ++ [x12.2]).map (eO 27 eRt))]), (8, .ov false [.sl (some 27) (v3.map eRt)]), (20, .p (iV a1)), (21, .p (iV x5.2.2))] [(3, {fix := some (84, .ov false [.sl (some 30) ((x5.2.1 ++ [x12.2]).map (eO 27 eRt))])})] (A3 (show List.length ((x5.2.1.map (eO 27 eRt)) : List (List C)) + List.length ((([x12.2]).map (eO 27 eRt)) : List (List C)) ≤ 1099511627776 from (by have hg := (guardO_some hu14); simpa using hg)) (show ∀ row ∈ ((([x12.2]).map (eO 27 eRt)) : List (List C)), row.length = 1 from (rows_len fun _ => rfl)) (show (SV.ov false [.sl (some 30) ((x5.2.1.map (eO 27 eRt)) ++ (([x12.2]).map (eO 27 eRt)))] : SV) = .ov false [.sl (some 30) ((x5.2.1 ++ [x12.2]).map (eO 27 eRt))] from (congrArg (fun z => SV.ov false [.sl (some 30) z]) (List.map_append ..).symm)))) ?_
       refine b_n ?_
       refine q_n ?_
       exact jx (x12.1, (x5.2.1 ++ [x12.2])) h
    ·refine k_sreg (r_gq [(0, .d false [.sl none (a0.map ePt)]), (6, .box [.raw (.bool v11.2)]), (7, .ov false [.sl (some 30) (x5.2.1.map (eO 27 eRt))]), (8, .ov false [.sl (some 27) (v3.map eRt)]), (9, .ref 7 [(0, 0), ((Int.toNat (w64 ((x5.2.1.length : Int) - 1))), 0)] none), (10, .ov false [.sl (some 27) (([v11.1]).map eRt)]), (11, .p (iV 1)), (20, .p (iV a1)), (21, .p (iV x5.2.2))] [] trivial) ?_
     refine k_block ?_
     obtain ⟨y16, hl_x15, hk_x15⟩ := bs h
     clear h
     refine k_loop (J := fun (x : (Bool × (List Qr) × Int)) => [(0, .d false [.sl none (a0.map ePt)]), (6, .box [.raw (.bool x.1)]), (7, .ov false [.sl (some 30) (x5.2.1.map (eO 27 eRt))]), (8, .ov false [.sl (some 27) (v3.map eRt)]), (9, .ref 7 [(0, 0), ((Int.toNat (w64 ((x5.2.1.length : Int) - 1))), 0)] none), (10, .ov false [.sl (some 27) (x.2.1.map eRt)]), (11, .p (iV x.2.2)), (20, .p (iV a1)), (21, .p (iV x5.2.2))]) hl_x15 (wk_of (by kernel_rfl) (by kernel_rfl)) (fun x15 o_x15 h hy_x15 => ?_)
     unfold impl_iterates_b2 at h
     refine k_seq ?_
     refine k_sreg (r_gq [(0, .d false [.sl none (a0.map ePt)]), (6, .box [.raw (.bool x15.1)]), (7, .ov false [.sl (some 30) (x5.2.1.map (eO 27 eRt))]), (8, .ov false [.sl (some 27) (v3.map eRt)]), (9, .ref 7 [(0, 0), ((Int.toNat (w64 ((x5.2.1.length : Int) - 1))), 0)] none), (10, .ov false [.sl (some 27) (x15.2.1.map eRt)]), (11, .p (iV x15.2.2)), (20, .p (iV a1)), (21, .p (iV x5.2.2)), (38, .p (.bool (decide (x15.2.2 < (v9.length : Int)))))] [(2, {deep := some [.sl (some 27) (v9.map eRt)], n := some v9.length})] (A2 (show (v9.map eRt).length = v9.length from (List.length_map ..)) (show getRow [[.sl (some 30) (x5.2.1.map (eO 27 eRt))]] [(0, 0), ((Int.toNat (w64 ((x5.2.1.length : Int) - 1))), 0)] = some [.sl (some 27) (v9.map eRt)] from ((gr0 rfl).trans (gre (map_get (eO 27 eRt) (idxO_some hv9).2)))))) ?_
     refine kc (decide (x15.2.2 < (v9.length : Int))) (fun hc10_16 => ?_) (fun hc10_16 => ?_)
     ·replace h := ite_t hc10_16 h
      refine k_skip ?_
      refine q_n ?_
      refine k_join (J := fun (x : (Bool × (List Qr))) => [(0, .d false [.sl none (a0.map ePt)]), (6, .box [.raw (.bool x.1)]), (7, .ov false [.sl (some 30) (x5.2.1.map (eO 27 eRt))]), (8, .ov false [.sl (some 27) (v3.map eRt)]), (9, .ref 7 [(0, 0), ((Int.toNat (w64 ((x5.2.1.length : Int) - 1))), 0)] none), (10, .ov false [.sl (some 27) (x.2.map eRt)]), (11, .p (iV x15.2.2)), (20, .p (iV a1)), (21, .p (iV x5.2.2))]) (K := fun x => impl_iterates_k4 x15 x = some o_x15) (fun x18 h => ?_) ?_
      ·unfold impl_iterates_k4 at h
       refine k_reg (r_gq [(0, .d false [.sl none (a0.map ePt)]), (6, .box [.raw (.bool x18.1)]), (7, .ov false [.sl (some 30) (x5.2.1.map (eO 27 eRt))]), (8, .ov false [.sl (some 27) (v3.map eRt)]), (9, .ref 7 [(0, 0), ((Int.toNat (w64 ((x5.2.1.length : Int) - 1))), 0)] none), (10, .ov false [.sl (some 27) (x18.2.map eRt)]), (11, .p (iV (w64 (x15.2.2 + 1)))), (20, .p (iV a1)), (21, .p (iV x5.2.2))] [] trivial) ?_
       exact lqn (x18.1, x18.2, (w64 (x15.2.2 + 1))) h
      ·refine k_block ?_
       refine k_join (J := fun (x : (Bool × (List Qr))) => [(0, .d false [.sl none (a0.map ePt)]), (6, .box [.raw (.bool x.1)]), (7, .ov false [.sl (some 30) (x5.2.1.map (eO 27 eRt))]), (8, .ov false [.sl (some 27) (v3.map eRt)]), (9, .ref 7 [(0, 0), ((Int.toNat (w64 ((x5.2.1.length : Int) - 1))), 0)] none), (10, .ov false [.sl (some 27) (x.2.map eRt)]), (11, .p (iV x15.2.2)), (20, .p (iV a1)), (21, .p (iV x5.2.2))]) (K := fun x => impl_iterates_k5 a0 v9 x15 x = some o_x15) (fun x19 h => ?_) ?_
       ·unfold impl_iterates_k5 at h
        replace h := bs h
        obtain ⟨v20, hv20, h⟩ := h
        replace h := bs h
        obtain ⟨v21, hv21, h⟩ := h
        replace h := bs h
        obtain ⟨u22, hu22, h⟩ := h
        refine k_reg (r_gq [(0, .d false [.sl none (a0.map ePt)]), (6, .box [.raw (.bool v21.2)]), (7, .ov false [.sl (some 30) (x5.2.1.map (eO 27 eRt))]), (8, .ov false [.sl (some 27) (v3.map eRt)]), (9, .ref 7 [(0, 0), ((Int.toNat (w64 ((x5.2.1.length : Int) - 1))), 0)] none), (10, .ov false [.sl (some 27) ((x19.2 ++ [v21.1]).map eRt)]), (11, .p (iV x15.2.2)), (20, .p (iV a1)), (21, .p (iV x5.2.2))] [(4, {deep := some [.sl (some 27) (v9.map eRt)], row := some (eRt v20)}), (5, {row := some (eRt v20)}), (6, {lend := some (none, [.p (vRt v21.1)], .box [.raw (.bool v21.2)], true)}), (8, {fix := some (72, .ov false [.sl (some 27) ((x19.2 ++ [v21.1]).map eRt)])})] (B6 (idxO_some hv20).1 (map_get eRt (idxO_some hv20).2) (show getRow [[.sl (some 30) (x5.2.1.map (eO 27 eRt))]] [(0, 0), ((Int.toNat (w64 ((x5.2.1.length : Int) - 1))), 0)] = some [.sl (some 27) (v9.map eRt)] from ((gr0 rfl).trans (gre (map_get (eO 27 eRt) (idxO_some hv9).2)))) (show getRow [[.sl (some 30) (x5.2.1.map (eO 27 eRt))]] [(0, 0), ((Int.toNat (w64 ((x5.2.1.length : Int) - 1))), 0), ((Int.toNat x15.2.2), 0)] = some (eRt v20) from ((gr0 rfl).trans ((grs (map_get (eO 27 eRt) (idxO_some hv9).2) rfl).trans (gre (map_get eRt (idxO_some hv20).2))))) (wk_impl_calc_value hv21) (show List.length ((x19.2.map eRt) : List (List C)) + List.length ((([v21.1]).map eRt) : List (List C)) ≤ 1099511627776 from (by have hg := (guardO_some hu22); simpa using hg)) (A2 (show ∀ row ∈ ((([v21.1]).map eRt) : List (List C)), row.length = 2 from (rows_len fun _ => rfl)) (show (SV.ov false [.sl (some 27) ((x19.2.map eRt) ++ (([v21.1]).map eRt))] : SV) = .ov false [.sl (some 27) ((x19.2 ++ [v21.1]).map eRt)] from (congrArg (fun z => SV.ov false [.sl (some 27) z]) (List.map_append ..).symm))))) ?_
        refine b_n ?_
        refine q_n ?_
        exact jx (v21.2, (x19.2 ++ [v21.1])) h
       ·replace h := bs h
        obtain ⟨v23, hv23, h⟩ := h
        replace h := bs h
        obtain ⟨v24, hv24, h⟩ := h
        replace h := bs h
        obtain ⟨v25, hv25, h⟩ := h
        refine k_sreg (r_dq Tryz_mixed 13 [] [(0, .d false [.sl none (a0.map ePt)]), (6, .box [.raw (.bool x15.1)]), (7, .ov false [.sl (some 30) (x5.2.1.map (eO 27 eRt))]), (8, .ov false [.sl (some 27) (v3.map eRt)]), (9, .ref 7 [(0, 0), ((Int.toNat (w64 ((x5.2.1.length : Int) - 1))), 0)] none), (10, .ov false [.sl (some 27) (x15.2.1.map eRt)]), (11, .p (iV x15.2.2)), (20, .p (iV a1)), (21, .p (iV x5.2.2)), (51, .ov false [.sl (some 27) (v25.map eRt)]), (52, .p (iV (v25.length : Int))), (53, .p (iV 0))] [(4, {deep := some [.sl (some 27) (v9.map eRt)], row := some (eRt v23)}), (5, {row := some (eRt v23)}), (8, {deep := some [.sl (some 27) (v9.map eRt)], row := some (eRt v24)}), (9, {row := some (eRt v24)}), (10, {call := some (some [.d false [.sl none (v3.map eRt)], .v (vRt v23), .v (vRt v24)], [.ov false [.sl (some 27) (v25.map eRt)]], true)}), (11, {n := some v25.length})] (B6 (idxO_some hv23).1 (map_get eRt (idxO_some hv23).2) (show getRow [[.sl (some 30) (x5.2.1.map (eO 27 eRt))]] [(0, 0), ((Int.toNat (w64 ((x5.2.1.length : Int) - 1))), 0)] = some [.sl (some 27) (v9.map eRt)] from ((gr0 rfl).trans (gre (map_get (eO 27 eRt) (idxO_some hv9).2)))) (show getRow [[.sl (some 30) (x5.2.1.map (eO 27 eRt))]] [(0, 0), ((Int.toNat (w64 ((x5.2.1.length : Int) - 1))), 0), ((Int.toNat (w64 (x15.2.2 - 1))), 0)] = some (eRt v23) from ((gr0 rfl).trans ((grs (map_get (eO 27 eRt) (idxO_some hv9).2) rfl).trans (gre (map_get eRt (idxO_some hv23).2))))) (idxO_some hv24).1 (map_get eRt (idxO_some hv24).2) (A6 (show getRow [[.sl (some 30) (x5.2.1.map (eO 27 eRt))]] [(0, 0), ((Int.toNat (w64 ((x5.2.1.length : Int) - 1))), 0)] = some [.sl (some 27) (v9.map eRt)] from ((gr0 rfl).trans (gre (map_get (eO 27 eRt) (idxO_some hv9).2)))) (show getRow [[.sl (some 30) (x5.2.1.map (eO 27 eRt))]] [(0, 0), ((Int.toNat (w64 ((x5.2.1.length : Int) - 1))), 0), ((Int.toNat x15.2.2), 0)] = some (eRt v24) from ((gr0 rfl).trans ((grs (map_get (eO 27 eRt) (idxO_some hv9).2) rfl).trans (gre (map_get eRt (idxO_some hv24).2))))) (show ([.d false [.sl none (eraL (v3.map eRt))], .v (vRt v23), .v (vRt v24)] : List Arg) = [.d false [.sl none (v3.map eRt)], .v (vRt v23), .v (vRt v24)] from (by simp only [eraL_enc (h := eRt) (era_P er_I er_I)])) (wk_impl_cutsBetween hv25) (show List.all [.ov false [.sl (some 27) (v25.map eRt)]] simpleR = true from (sa_o (wnR1 (wnL_enc (wn_P wn_I wn_I)) rfl) rfl)) (show (v25.map eRt).length = v25.length from (List.length_map ..))))) ?_
        refine k_block ?_
        obtain ⟨y27, hl_x26, hk_x26⟩ := bs h
        clear h
        refine k_loop (J := fun (x : (Bool × (List Qr) × Int)) => [(0, .d false [.sl none (a0.map ePt)]), (6, .box [.raw (.bool x.1)]), (7, .ov false [.sl (some 30) (x5.2.1.map (eO 27 eRt))]), (8, .ov false [.sl (some 27) (v3.map eRt)]), (9, .ref 7 [(0, 0), ((Int.toNat (w64 ((x5.2.1.length : Int) - 1))), 0)] none), (10, .ov false [.sl (some 27) (x.2.1.map eRt)]), (11, .p (iV x15.2.2)), (20, .p (iV a1)), (21, .p (iV x5.2.2)), (51, .ov false [.sl (some 27) (v25.map eRt)]), (52, .p (iV (v25.length : Int))), (53, .p (iV x.2.2))]) hl_x26 (wk_of (by kernel_rfl) (by kernel_rfl)) (fun x26 o_x26 h hy_x26 => ?_)
        unfold impl_iterates_b3 at h
        refine k_sreg (r_gq [(0, .d false [.sl none (a0.map ePt)]), (6, .box [.raw (.bool x26.1)]), (7, .ov false [.sl (some 30) (x5.2.1.map (eO 27 eRt))]), (8, .ov false [.sl (some 27) (v3.map eRt)]), (9, .ref 7 [(0, 0), ((Int.toNat (w64 ((x5.2.1.length : Int) - 1))), 0)] none), (10, .ov false [.sl (some 27) (x26.2.1.map eRt)]), (11, .p (iV x15.2.2)), (20, .p (iV a1)), (21, .p (iV x5.2.2)), (51, .ov false [.sl (some 27) (v25.map eRt)]), (52, .p (iV (v25.length : Int))), (53, .p (iV x26.2.2)), (54, .p (.bool (decide (x26.2.2 < (v25.length : Int)))))] [] trivial) ?_
        refine k_seq ?_
        refine kc (decide (x26.2.2 < (v25.length : Int))) (fun hc15_27 => ?_) (fun hc15_27 => ?_)
        ·replace h := ite_t hc15_27 h
         refine k_skip ?_
         refine q_n ?_
         refine k_seq ?_
         refine k_block ?_
         replace h := bs h
         obtain ⟨v29, hv29, h⟩ := h
         refine k_sreg (r_gq [(0, .d false [.sl none (a0.map ePt)]), (6, .box [.raw (.bool x26.1)]), (7, .ov false [.sl (some 30) (x5.2.1.map (eO 27 eRt))]), (8, .ov false [.sl (some 27) (v3.map eRt)]), (9, .ref 7 [(0, 0), ((Int.toNat (w64 ((x5.2.1.length : Int) - 1))), 0)] none), (10, .ov false [.sl (some 27) (x26.2.1.map eRt)]), (11, .p (iV x15.2.2)), (13, .box (eRt v29)), (20, .p (iV a1)), (21, .p (iV x5.2.2)), (51, .ov false [.sl (some 27) (v25.map eRt)]), (52, .p (iV (v25.length : Int))), (53, .p (iV x26.2.2))] [(0, {row := some (eRt v29)}), (1, {row := some (eRt v29)})] (A3 (idxO_some hv29).1 (map_get eRt (idxO_some hv29).2) (show getRow [[.sl (some 27) (v25.map eRt)]] [(0, 0), ((Int.toNat x26.2.2), 0)] = some (eRt v29) from ((gr0 rfl).trans (gre (map_get eRt (idxO_some hv29).2)))))) ?_
         replace h := bs h
         obtain ⟨v30, hv30, h⟩ := h
         replace h := bs h
         obtain ⟨u31, hu31, h⟩ := h
         refine k_reg (r_gq [(0, .d false [.sl none (a0.map ePt)]), (6, .box [.raw (.bool v30.2)]), (7, .ov false [.sl (some 30) (x5.2.1.map (eO 27 eRt))]), (8, .ov false [.sl (some 27) (v3.map eRt)]), (9, .ref 7 [(0, 0), ((Int.toNat (w64 ((x5.2.1.length : Int) - 1))), 0)] none), (10, .ov false [.sl (some 27) ((x26.2.1 ++ [v30.1]).map eRt)]), (11, .p (iV x15.2.2)), (20, .p (iV a1)), (21, .p (iV x5.2.2)), (51, .ov false [.sl (some 27) (v25.map eRt)]), (52, .p (iV (v25.length : Int))), (53, .p (iV x26.2.2))] [(3, {lend := some (none, [.p (vRt v30.1)], .box [.raw (.bool v30.2)], true)}), (5, {fix := some (62, .ov false [.sl (some 27) ((x26.2.1 ++ [v30.1]).map eRt)])})] (A4 (wk_impl_calc_value hv30) (show List.length ((x26.2.1.map eRt) : List (List C)) + List.length ((([v30.1]).map eRt) : List (List C)) ≤ 1099511627776 from (by have hg := (guardO_some hu31); simpa using hg)) (show ∀ row ∈ ((([v30.1]).map eRt) : List (List C)), row.length = 2 from (rows_len fun _ => rfl)) (show (SV.ov false [.sl (some 27) ((x26.2.1.map eRt) ++ (([v30.1]).map eRt))] : SV) = .ov false [.sl (some 27) ((x26.2.1 ++ [v30.1]).map eRt)] from (congrArg (fun z => SV.ov false [.sl (some 27) z]) (List.map_append ..).symm)))) ?_
         refine b_n ?_
         refine q_n ?_
         refine k_reg (r_gq [(0, .d false [.sl none (a0.map ePt)]), (6, .box [.raw (.bool v30.2)]), (7, .ov false [.sl (some 30) (x5.2.1.map (eO 27 eRt))]), (8, .ov false [.sl (some 27) (v3.map eRt)]), (9, .ref 7 [(0, 0), ((Int.toNat (w64 ((x5.2.1.length : Int) - 1))), 0)] none), (10, .ov false [.sl (some 27) ((x26.2.1 ++ [v30.1]).map eRt)]), (11, .p (iV x15.2.2)), (20, .p (iV a1)), (21, .p (iV x5.2.2)), (51, .ov false [.sl (some 27) (v25.map eRt)]), (52, .p (iV (v25.length : Int))), (53, .p (iV (w64 (x26.2.2 + 1))))] [] trivial) ?_
         exact lqn (v30.2, (x26.2.1 ++ [v30.1]), (w64 (x26.2.2 + 1))) h
        ·replace h := ite_f hc15_27 h
         refine k_exit ?_
         refine q_x ?_
         refine lq_x ?_
         refine b_x ?_
         have hyy := hy_x26 _ (oi h).symm
         subst hyy
         have h := hk_x26
         refine q_n ?_
         exact jx (x26.1, x26.2.1) h
     ·replace h := ite_f hc10_16 h
      refine k_exit ?_
      refine q_x ?_
      refine lq_x ?_
      refine b_x ?_
      have hyy := hy_x15 _ (oi h).symm
      subst hyy
      have h := hk_x15
      refine q_n ?_
      exact jx (x15.1, x15.2.1) h
  ·replace h := ite_f hc5_6 h
   refine k_exit ?_
   refine q_x ?_
   refine lq_x ?_
   refine b_x ?_
   have hyy := hy_x5 _ (oi h).symm
   subst hyy
   have h := hk_x5
   dsimp only [Sum.elim] at h
   refine q_n ?_
   exact jx x5.2.1 h
theorem wk_impl_iterated {a0 : (List Qp)} {a1 : Int}  {r : ((List (List Qr)) × Bool)} (h : impl_iterated a0 a1 = some r) : Meets Tryz.prog 81 [.d false [.sl none (a0.map ePt)], wI a1] { vals := [.ov false [.sl (some 30) (r.1.map (eO 27 eRt))], .p (.bool r.2)] } := by
 refine mo Tryz.func81 [(0, .d false [.sl none (a0.map ePt)]), (1, .p (iV a1))] ?_
 unfold impl_iterated at h
 refine k_sreg (r_gq [(0, .d false [.sl none (a0.map ePt)]), (1, .p (iV a1))] [] trivial) ?_
 refine k_seq ?_
 replace h := bs h
 obtain ⟨v1, hv1, h⟩ := h
 replace h := bs h
 obtain ⟨w3, hw3, h⟩ := h
 refine k_sreg (l1 := [(0, .d false [.sl none (a0.map ePt)]), (1, .p (iV a1)), (13, .p (.bool w3))]) ?_ ?_
 ·clear h
  rcases ft (!v1) with ha0 | ha0
  ·replace hw3 := ite_t ha0 hw3
   have hw3 := oi hw3
   subst hw3
   exact (r_gq [(0, .d false [.sl none (a0.map ePt)]), (1, .p (iV a1)), (13, .p (.bool true))] [(1, {call := some (none, [.p (.bool v1)], true)}), (4, gT), (5, gT), (6, gT), (7, bT)] (A5 (wk_impl_isStrict hv1) ha0 ha0 ha0 ha0))
  ·replace hw3 := ite_f ha0 hw3
   replace hw3 := bs hw3
   obtain ⟨v2, hv2, hw3⟩ := hw3
   have hw3 := oi hw3
   subst hw3
   exact (r_gq [(0, .d false [.sl none (a0.map ePt)]), (1, .p (iV a1)), (13, .p (.bool (!v2)))] [(1, {call := some (none, [.p (.bool v1)], true)}), (4, gF), (5, {g := some false, call := some (none, [.p (.bool v2)], true)}), (6, gF), (7, bF)] (A6 (wk_impl_isStrict hv1) ha0 ha0 (wk_impl_within hv2) ha0 ha0))
 ·refine kc w3 (fun hc2_3 => ?_) (fun hc2_3 => ?_)
  ·replace h := ite_t hc2_3 h
   refine k_sreg (r_gq [(4, .ov false [.sl (some 30) []]), (5, .p (.bool false))] [] trivial) ?_
   refine k_ret ?_
   refine q_r ?_
   obtain rfl := oi h
   exact er [(.ov false [.sl (some 30) []], 4), (.p (.bool false), 5)]
  ·replace h := ite_f hc2_3 h
   refine k_skip ?_
   refine q_n ?_
   replace h := bs h
   obtain ⟨v5, hv5, h⟩ := h
   refine k_sreg (r_gq [(4, .ov false [.sl (some 30) (v5.1.map (eO 27 eRt))]), (5, .p (.bool v5.2))] [(2, {call := some (none, [.ov false [.sl (some 30) (v5.1.map (eO 27 eRt))], .p (.bool v5.2)], true)})] (A2 (wk_impl_iterates hv5) (show List.all [.ov false [.sl (some 30) (v5.1.map (eO 27 eRt))], .p (.bool v5.2)] simpleR = true from (sa_o (wnR1 (wnL_enc (wn_O (wn_P wn_I wn_I))) rfl) (sa_p rfl))))) ?_
   refine k_ret ?_
   obtain rfl := oi h
   exact er [(.ov false [.sl (some 30) (v5.1.map (eO 27 eRt))], 4), (.p (.bool v5.2), 5)]
theorem wk_impl_LapGrowth {a0 : (List Qp)} {a1 : Int}  {r : ((List Int) × Bool)} (h : impl_LapGrowth a0 a1 = some r) : Meets Tryz.prog 24 [.d false [.sl none (a0.map ePt)], wI a1] { vals := [.ov false [.sl (some 3) (r.1.map eI)], .p (.bool r.2)] } := by
 refine mo Tryz.func24 [(0, .d false [.sl none (a0.map ePt)]), (1, .p (iV a1))] ?_
 unfold impl_LapGrowth at h
 refine k_sreg (r_gq [(0, .d false [.sl none (a0.map ePt)]), (1, .p (iV a1))] [] trivial) ?_
 replace h := bs h
 obtain ⟨v1, hv1, h⟩ := h
 refine k_sreg (r_gq [(6, .ov false [.sl (some 30) (v1.1.map (eO 27 eRt))]), (7, .p (.bool v1.2))] [(2, {call := some (none, [.ov false [.sl (some 30) (v1.1.map (eO 27 eRt))], .p (.bool v1.2)], true)})] (A2 (wk_impl_iterated hv1) (show List.all [.ov false [.sl (some 30) (v1.1.map (eO 27 eRt))], .p (.bool v1.2)] simpleR = true from (sa_o (wnR1 (wnL_enc (wn_O (wn_P wn_I wn_I))) rfl) (sa_p rfl))))) ?_
 refine k_sreg (r_gq [(6, .ov false [.sl (some 30) (v1.1.map (eO 27 eRt))]), (7, .p (.bool v1.2)), (8, .ov false [.sl (some 3) []])] [] trivial) ?_
 refine k_join (J := fun (x : (List Int)) => [(7, .p (.bool v1.2)), (8, .ov false [.sl (some 3) (x.map eI)])]) (K := fun x => impl_LapGrowth_k1 v1 x = some r) (fun x2 h => ?_) ?_
 ·unfold impl_LapGrowth_k1 at h
  refine k_sreg (r_gq [(4, .ov false [.sl (some 3) (x2.map eI)]), (5, .p (.bool v1.2))] [] trivial) ?_
  refine k_ret ?_
  obtain rfl := oi h
  exact er [(.ov false [.sl (some 3) (x2.map eI)], 4), (.p (.bool v1.2), 5)]
 ·refine k_sreg (r_gq [(6, .ov false [.sl (some 30) (v1.1.map (eO 27 eRt))]), (7, .p (.bool v1.2)), (8, .ov false [.sl (some 3) []]), (17, .ref 6 [(0, 0)] none), (18, .p (iV (v1.1.length : Int))), (19, .p (iV 0))] [(1, {n := some v1.1.length})] (A1 (show (v1.1.map (eO 27 eRt)).length = v1.1.length from (List.length_map ..)))) ?_
  refine k_block ?_
  obtain ⟨y4, hl_x3, hk_x3⟩ := bs h
  clear h
  refine k_loop (J := fun (x : ((List Int) × Int)) => [(6, .ov false [.sl (some 30) (v1.1.map (eO 27 eRt))]), (7, .p (.bool v1.2)), (8, .ov false [.sl (some 3) (x.1.map eI)]), (17, .ref 6 [(0, 0)] none), (18, .p (iV (v1.1.length : Int))), (19, .p (iV x.2))]) hl_x3 (wk_of (by kernel_rfl) (by kernel_rfl)) (fun x3 o_x3 h hy_x3 => ?_)
  unfold impl_LapGrowth_b1 at h
  refine k_sreg (r_gq [(6, .ov false [.sl (some 30) (v1.1.map (eO 27 eRt))]), (7, .p (.bool v1.2)), (8, .ov false [.sl (some 3) (x3.1.map eI)]), (17, .ref 6 [(0, 0)] none), (18, .p (iV (v1.1.length : Int))), (19, .p (iV x3.2)), (20, .p (.bool (decide (x3.2 < (v1.1.length : Int)))))] [] trivial) ?_
  refine k_seq ?_
  refine kc (decide (x3.2 < (v1.1.length : Int))) (fun hc5_4 => ?_) (fun hc5_4 => ?_)
  ·replace h := ite_t hc5_4 h
   refine k_skip ?_
   refine q_n ?_
   refine k_seq ?_
   refine k_block ?_
   replace h := bs h
   obtain ⟨v6, hv6, h⟩ := h
   refine k_sreg (r_gq [(6, .ov false [.sl (some 30) (v1.1.map (eO 27 eRt))]), (7, .p (.bool v1.2)), (8, .ov false [.sl (some 3) (x3.1.map eI)]), (10, .ref 6 [(0, 0), ((Int.toNat x3.2), 0)] none), (17, .ref 6 [(0, 0)] none), (18, .p (iV (v1.1.length : Int))), (19, .p (iV x3.2))] [(0, {row := some [.sl (some 27) (v6.map eRt)]}), (1, {row := some [.sl (some 27) (v6.map eRt)]})] (A4 (idxO_some hv6).1 (map_get (eO 27 eRt) (idxO_some hv6).2) (show frR [.sl (some 27) (v6.map eRt)] = false from rfl) (show getRow [[.sl (some 30) (v1.1.map (eO 27 eRt))]] [(0, 0), ((Int.toNat x3.2), 0)] = some [.sl (some 27) (v6.map eRt)] from ((gr0 rfl).trans (gre (map_get (eO 27 eRt) (idxO_some hv6).2)))))) ?_
   replace h := bs h
   obtain ⟨u7, hu7, h⟩ := h
   refine k_reg (r_gq [(6, .ov false [.sl (some 30) (v1.1.map (eO 27 eRt))]), (7, .p (.bool v1.2)), (8, .ov false [.sl (some 3) ((x3.1 ++ [(w64 ((v6.length : Int) - 1))]).map eI)]), (17, .ref 6 [(0, 0)] none), (18, .p (iV (v1.1.length : Int))), (19, .p (iV x3.2))] [(2, {deep := some [.sl (some 27) (v6.map eRt)], n := some v6.length}), (5, {fix := some (28, .ov false [.sl (some 3) ((x3.1 ++ [(w64 ((v6.length : Int) - 1))]).map eI)])})] (A5 (show (v6.map eRt).length = v6.length from (List.length_map ..)) (show getRow [[.sl (some 30) (v1.1.map (eO 27 eRt))]] [(0, 0), ((Int.toNat x3.2), 0)] = some [.sl (some 27) (v6.map eRt)] from ((gr0 rfl).trans (gre (map_get (eO 27 eRt) (idxO_some hv6).2)))) (show List.length ((x3.1.map eI) : List (List C)) + List.length ((([(w64 ((v6.length : Int) - 1))]).map eI) : List (List C)) ≤ 1099511627776 from (by have hg := (guardO_some hu7); simpa using hg)) (show ∀ row ∈ ((([(w64 ((v6.length : Int) - 1))]).map eI) : List (List C)), row.length = 1 from (rows_len fun _ => rfl)) (show (SV.ov false [.sl (some 3) ((x3.1.map eI) ++ (([(w64 ((v6.length : Int) - 1))]).map eI))] : SV) = .ov false [.sl (some 3) ((x3.1 ++ [(w64 ((v6.length : Int) - 1))]).map eI)] from (congrArg (fun z => SV.ov false [.sl (some 3) z]) (List.map_append ..).symm)))) ?_
   refine b_n ?_
   refine q_n ?_
   refine k_reg (r_gq [(6, .ov false [.sl (some 30) (v1.1.map (eO 27 eRt))]), (7, .p (.bool v1.2)), (8, .ov false [.sl (some 3) ((x3.1 ++ [(w64 ((v6.length : Int) - 1))]).map eI)]), (17, .ref 6 [(0, 0)] none), (18, .p (iV (v1.1.length : Int))), (19, .p (iV (w64 (x3.2 + 1))))] [] trivial) ?_
   exact lqn ((x3.1 ++ [(w64 ((v6.length : Int) - 1))]), (w64 (x3.2 + 1))) h
  ·replace h := ite_f hc5_4 h
   refine k_exit ?_
   refine q_x ?_
   refine lq_x ?_
   refine b_x ?_
   have hyy := hy_x3 _ (oi h).symm
   subst hyy
   have h := hk_x3
   refine q_n ?_
   exact jx x3.1 h
theorem wk_spec_raUnit {a0 : Qr}  {r : Bool} (h : spec_raUnit a0 = some r) : Meets Tryz.prog 163 [.v (vRt a0)] { vals := [.p (.bool r)] } := by
 refine mo Tryz.func163 [(0, .p (vRt a0))] ?_
 unfold spec_raUnit at h
 refine k_sreg (r_gq [(1, .box (eRt a0))] [] trivial) ?_
 replace h := bs h
 obtain ⟨v1, hv1, h⟩ := h
 replace h := bs h
 obtain ⟨w3, hw3, h⟩ := h
 refine k_sreg (l1 := [(2, .p (.bool w3))]) ?_ ?_
 ·clear h
  rcases ft v1 with ha0 | ha0
  ·replace hw3 := ite_t ha0 hw3
   replace hw3 := bs hw3
   obtain ⟨v2, hv2, hw3⟩ := hw3
   have hw3 := oi hw3
   subst hw3
   exact (r_gq [(2, .p (.bool v2))] [(1, {call := some (none, [.p (.bool v1)], true)}), (3, gT), (4, gT), (5, gT), (6, gT), (7, {g := some true, call := some (none, [.p (.bool v2)], true)}), (8, bT)] (B6 (wk_spec_raGood hv1) ha0 ha0 ha0 ha0 ha0 (A2 (wk_spec_l1In hv2) ha0)))
  ·replace hw3 := ite_f ha0 hw3
   have hw3 := oi hw3
   subst hw3
   exact (r_gq [(2, .p (.bool false))] [(1, {call := some (none, [.p (.bool v1)], true)}), (3, gF), (4, gF), (5, gF), (6, gF), (7, gF), (8, bF)] (B6 (wk_spec_raGood hv1) ha0 ha0 ha0 ha0 ha0 (A1 ha0)))
 ·refine k_ret ?_
  obtain rfl := oi h
  exact er [(.p (.bool w3), 2)]
theorem wk_spec_imCoord {a0 : Qr}  {r : Bool} (h : spec_imCoord a0 = some r) : Meets Tryz.prog 125 [.v (vRt a0)] { vals := [.p (.bool r)] } := by
 refine mo Tryz.func125 [(0, .p (vRt a0))] ?_
 unfold spec_imCoord at h
 refine k_sreg (r_gq [(1, .box (eRt a0))] [] trivial) ?_
 replace h := bs h
 obtain ⟨v1, hv1, h⟩ := h
 refine k_sreg (l1 := [(2, .p (.bool (v1 && (decide (a0.2 ≤ 100)))))]) ?_ ?_
 ·rcases ft v1 with ha0 | ha0
  ·exact RegOk.of_eq (l2 := [(2, .p (.bool (v1 && (decide (a0.2 ≤ 100)))))]) (r_gq [(2, .p (.bool (decide (a0.2 ≤ 100))))] [(1, {call := some (none, [.p (.bool v1)], true)}), (3, gT), (4, gT), (5, gT), (6, bT)] (A5 (wk_spec_raUnit hv1) ha0 ha0 ha0 ha0)) (by simp [ha0])
  ·exact RegOk.of_eq (l2 := [(2, .p (.bool (v1 && (decide (a0.2 ≤ 100)))))]) (r_gq [(2, .p (.bool false))] [(1, {call := some (none, [.p (.bool v1)], true)}), (3, gF), (4, gF), (5, gF), (6, bF)] (A5 (wk_spec_raUnit hv1) ha0 ha0 ha0 ha0)) (by simp [ha0])
 ·refine k_ret ?_
  obtain rfl := oi h
  exact er [(.p (.bool (v1 && (decide (a0.2 ≤ 100)))), 2)]
theorem wk_spec_imGood {a0 : (List Qp)}  {r : Bool} (h : spec_imGood a0 = some r) : Meets Tryz.prog 92 [.d false [.sl none (a0.map ePt)]] { vals := [.p (.bool r)] } := by
 refine mo Tryz.func92 [(0, .d false [.sl none (a0.map ePt)])] ?_
 unfold spec_imGood at h
 refine k_sreg (r_gq [(0, .d false [.sl none (a0.map ePt)])] [] trivial) ?_
 refine k_seq ?_
 replace h := bs h
 obtain ⟨v1, hv1, h⟩ := h
 refine k_sreg (r_gq [(0, .d false [.sl none (a0.map ePt)]), (8, .p (.bool (!v1)))] [(1, {n := some a0.length}), (2, {call := some (none, [.p (.bool v1)], true)})] (A2 (show (a0.map ePt).length = a0.length from (List.length_map ..)) (wk_spec_l1In hv1))) ?_
 refine kc (!v1) (fun hc2_1 => ?_) (fun hc2_1 => ?_)
 ·replace h := ite_t hc2_1 h
  refine k_sreg (r_gq [(2, .p (.bool false))] [] trivial) ?_
  refine k_ret ?_
  refine q_r ?_
  obtain rfl := oi h
  exact er [(.p (.bool false), 2)]
 ·replace h := ite_f hc2_1 h
  refine k_skip ?_
  refine q_n ?_
  refine k_join (J := fun (x : Unit) => [(0, .d false [.sl none (a0.map ePt)])]) (K := fun x => spec_imGood_k1 a0 x = some r) (fun x3 h => ?_) ?_
  ·unfold spec_imGood_k1 at h
   replace h := bs h
   obtain ⟨v4, hv4, h⟩ := h
   replace h := bs h
   obtain ⟨v5, hv5, h⟩ := h
   replace h := bs h
   obtain ⟨v6, hv6, h⟩ := h
   replace h := bs h
   obtain ⟨w10, hw10, h⟩ := h
   refine k_sreg (l1 := [(2, .p (.bool w10))]) ?_ ?_
   ·clear h
    rcases ft (v6 == 0) with ha1 | ha1
    ·replace hw10 := ite_t ha1 hw10
     replace hw10 := bs hw10
     obtain ⟨v7, hv7, hw10⟩ := hw10
     replace hw10 := bs hw10
     obtain ⟨v8, hv8, hw10⟩ := hw10
     replace hw10 := bs hw10
     obtain ⟨v9, hv9, hw10⟩ := hw10
     have hw10 := oi hw10
     subst hw10
     exact (r_dq Tryz_mixed 16 [] [(2, .p (.bool (v9 == 0)))] [(1, {row := some (ePt v4)}), (4, {call := some (none, [.p (vRt v5)], true)}), (5, {call := some (none, [.p (iV v6)], true)}), (8, gT), (9, gT), (10, {g := some true, n := some a0.length}), (11, gT), (12, {g := some true, row := some (ePt v7)}), (13, gT), (14, gT), (15, {g := some true, call := some (none, [.p (vRt v8)], true)}), (16, {g := some true, call := some (none, [.p (iV v9)], true)}), (17, gT), (18, bT)] (B6 (idxO_some hv4).1 (map_get ePt (idxO_some hv4).2) (wk_spec_raInt hv5) (wk_spec_raCmp hv6) ha1 ha1 (B6 ha1 (show (a0.map ePt).length = a0.length from (List.length_map ..)) ha1 ha1 (idxO_some hv7).1 (map_get ePt (idxO_some hv7).2) (B6 ha1 ha1 ha1 (wk_spec_raInt hv8) ha1 (wk_spec_raCmp hv9) (A2 ha1 ha1)))))
    ·replace hw10 := ite_f ha1 hw10
     have hw10 := oi hw10
     subst hw10
     exact (r_dq Tryz_mixed 16 [] [(2, .p (.bool false))] [(1, {row := some (ePt v4)}), (4, {call := some (none, [.p (vRt v5)], true)}), (5, {call := some (none, [.p (iV v6)], true)}), (8, gF), (9, gF), (10, gF), (11, gF), (12, gF), (13, gF), (14, gF), (15, gF), (16, gF), (17, gF), (18, bF)] (B6 (idxO_some hv4).1 (map_get ePt (idxO_some hv4).2) (wk_spec_raInt hv5) (wk_spec_raCmp hv6) ha1 ha1 (B6 ha1 ha1 ha1 ha1 ha1 ha1 (A3 ha1 ha1 ha1))))
   ·refine k_ret ?_
    obtain rfl := oi h
    exact er [(.p (.bool w10), 2)]
  ·refine k_sreg (r_gq [(0, .d false [.sl none (a0.map ePt)]), (9, .d false [.sl none (a0.map ePt)]), (10, .p (iV (a0.length : Int))), (11, .p (iV 0))] [(1, {n := some a0.length})] (A1 (show (a0.map ePt).length = a0.length from (List.length_map ..)))) ?_
   refine k_block ?_
   obtain ⟨y12, hl_x11, hk_x11⟩ := bs h
   clear h
   refine k_loop (J := fun (x : Int) => [(0, .d false [.sl none (a0.map ePt)]), (9, .d false [.sl none (a0.map ePt)]), (10, .p (iV (a0.length : Int))), (11, .p (iV x))]) hl_x11 (wk_of (by kernel_rfl) (by kernel_rfl)) (fun x11 o_x11 h hy_x11 => ?_)
   unfold spec_imGood_b1 at h
   refine k_sreg (r_gq [(0, .d false [.sl none (a0.map ePt)]), (9, .d false [.sl none (a0.map ePt)]), (10, .p (iV (a0.length : Int))), (11, .p (iV x11)), (12, .p (.bool (decide (x11 < (a0.length : Int)))))] [] trivial) ?_
   refine k_seq ?_
   refine kc (decide (x11 < (a0.length : Int))) (fun hc5_12 => ?_) (fun hc5_12 => ?_)
   ·replace h := ite_t hc5_12 h
    refine k_skip ?_
    refine q_n ?_
    refine k_seq ?_
    refine k_block ?_
    replace h := bs h
    obtain ⟨v14, hv14, h⟩ := h
    refine k_sreg (r_gq [(0, .d false [.sl none (a0.map ePt)]), (3, .p (iV x11)), (4, .box (ePt v14)), (9, .d false [.sl none (a0.map ePt)]), (10, .p (iV (a0.length : Int))), (11, .p (iV x11))] [(1, {row := some (ePt v14)})] (A2 (idxO_some hv14).1 (map_get ePt (idxO_some hv14).2))) ?_
    replace h := bs h
    obtain ⟨v15, hv15, h⟩ := h
    replace h := bs h
    obtain ⟨w19, hw19, h⟩ := h
    refine k_sreg (l1 := [(0, .d false [.sl none (a0.map ePt)]), (9, .d false [.sl none (a0.map ePt)]), (10, .p (iV (a0.length : Int))), (11, .p (iV x11)), (41, .p (.bool w19))]) ?_ ?_
    ·clear h
     rcases ft (!v15) with ha2 | ha2
     ·replace hw19 := ite_t ha2 hw19
      have hw19 := oi hw19
      subst hw19
      exact (r_dq Tryz_mixed 22 [] [(0, .d false [.sl none (a0.map ePt)]), (9, .d false [.sl none (a0.map ePt)]), (10, .p (iV (a0.length : Int))), (11, .p (iV x11)), (41, .p (.bool true))] [(2, {call := some (none, [.p (.bool v15)], true)}), (5, gT), (6, gT), (7, gT), (8, gT), (9, bT), (11, gT), (12, gT), (13, gT), (24, gT), (25, bT)] (B6 (wk_spec_imCoord hv15) ha2 ha2 ha2 ha2 ha2 (A5 (show true = true from rfl) (show true = true from rfl) (show true = true from rfl) (show true = true from rfl) (show true = true from rfl))))
     ·replace hw19 := ite_f ha2 hw19
      replace hw19 := bs hw19
      obtain ⟨v16, hv16, hw19⟩ := hw19
      rcases ft (!v16) with ha3 | ha3
      ·replace hw19 := ite_t ha3 hw19
       have hw19 := oi hw19
       subst hw19
       exact (r_dq Tryz_mixed 22 [] [(0, .d false [.sl none (a0.map ePt)]), (9, .d false [.sl none (a0.map ePt)]), (10, .p (iV (a0.length : Int))), (11, .p (iV x11)), (41, .p (.bool true))] [(2, {call := some (none, [.p (.bool v15)], true)}), (5, gF), (6, gF), (7, {g := some false, call := some (none, [.p (.bool v16)], true)}), (8, gF), (9, bF), (11, gT), (12, gT), (13, gT), (24, gT), (25, bT)] (B6 (wk_spec_imCoord hv15) ha2 ha2 ha2 (wk_spec_imCoord hv16) ha2 (A6 ha2 ha3 ha3 ha3 ha3 ha3)))
      ·replace hw19 := ite_f ha3 hw19
       rcases ft (decide (x11 > 0)) with ha4 | ha4
       ·replace hw19 := ite_t ha4 hw19
        replace hw19 := bs hw19
        obtain ⟨v17, hv17, hw19⟩ := hw19
        replace hw19 := bs hw19
        obtain ⟨v18, hv18, hw19⟩ := hw19
        have hw19 := oi hw19
        subst hw19
        exact (r_dq Tryz_mixed 22 [] [(0, .d false [.sl none (a0.map ePt)]), (9, .d false [.sl none (a0.map ePt)]), (10, .p (iV (a0.length : Int))), (11, .p (iV x11)), (41, .p (.bool (decide (v18 ≥ 0))))] [(2, {call := some (none, [.p (.bool v15)], true)}), (5, gF), (6, gF), (7, {g := some false, call := some (none, [.p (.bool v16)], true)}), (8, gF), (9, bF), (11, gF), (12, gF), (13, gF), (14, gT), (15, gT), (16, gT), (17, {g := some true, row := some (ePt v17)}), (18, gT), (19, gT), (20, gT), (21, gT), (22, {g := some true, call := some (none, [.p (iV v18)], true)}), (23, gT), (24, {g := some false, b := some true}), (25, bF)] (B6 (wk_spec_imCoord hv15) ha2 ha2 ha2 (wk_spec_imCoord hv16) ha2 (B6 ha2 ha3 ha3 ha3 ha4 ha4 (B6 ha4 ha4 (idxO_some hv17).1 (map_get ePt (idxO_some hv17).2) ha4 ha4 (B6 ha4 ha4 ha4 (wk_spec_raCmp hv18) ha4 ha3 (A2 ha4 ha3))))))
       ·replace hw19 := ite_f ha4 hw19
        have hw19 := oi hw19
        subst hw19
        exact (r_dq Tryz_mixed 22 [] [(0, .d false [.sl none (a0.map ePt)]), (9, .d false [.sl none (a0.map ePt)]), (10, .p (iV (a0.length : Int))), (11, .p (iV x11)), (41, .p (.bool false))] [(2, {call := some (none, [.p (.bool v15)], true)}), (5, gF), (6, gF), (7, {g := some false, call := some (none, [.p (.bool v16)], true)}), (8, gF), (9, bF), (11, gF), (12, gF), (13, gF), (14, gF), (15, gF), (16, gF), (17, gF), (18, gF), (19, gF), (20, gF), (21, gF), (22, gF), (23, gF), (24, {g := some false, b := some false}), (25, bF)] (B6 (wk_spec_imCoord hv15) ha2 ha2 ha2 (wk_spec_imCoord hv16) ha2 (B6 ha2 ha3 ha3 ha3 ha4 ha4 (B6 ha4 ha4 ha4 ha4 ha4 ha4 (A5 ha4 ha4 ha3 ha4 ha3)))))
    ·refine kc w19 (fun hc6_19 => ?_) (fun hc6_19 => ?_)
     ·replace h := ite_t hc6_19 h
      refine k_sreg (r_gq [(2, .p (.bool false))] [] trivial) ?_
      refine k_ret ?_
      refine b_r ?_
      refine q_r ?_
      refine lq_r ?_
      refine b_r ?_
      refine q_r ?_
      have hyy := hy_x11 _ (oi h).symm
      subst hyy
      have h := hk_x11
      dsimp only [Sum.elim] at h
      obtain rfl := oi h
      exact er [(.p (.bool false), 2)]
     ·replace h := ite_f hc6_19 h
      refine k_skip ?_
      refine b_n ?_
      refine q_n ?_
      refine k_reg (r_gq [(0, .d false [.sl none (a0.map ePt)]), (9, .d false [.sl none (a0.map ePt)]), (10, .p (iV (a0.length : Int))), (11, .p (iV (w64 (x11 + 1))))] [] trivial) ?_
      exact lqn (w64 (x11 + 1)) h
   ·replace h := ite_f hc5_12 h
    refine k_exit ?_
    refine q_x ?_
    refine lq_x ?_
    refine b_x ?_
    have hyy := hy_x11 _ (oi h).symm
    subst hyy
    have h := hk_x11
    dsimp only [Sum.elim] at h
    refine q_n ?_
    exact jx () h
theorem wk_spec_raSub {a0 : Qr} {a1 : Qr}  {r : (Qr × Bool)} (h : spec_raSub a0 a1 = some r) : Meets Tryz.prog 76 [.v (vRt a0), .v (vRt a1)] { vals := [.p (vRt r.1), .p (.bool r.2)] } := by
 refine mo Tryz.func76 [(0, .p (vRt a0)), (1, .p (vRt a1))] ?_
 unfold spec_raSub at h
 refine k_sreg (r_gq [(2, .box (eRt a0)), (3, .box (eRt a1)), (4, .box [rI 0, rI 0])] [] trivial) ?_
 replace h := bs h
 obtain ⟨v1, hv1, h⟩ := h
 refine k_sreg (r_gq [(4, .box (eRt v1.1)), (5, .p (.bool v1.2))] [(16, {call := some (none, [.p (vRt v1.1), .p (.bool v1.2)], true)})] (A1 (wk_spec_raMake hv1))) ?_
 refine k_ret ?_
 obtain rfl := oi h
 exact er [(.p (vRt v1.1), 4), (.p (.bool v1.2), 5)]
theorem wk_spec_raDiv {a0 : Qr} {a1 : Qr}  {r : (Qr × Bool)} (h : spec_raDiv a0 a1 = some r) : Meets Tryz.prog 197 [.v (vRt a0), .v (vRt a1)] { vals := [.p (vRt r.1), .p (.bool r.2)] } := by
 refine mo Tryz.func197 [(0, .p (vRt a0)), (1, .p (vRt a1))] ?_
 unfold spec_raDiv at h
 refine k_sreg (r_gq [(2, .box (eRt a0)), (3, .box (eRt a1)), (4, .box [rI 0, rI 0])] [] trivial) ?_
 refine k_seq ?_
 refine k_sreg (r_gq [(2, .box (eRt a0)), (3, .box (eRt a1)), (4, .box [rI 0, rI 0]), (8, .p (.bool (a1.1 == 0)))] [] trivial) ?_
 refine kc (a1.1 == 0) (fun hc2_0 => ?_) (fun hc2_0 => ?_)
 ·replace h := ite_t hc2_0 h
  refine k_sreg (r_gq [(4, .box [rI 0, rI 0]), (5, .p (.bool false))] [] trivial) ?_
  refine k_ret ?_
  refine q_r ?_
  obtain rfl := oi h
  exact er [(.p (.agg #[.int .i64 0, .int .i64 0]), 4), (.p (.bool false), 5)]
 ·replace h := ite_f hc2_0 h
  refine k_skip ?_
  refine q_n ?_
  replace h := bs h
  obtain ⟨v2, hv2, h⟩ := h
  refine k_sreg (r_gq [(4, .box (eRt v2.1)), (5, .p (.bool v2.2))] [(10, {call := some (none, [.p (vRt v2.1), .p (.bool v2.2)], true)})] (A1 (wk_spec_raMake hv2))) ?_
  refine k_ret ?_
  obtain rfl := oi h
  exact er [(.p (vRt v2.1), 4), (.p (.bool v2.2), 5)]
theorem wk_spec_imSlope {a0 : Qp} {a1 : Qp}  {r : Qr} (h : spec_imSlope a0 a1 = some r) : Meets Tryz.prog 176 [.v (vPt a0), .v (vPt a1)] { vals := [.p (vRt r)] } := by
 refine mo Tryz.func176 [(0, .p (vPt a0)), (1, .p (vPt a1))] ?_
 unfold spec_imSlope at h
 refine k_sreg (r_gq [(2, .box (ePt a0)), (3, .box (ePt a1)), (4, .box [rI 0, rI 0])] [] trivial) ?_
 replace h := bs h
 obtain ⟨v1, hv1, h⟩ := h
 refine k_sreg (r_gq [(2, .box (ePt a0)), (3, .box (ePt a1)), (4, .box [rI 0, rI 0]), (5, .box (eRt v1.1))] [(4, {call := some (none, [.p (vRt v1.1), .p (.bool v1.2)], true)})] (A1 (wk_spec_raSub hv1))) ?_
 replace h := bs h
 obtain ⟨v2, hv2, h⟩ := h
 refine k_sreg (r_gq [(4, .box [rI 0, rI 0]), (5, .box (eRt v1.1)), (7, .box (eRt v2.1))] [(4, {call := some (none, [.p (vRt v2.1), .p (.bool v2.2)], true)})] (A1 (wk_spec_raSub hv2))) ?_
 replace h := bs h
 obtain ⟨v3, hv3, h⟩ := h
 refine k_sreg (r_gq [(4, .box [rI 0, rI 0]), (9, .box (eRt v3.1))] [(2, {call := some (none, [.p (vRt v3.1), .p (.bool v3.2)], true)})] (A1 (wk_spec_raDiv hv3))) ?_
 refine k_sreg (r_gq [(4, .box (eRt v3.1))] [] trivial) ?_
 refine k_ret ?_
 obtain rfl := oi h
 exact er [(.p (vRt v3.1), 4)]
theorem wk_spec_imSlopes {a0 : (List Qp)}  {r : (List Qr)} (h : spec_imSlopes a0 = some r) : Meets Tryz.prog 144 [.d false [.sl none (a0.map ePt)]] { vals := [.ov false [.sl (some 27) (r.map eRt)]] } := by
 refine mo Tryz.func144 [(0, .d false [.sl none (a0.map ePt)])] ?_
 unfold spec_imSlopes at h
 refine k_sreg (r_gq [(0, .d false [.sl none (a0.map ePt)])] [] trivial) ?_
 refine k_sreg (r_gq [(0, .d false [.sl none (a0.map ePt)]), (3, .ov false [.sl (some 27) []])] [] trivial) ?_
 refine k_join (J := fun (x : (List Qr)) => [(3, .ov false [.sl (some 27) (x.map eRt)])]) (K := fun x => spec_imSlopes_k1 x = some r) (fun x1 h => ?_) ?_
 ·unfold spec_imSlopes_k1 at h
  refine k_sreg (r_gq [(2, .ov false [.sl (some 27) (x1.map eRt)])] [] trivial) ?_
  refine k_ret ?_
  obtain rfl := oi h
  exact er [(.ov false [.sl (some 27) (x1.map eRt)], 2)]
 ·refine k_sreg (r_gq [(0, .d false [.sl none (a0.map ePt)]), (3, .ov false [.sl (some 27) []]), (4, .p (iV 1))] [] trivial) ?_
  refine k_block ?_
  obtain ⟨y3, hl_x2, hk_x2⟩ := bs h
  clear h
  refine k_loop (J := fun (x : ((List Qr) × Int)) => [(0, .d false [.sl none (a0.map ePt)]), (3, .ov false [.sl (some 27) (x.1.map eRt)]), (4, .p (iV x.2))]) hl_x2 (wk_of (by kernel_rfl) (by kernel_rfl)) (fun x2 o_x2 h hy_x2 => ?_)
  unfold spec_imSlopes_b1 at h
  refine k_seq ?_
  refine k_sreg (r_gq [(0, .d false [.sl none (a0.map ePt)]), (3, .ov false [.sl (some 27) (x2.1.map eRt)]), (4, .p (iV x2.2)), (8, .p (.bool (decide (x2.2 < (a0.length : Int)))))] [(2, {n := some a0.length})] (A1 (show (a0.map ePt).length = a0.length from (List.length_map ..)))) ?_
  refine kc (decide (x2.2 < (a0.length : Int))) (fun hc5_3 => ?_) (fun hc5_3 => ?_)
  ·replace h := ite_t hc5_3 h
   refine k_skip ?_
   refine q_n ?_
   refine k_seq ?_
   refine k_block ?_
   replace h := bs h
   obtain ⟨v5, hv5, h⟩ := h
   replace h := bs h
   obtain ⟨v6, hv6, h⟩ := h
   replace h := bs h
   obtain ⟨v7, hv7, h⟩ := h
   replace h := bs h
   obtain ⟨u8, hu8, h⟩ := h
   refine k_reg (r_dq Tryz_mixed 12 [] [(0, .d false [.sl none (a0.map ePt)]), (3, .ov false [.sl (some 27) ((x2.1 ++ [v7]).map eRt)]), (4, .p (iV x2.2))] [(4, {row := some (ePt v5)}), (8, {row := some (ePt v6)}), (10, {call := some (none, [.p (vRt v7)], true)}), (12, {fix := some (23, .ov false [.sl (some 27) ((x2.1 ++ [v7]).map eRt)])})] (B6 (idxO_some hv5).1 (map_get ePt (idxO_some hv5).2) (idxO_some hv6).1 (map_get ePt (idxO_some hv6).2) (wk_spec_imSlope hv7) (show List.length ((x2.1.map eRt) : List (List C)) + List.length ((([v7]).map eRt) : List (List C)) ≤ 1099511627776 from (by have hg := (guardO_some hu8); simpa using hg)) (A2 (show ∀ row ∈ ((([v7]).map eRt) : List (List C)), row.length = 2 from (rows_len fun _ => rfl)) (show (SV.ov false [.sl (some 27) ((x2.1.map eRt) ++ (([v7]).map eRt))] : SV) = .ov false [.sl (some 27) ((x2.1 ++ [v7]).map eRt)] from (congrArg (fun z => SV.ov false [.sl (some 27) z]) (List.map_append ..).symm))))) ?_
   refine b_n ?_
   refine q_n ?_
   refine k_reg (r_gq [(0, .d false [.sl none (a0.map ePt)]), (3, .ov false [.sl (some 27) ((x2.1 ++ [v7]).map eRt)]), (4, .p (iV (w64 (x2.2 + 1))))] [] trivial) ?_
   exact lqn ((x2.1 ++ [v7]), (w64 (x2.2 + 1))) h
  ·replace h := ite_f hc5_3 h
   refine k_exit ?_
   refine q_x ?_
   refine lq_x ?_
   refine b_x ?_
   have hyy := hy_x2 _ (oi h).symm
   subst hyy
   have h := hk_x2
   refine q_n ?_
   exact jx x2.1 h
theorem wk_spec_lpStrict {a0 : (List Qp)}  {r : Bool} (h : spec_lpStrict a0 = some r) : Meets Tryz.prog 111 [.d false [.sl none (a0.map ePt)]] { vals := [.p (.bool r)] } := by
 refine mo Tryz.func111 [(0, .d false [.sl none (a0.map ePt)])] ?_
 unfold spec_lpStrict at h
 refine k_sreg (r_gq [(0, .d false [.sl none (a0.map ePt)])] [] trivial) ?_
 refine k_join (J := fun (x : Unit) => []) (K := fun x => spec_lpStrict_k1 x = some r) (fun x1 h => ?_) ?_
 ·unfold spec_lpStrict_k1 at h
  refine k_sreg (r_gq [(2, .p (.bool true))] [] trivial) ?_
  refine k_ret ?_
  obtain rfl := oi h
  exact er [(.p (.bool true), 2)]
 ·replace h := bs h
  obtain ⟨v2, hv2, h⟩ := h
  refine k_sreg (r_gq [(6, .ov false [.sl (some 27) (v2.map eRt)]), (7, .p (iV (v2.length : Int))), (8, .p (iV 0))] [(1, {call := some (none, [.ov false [.sl (some 27) (v2.map eRt)]], true)}), (2, {n := some v2.length})] (A3 (wk_spec_imSlopes hv2) (show List.all [.ov false [.sl (some 27) (v2.map eRt)]] simpleR = true from (sa_o (wnR1 (wnL_enc (wn_P wn_I wn_I)) rfl) rfl)) (show (v2.map eRt).length = v2.length from (List.length_map ..)))) ?_
  refine k_block ?_
  obtain ⟨y4, hl_x3, hk_x3⟩ := bs h
  clear h
  refine k_loop (J := fun (x : Int) => [(6, .ov false [.sl (some 27) (v2.map eRt)]), (7, .p (iV (v2.length : Int))), (8, .p (iV x))]) hl_x3 (wk_of (by kernel_rfl) (by kernel_rfl)) (fun x3 o_x3 h hy_x3 => ?_)
  unfold spec_lpStrict_b1 at h
  refine k_sreg (r_gq [(6, .ov false [.sl (some 27) (v2.map eRt)]), (7, .p (iV (v2.length : Int))), (8, .p (iV x3)), (9, .p (.bool (decide (x3 < (v2.length : Int)))))] [] trivial) ?_
  refine k_seq ?_
  refine kc (decide (x3 < (v2.length : Int))) (fun hc5_4 => ?_) (fun hc5_4 => ?_)
  ·replace h := ite_t hc5_4 h
   refine k_skip ?_
   refine q_n ?_
   refine k_seq ?_
   refine k_block ?_
   replace h := bs h
   obtain ⟨v6, hv6, h⟩ := h
   refine k_sreg (r_gq [(4, .box (eRt v6)), (6, .ov false [.sl (some 27) (v2.map eRt)]), (7, .p (iV (v2.length : Int))), (8, .p (iV x3))] [(0, {row := some (eRt v6)}), (1, {row := some (eRt v6)})] (A3 (idxO_some hv6).1 (map_get eRt (idxO_some hv6).2) (show getRow [[.sl (some 27) (v2.map eRt)]] [(0, 0), ((Int.toNat x3), 0)] = some (eRt v6) from ((gr0 rfl).trans (gre (map_get eRt (idxO_some hv6).2)))))) ?_
   refine k_sreg (r_gq [(6, .ov false [.sl (some 27) (v2.map eRt)]), (7, .p (iV (v2.length : Int))), (8, .p (iV x3)), (14, .p (.bool (v6.1 == 0)))] [] trivial) ?_
   refine kc (v6.1 == 0) (fun hc6_6 => ?_) (fun hc6_6 => ?_)
   ·replace h := ite_t hc6_6 h
    refine k_sreg (r_gq [(2, .p (.bool false))] [] trivial) ?_
    refine k_ret ?_
    refine b_r ?_
    refine q_r ?_
    refine lq_r ?_
    refine b_r ?_
    refine q_r ?_
    have hyy := hy_x3 _ (oi h).symm
    subst hyy
    have h := hk_x3
    dsimp only [Sum.elim] at h
    obtain rfl := oi h
    exact er [(.p (.bool false), 2)]
   ·replace h := ite_f hc6_6 h
    refine k_skip ?_
    refine b_n ?_
    refine q_n ?_
    refine k_reg (r_gq [(6, .ov false [.sl (some 27) (v2.map eRt)]), (7, .p (iV (v2.length : Int))), (8, .p (iV (w64 (x3 + 1))))] [] trivial) ?_
    exact lqn (w64 (x3 + 1)) h
  ·replace h := ite_f hc5_4 h
   refine k_exit ?_
   refine q_x ?_
   refine lq_x ?_
   refine b_x ?_
   have hyy := hy_x3 _ (oi h).symm
   subst hyy
   have h := hk_x3
   dsimp only [Sum.elim] at h
   refine q_n ?_
   exact jx () h
theorem wk_spec_lpAsked {a0 : (List Qp)} {a1 : Int}  {r : Bool} (h : spec_lpAsked a0 a1 = some r) : Meets Tryz.prog 82 [.d false [.sl none (a0.map ePt)], wI a1] { vals := [.p (.bool r)] } := by
 refine mo Tryz.func82 [(0, .d false [.sl none (a0.map ePt)]), (1, .p (iV a1))] ?_
 unfold spec_lpAsked at h
 refine k_sreg (r_gq [(0, .d false [.sl none (a0.map ePt)]), (1, .p (iV a1))] [] trivial) ?_
 replace h := bs h
 obtain ⟨v1, hv1, h⟩ := h
 replace h := bs h
 obtain ⟨w4, hw4, h⟩ := h
 refine k_sreg (l1 := [(4, .p (.bool w4))]) ?_ ?_
 ·clear h
  rcases ft v1 with ha0 | ha0
  ·replace hw4 := ite_t ha0 hw4
   replace hw4 := bs hw4
   obtain ⟨v2, hv2, hw4⟩ := hw4
   rcases ft v2 with ha1 | ha1
   ·replace hw4 := ite_t ha1 hw4
    replace hw4 := bs hw4
    obtain ⟨v3, hv3, hw4⟩ := hw4
    have hw4 := oi hw4
    subst hw4
    exact (r_gq [(4, .p (.bool v3))] [(1, {call := some (none, [.p (.bool v1)], true)}), (3, gT), (4, {g := some true, call := some (none, [.p (.bool v2)], true)}), (5, bT), (7, gT), (8, {g := some true, call := some (none, [.p (.bool v3)], true)}), (9, bT)] (B6 (wk_spec_imGood hv1) ha0 ha0 (wk_spec_lpStrict hv2) ha0 ha1 (A3 ha1 (wk_spec_l1In hv3) ha1)))
   ·replace hw4 := ite_f ha1 hw4
    have hw4 := oi hw4
    subst hw4
    exact (r_gq [(4, .p (.bool false))] [(1, {call := some (none, [.p (.bool v1)], true)}), (3, gT), (4, {g := some true, call := some (none, [.p (.bool v2)], true)}), (5, bT), (7, gF), (8, gF), (9, bF)] (B6 (wk_spec_imGood hv1) ha0 ha0 (wk_spec_lpStrict hv2) ha0 ha1 (A2 ha1 ha1)))
  ·replace hw4 := ite_f ha0 hw4
   have hw4 := oi hw4
   subst hw4
   exact (r_gq [(4, .p (.bool false))] [(1, {call := some (none, [.p (.bool v1)], true)}), (3, gF), (4, gF), (5, bF), (7, gF), (8, gF), (9, bF)] (B6 (wk_spec_imGood hv1) ha0 ha0 ha0 (show false = false from rfl) (show false = false from rfl) (A1 (show false = false from rfl))))
 ·refine k_ret ?_
  obtain rfl := oi h
  exact er [(.p (.bool w4), 4)]
theorem wk_spec_imLaps {a0 : (List Qp)}  {r : (List (List Int))} (h : spec_imLaps a0 = some r) : Meets Tryz.prog 93 [.d false [.sl none (a0.map ePt)]] { vals := [.ov false [.sl (some 50) (r.map (eO 3 eI))]] } := by
 refine mo Tryz.func93 [(0, .d false [.sl none (a0.map ePt)])] ?_
 unfold spec_imLaps at h
 refine k_sreg (r_gq [(0, .d false [.sl none (a0.map ePt)])] [] trivial) ?_
 refine k_sreg (r_gq [(0, .d false [.sl none (a0.map ePt)]), (3, .ov false [.sl (some 50) []])] [] trivial) ?_
 refine k_join (J := fun (x : (List (List Int))) => [(3, .ov false [.sl (some 50) (x.map (eO 3 eI))])]) (K := fun x => spec_imLaps_k1 x = some r) (fun x1 h => ?_) ?_
 ·unfold spec_imLaps_k1 at h
  refine k_sreg (r_gq [(2, .ov false [.sl (some 50) (x1.map (eO 3 eI))])] [] trivial) ?_
  refine k_ret ?_
  obtain rfl := oi h
  exact er [(.ov false [.sl (some 50) (x1.map (eO 3 eI))], 2)]
 ·replace h := bs h
  obtain ⟨v2, hv2, h⟩ := h
  refine k_sreg (r_gq [(3, .ov false [.sl (some 50) []]), (9, .ov false [.sl (some 27) (v2.map eRt)]), (10, .p (iV (v2.length : Int))), (11, .p (iV 0))] [(1, {call := some (none, [.ov false [.sl (some 27) (v2.map eRt)]], true)}), (2, {n := some v2.length})] (A3 (wk_spec_imSlopes hv2) (show List.all [.ov false [.sl (some 27) (v2.map eRt)]] simpleR = true from (sa_o (wnR1 (wnL_enc (wn_P wn_I wn_I)) rfl) rfl)) (show (v2.map eRt).length = v2.length from (List.length_map ..)))) ?_
  refine k_block ?_
  obtain ⟨y4, hl_x3, hk_x3⟩ := bs h
  clear h
  refine k_loop (J := fun (x : ((List (List Int)) × Int)) => [(3, .ov false [.sl (some 50) (x.1.map (eO 3 eI))]), (9, .ov false [.sl (some 27) (v2.map eRt)]), (10, .p (iV (v2.length : Int))), (11, .p (iV x.2))]) hl_x3 (wk_of (by kernel_rfl) (by kernel_rfl)) (fun x3 o_x3 h hy_x3 => ?_)
  unfold spec_imLaps_b1 at h
  refine k_sreg (r_gq [(3, .ov false [.sl (some 50) (x3.1.map (eO 3 eI))]), (9, .ov false [.sl (some 27) (v2.map eRt)]), (10, .p (iV (v2.length : Int))), (11, .p (iV x3.2)), (12, .p (.bool (decide (x3.2 < (v2.length : Int)))))] [] trivial) ?_
  refine k_seq ?_
  refine kc (decide (x3.2 < (v2.length : Int))) (fun hc5_4 => ?_) (fun hc5_4 => ?_)
  ·replace h := ite_t hc5_4 h
   refine k_skip ?_
   refine q_n ?_
   refine k_seq ?_
   refine k_block ?_
   replace h := bs h
   obtain ⟨v6, hv6, h⟩ := h
   refine k_sreg (r_gq [(3, .ov false [.sl (some 50) (x3.1.map (eO 3 eI))]), (4, .p (iV x3.2)), (5, .box (eRt v6)), (9, .ov false [.sl (some 27) (v2.map eRt)]), (10, .p (iV (v2.length : Int))), (11, .p (iV x3.2))] [(1, {row := some (eRt v6)}), (2, {row := some (eRt v6)})] (A3 (idxO_some hv6).1 (map_get eRt (idxO_some hv6).2) (show getRow [[.sl (some 27) (v2.map eRt)]] [(0, 0), ((Int.toNat x3.2), 0)] = some (eRt v6) from ((gr0 rfl).trans (gre (map_get eRt (idxO_some hv6).2)))))) ?_
   replace h := bs h
   obtain ⟨v7, hv7, h⟩ := h
   refine k_sreg (r_gq [(3, .ov false [.sl (some 50) (x3.1.map (eO 3 eI))]), (4, .p (iV x3.2)), (6, .p (iV v7)), (9, .ov false [.sl (some 27) (v2.map eRt)]), (10, .p (iV (v2.length : Int))), (11, .p (iV x3.2))] [(2, {call := some (none, [.p (iV v7)], true)})] (A1 (wk_spec_l1Sign hv7))) ?_
   refine k_seq ?_
   refine k_sreg (r_gq [(3, .ov false [.sl (some 50) (x3.1.map (eO 3 eI))]), (4, .p (iV x3.2)), (6, .p (iV v7)), (7, .p (iV (x3.1.length : Int))), (9, .ov false [.sl (some 27) (v2.map eRt)]), (10, .p (iV (v2.length : Int))), (11, .p (iV x3.2))] [(1, {n := some x3.1.length})] (A1 (show (x3.1.map (eO 3 eI)).length = x3.1.length from (List.length_map ..)))) ?_
   replace h := bs h
   obtain ⟨w10, hw10, h⟩ := h
   refine k_sreg (l1 := [(3, .ov false [.sl (some 50) (x3.1.map (eO 3 eI))]), (4, .p (iV x3.2)), (6, .p (iV v7)), (7, .p (iV (x3.1.length : Int))), (9, .ov false [.sl (some 27) (v2.map eRt)]), (10, .p (iV (v2.length : Int))), (11, .p (iV x3.2)), (33, .p (.bool w10))]) ?_ ?_
   ·clear h
    rcases ft (decide ((x3.1.length : Int) > 0)) with ha1 | ha1
    ·replace hw10 := ite_t ha1 hw10
     replace hw10 := bs hw10
     obtain ⟨v8, hv8, hw10⟩ := hw10
     replace hw10 := bs hw10
     obtain ⟨v9, hv9, hw10⟩ := hw10
     have hw10 := oi hw10
     subst hw10
     exact (r_gq [(3, .ov false [.sl (some 50) (x3.1.map (eO 3 eI))]), (4, .p (iV x3.2)), (6, .p (iV v7)), (7, .p (iV (x3.1.length : Int))), (9, .ov false [.sl (some 27) (v2.map eRt)]), (10, .p (iV (v2.length : Int))), (11, .p (iV x3.2)), (33, .p (.bool (v9 == v7)))] [(3, gT), (4, gT), (5, gT), (6, {g := some true, row := some [.sl (some 3) (v8.map eI)]}), (7, {g := some true, row := some [.sl (some 3) (v8.map eI)]}), (8, {g := some true, deep := some [.sl (some 3) (v8.map eI)], row := some (eI v9)}), (9, {g := some true, row := some (eI v9)}), (10, gT), (11, gT), (12, bT)] (B6 ha1 ha1 ha1 ha1 (idxO_some hv8).1 (map_get (eO 3 eI) (idxO_some hv8).2) (B6 ha1 (show frR [.sl (some 3) (v8.map eI)] = false from rfl) (show getRow [[.sl (some 50) (x3.1.map (eO 3 eI))]] [(0, 0), ((Int.toNat (w64 ((x3.1.length : Int) - 1))), 0)] = some [.sl (some 3) (v8.map eI)] from ((gr0 rfl).trans (gre (map_get (eO 3 eI) (idxO_some hv8).2)))) ha1 (idxO_some hv9).1 (map_get eI (idxO_some hv9).2) (A6 (show getRow [[.sl (some 50) (x3.1.map (eO 3 eI))]] [(0, 0), ((Int.toNat (w64 ((x3.1.length : Int) - 1))), 0)] = some [.sl (some 3) (v8.map eI)] from ((gr0 rfl).trans (gre (map_get (eO 3 eI) (idxO_some hv8).2)))) ha1 (show getRow [[.sl (some 50) (x3.1.map (eO 3 eI))]] [(0, 0), ((Int.toNat (w64 ((x3.1.length : Int) - 1))), 0), ((Int.toNat 2), 0)] = some (eI v9) from ((gr0 rfl).trans ((grs (map_get (eO 3 eI) (idxO_some hv8).2) rfl).trans (gre (map_get eI (idxO_some hv9).2))))) ha1 ha1 ha1))))
    ·replace hw10 := ite_f ha1 hw10
     have hw10 := oi hw10
     subst hw10
     exact (r_gq [(3, .ov false [.sl (some 50) (x3.1.map (eO 3 eI))]), (4, .p (iV x3.2)), (6, .p (iV v7)), (7, .p (iV (x3.1.length : Int))), (9, .ov false [.sl (some 27) (v2.map eRt)]), (10, .p (iV (v2.length : Int))), (11, .p (iV x3.2)), (33, .p (.bool false))] [(3, gF), (4, gF), (5, gF), (6, gF), (7, gF), (8, gF), (9, gF), (10, gF), (11, gF), (12, bF)] (B6 ha1 ha1 ha1 ha1 ha1 ha1 (A4 ha1 ha1 ha1 ha1)))
   ·refine kc w10 (fun hc7_10 => ?_) (fun hc7_10 => ?_)
    ·replace h := ite_t hc7_10 h
     replace h := bs h
     obtain ⟨v12, hv12, h⟩ := h
     replace h := bs h
     obtain ⟨v13, hv13, h⟩ := h
     refine k_sreg (r_gq [(3, .ov false [.sl (some 50) ((x3.1.set (Int.toNat (w64 ((x3.1.length : Int) - 1))) (v12.set (Int.toNat 1) (w64 (x3.2 + 1)))).map (eO 3 eI))]), (9, .ov false [.sl (some 27) (v2.map eRt)]), (10, .p (iV (v2.length : Int))), (11, .p (iV x3.2))] [(3, {row := some [.sl (some 3) (v12.map eI)]}), (4, {row := some [.sl (some 3) (v12.map eI)]}), (7, {deep := some [.sl (some 3) (v12.map eI)], row := some (eI v13)}), (8, {row := some (eI v13), fix := some (3, .ov false [.sl (some 50) ((x3.1.set (Int.toNat (w64 ((x3.1.length : Int) - 1))) (v12.set (Int.toNat 1) (w64 (x3.2 + 1)))).map (eO 3 eI))])})] (B6 (idxO_some hv12).1 (map_get (eO 3 eI) (idxO_some hv12).2) (show frR [.sl (some 3) (v12.map eI)] = false from rfl) (show getRow [[.sl (some 50) (x3.1.map (eO 3 eI))]] [(0, 0), ((Int.toNat (w64 ((x3.1.length : Int) - 1))), 0)] = some [.sl (some 3) (v12.map eI)] from ((gr0 rfl).trans (gre (map_get (eO 3 eI) (idxO_some hv12).2)))) (idxO_some hv13).1 (map_get eI (idxO_some hv13).2) (A3 (show getRow [[.sl (some 50) (x3.1.map (eO 3 eI))]] [(0, 0), ((Int.toNat (w64 ((x3.1.length : Int) - 1))), 0)] = some [.sl (some 3) (v12.map eI)] from ((gr0 rfl).trans (gre (map_get (eO 3 eI) (idxO_some hv12).2)))) (show getRow [[.sl (some 50) (x3.1.map (eO 3 eI))]] [(0, 0), ((Int.toNat (w64 ((x3.1.length : Int) - 1))), 0), ((Int.toNat 1), 0)] = some (eI v13) from ((gr0 rfl).trans ((grs (map_get (eO 3 eI) (idxO_some hv12).2) rfl).trans (gre (map_get eI (idxO_some hv13).2))))) (show (SV.ov false [.sl (some 50) (setL (x3.1.map (eO 3 eI)) [((Int.toNat (w64 ((x3.1.length : Int) - 1))), 0), ((Int.toNat 1), 0)] [rI (w64 (x3.2 + 1))])] : SV) = .ov false [.sl (some 50) ((x3.1.set (Int.toNat (w64 ((x3.1.length : Int) - 1))) (v12.set (Int.toNat 1) (w64 (x3.2 + 1)))).map (eO 3 eI))] from (congrArg (fun z => SV.ov false [.sl (some 50) z]) (set2 (f := (eO 3 eI)) (y := (v12.set (Int.toNat 1) (w64 (x3.2 + 1)))) (idxO_some hv12).2 rfl (set1 (f := eI) (y := (w64 (x3.2 + 1))) (idxO_some hv13).2 rfl) rfl)))))) ?_
     refine k_exit ?_
     refine q_x ?_
     refine b_x ?_
     refine q_n ?_
     refine k_reg (r_gq [(3, .ov false [.sl (some 50) ((x3.1.set (Int.toNat (w64 ((x3.1.length : Int) - 1))) (v12.set (Int.toNat 1) (w64 (x3.2 + 1)))).map (eO 3 eI))]), (9, .ov false [.sl (some 27) (v2.map eRt)]), (10, .p (iV (v2.length : Int))), (11, .p (iV (w64 (x3.2 + 1))))] [] trivial) ?_
     exact lqn ((x3.1.set (Int.toNat (w64 ((x3.1.length : Int) - 1))) (v12.set (Int.toNat 1) (w64 (x3.2 + 1)))), (w64 (x3.2 + 1))) h
    ·replace h := ite_f hc7_10 h
     refine k_skip ?_
     refine q_n ?_
     replace h := bs h
     obtain ⟨u14, hu14, h⟩ := h
     refine k_reg (r_gq [(3, .ov false [.sl (some 50) ((x3.1 ++ [[x3.2, (w64 (x3.2 + 1)), v7]]).map (eO 3 eI))]), (9, .ov false [.sl (some 27) (v2.map eRt)]), (10, .p (iV (v2.length : Int))), (11, .p (iV x3.2))] [(7, {fix := some (49, .ov false [.sl (some 50) ((x3.1 ++ [[x3.2, (w64 (x3.2 + 1)), v7]]).map (eO 3 eI))])})] (A3 (show List.length ((x3.1.map (eO 3 eI)) : List (List C)) + List.length ((([[x3.2, (w64 (x3.2 + 1)), v7]]).map (eO 3 eI)) : List (List C)) ≤ 1099511627776 from (by have hg := (guardO_some hu14); simpa using hg)) (show ∀ row ∈ ((([[x3.2, (w64 (x3.2 + 1)), v7]]).map (eO 3 eI)) : List (List C)), row.length = 1 from (rows_len fun _ => rfl)) (show (SV.ov false [.sl (some 50) ((x3.1.map (eO 3 eI)) ++ (([[x3.2, (w64 (x3.2 + 1)), v7]]).map (eO 3 eI)))] : SV) = .ov false [.sl (some 50) ((x3.1 ++ [[x3.2, (w64 (x3.2 + 1)), v7]]).map (eO 3 eI))] from (congrArg (fun z => SV.ov false [.sl (some 50) z]) (List.map_append ..).symm)))) ?_
     refine b_n ?_
     refine q_n ?_
     refine k_reg (r_gq [(3, .ov false [.sl (some 50) ((x3.1 ++ [[x3.2, (w64 (x3.2 + 1)), v7]]).map (eO 3 eI))]), (9, .ov false [.sl (some 27) (v2.map eRt)]), (10, .p (iV (v2.length : Int))), (11, .p (iV (w64 (x3.2 + 1))))] [] trivial) ?_
     exact lqn ((x3.1 ++ [[x3.2, (w64 (x3.2 + 1)), v7]]), (w64 (x3.2 + 1))) h
  ·replace h := ite_f hc5_4 h
   refine k_exit ?_
   refine q_x ?_
   refine lq_x ?_
   refine b_x ?_
   have hyy := hy_x3 _ (oi h).symm
   subst hyy
   have h := hk_x3
   refine q_n ?_
   exact jx x3.1 h
theorem wk_spec_lpTurns {a0 : (List Qp)}  {r : (List Qr)} (h : spec_lpTurns a0 = some r) : Meets Tryz.prog 84 [.d false [.sl none (a0.map ePt)]] { vals := [.ov false [.sl (some 27) (r.map eRt)]] } := by
 refine mo Tryz.func84 [(0, .d false [.sl none (a0.map ePt)])] ?_
 unfold spec_lpTurns at h
 refine k_sreg (r_gq [(0, .d false [.sl none (a0.map ePt)])] [] trivial) ?_
 refine k_sreg (r_gq [(0, .d false [.sl none (a0.map ePt)]), (3, .ov false [.sl (some 27) []])] [] trivial) ?_
 refine k_join (J := fun (x : (List Qr)) => [(3, .ov false [.sl (some 27) (x.map eRt)])]) (K := fun x => spec_lpTurns_k1 x = some r) (fun x1 h => ?_) ?_
 ·unfold spec_lpTurns_k1 at h
  refine k_sreg (r_gq [(2, .ov false [.sl (some 27) (x1.map eRt)])] [] trivial) ?_
  refine k_ret ?_
  obtain rfl := oi h
  exact er [(.ov false [.sl (some 27) (x1.map eRt)], 2)]
 ·replace h := bs h
  obtain ⟨v2, hv2, h⟩ := h
  replace h := bs h
  obtain ⟨u3, hu3, h⟩ := h
  refine k_sreg (r_gq [(0, .d false [.sl none (a0.map ePt)]), (3, .ov false [.sl (some 27) []]), (8, .d false [.sl none ((v2.drop (Int.toNat 1)).map (eF eI))]), (9, .p (iV ((v2.drop (Int.toNat 1)).length : Int))), (10, .p (iV 0))] [(1, {call := some (none, [.ov false [.sl (some 50) (v2.map (eO 3 eI))]], true)}), (2, {pre := some (7, .d false [.sl none (v2.map (eF eI))]), fix := some (8, .d false [.sl none ((v2.drop (Int.toNat 1)).map (eF eI))])}), (3, {n := some (v2.drop (Int.toNat 1)).length})] (B6 (wk_spec_imLaps hv2) (show List.all [.ov false [.sl (some 50) (v2.map (eO 3 eI))]] simpleR = true from (sa_o (wnR1 (wnL_enc (wn_O wn_I)) rfl) rfl)) (show (SV.d false (eraR [.sl (some 50) (v2.map (eO 3 eI))]) : SV) = .d false [.sl none (v2.map (eF eI))] from (congrArg (fun z => SV.d false z) (erc_sl (eraL_enc (era_O er_I)) rfl))) (show (Int.toNat 1) ≤ (v2.map (eF eI)).length from (by have hg := (guardO_some hu3); first | (simp only [List.length_map]; omega) | omega)) (show (v2.map (eF eI)).length ≤ (v2.map (eF eI)).length from (Nat.le_refl _)) (show ∀ row ∈ (v2.map (eF eI)), row.length = 1 from (rows_len fun _ => rfl)) (A3 (show (0 : Int) ≤ 1 from (by have hg := (guardO_some hu3); omega)) (show (SV.d false [.sl none (((v2.map (eF eI)).take (v2.map (eF eI)).length).drop (Int.toNat 1))] : SV) = .d false [.sl none ((v2.drop (Int.toNat 1)).map (eF eI))] from (congrArg (fun z => SV.d false [.sl none z]) sl_lo)) (show ((v2.drop (Int.toNat 1)).map (eF eI)).length = (v2.drop (Int.toNat 1)).length from (List.length_map ..))))) ?_
  refine k_block ?_
  obtain ⟨y5, hl_x4, hk_x4⟩ := bs h
  clear h
  refine k_loop (J := fun (x : ((List Qr) × Int)) => [(0, .d false [.sl none (a0.map ePt)]), (3, .ov false [.sl (some 27) (x.1.map eRt)]), (8, .d false [.sl none ((v2.drop (Int.toNat 1)).map (eF eI))]), (9, .p (iV ((v2.drop (Int.toNat 1)).length : Int))), (10, .p (iV x.2))]) hl_x4 (wk_of (by kernel_rfl) (by kernel_rfl)) (fun x4 o_x4 h hy_x4 => ?_)
  unfold spec_lpTurns_b1 at h
  refine k_sreg (r_gq [(0, .d false [.sl none (a0.map ePt)]), (3, .ov false [.sl (some 27) (x4.1.map eRt)]), (8, .d false [.sl none ((v2.drop (Int.toNat 1)).map (eF eI))]), (9, .p (iV ((v2.drop (Int.toNat 1)).length : Int))), (10, .p (iV x4.2)), (11, .p (.bool (decide (x4.2 < ((v2.drop (Int.toNat 1)).length : Int)))))] [] trivial) ?_
  refine k_seq ?_
  refine kc (decide (x4.2 < ((v2.drop (Int.toNat 1)).length : Int))) (fun hc5_5 => ?_) (fun hc5_5 => ?_)
  ·replace h := ite_t hc5_5 h
   refine k_skip ?_
   refine q_n ?_
   refine k_seq ?_
   refine k_block ?_
   replace h := bs h
   obtain ⟨v7, hv7, h⟩ := h
   refine k_sreg (r_gq [(0, .d false [.sl none (a0.map ePt)]), (3, .ov false [.sl (some 27) (x4.1.map eRt)]), (5, .d false [.sl none (v7.map eI)]), (8, .d false [.sl none ((v2.drop (Int.toNat 1)).map (eF eI))]), (9, .p (iV ((v2.drop (Int.toNat 1)).length : Int))), (10, .p (iV x4.2))] [(0, {row := some [.sl none (v7.map eI)]})] (A2 (idxO_some hv7).1 (map_get (eF eI) (idxO_some hv7).2))) ?_
   replace h := bs h
   obtain ⟨v8, hv8, h⟩ := h
   replace h := bs h
   obtain ⟨v9, hv9, h⟩ := h
   replace h := bs h
   obtain ⟨u10, hu10, h⟩ := h
   refine k_reg (r_gq [(0, .d false [.sl none (a0.map ePt)]), (3, .ov false [.sl (some 27) ((x4.1 ++ [v9.1]).map eRt)]), (8, .d false [.sl none ((v2.drop (Int.toNat 1)).map (eF eI))]), (9, .p (iV ((v2.drop (Int.toNat 1)).length : Int))), (10, .p (iV x4.2))] [(3, {row := some (eI v8)}), (5, {row := some (ePt v9)}), (9, {fix := some (23, .ov false [.sl (some 27) ((x4.1 ++ [v9.1]).map eRt)])})] (B6 (idxO_some hv8).1 (map_get eI (idxO_some hv8).2) (idxO_some hv9).1 (map_get ePt (idxO_some hv9).2) (show List.length ((x4.1.map eRt) : List (List C)) + List.length ((([v9.1]).map eRt) : List (List C)) ≤ 1099511627776 from (by have hg := (guardO_some hu10); simpa using hg)) (show ∀ row ∈ ((([v9.1]).map eRt) : List (List C)), row.length = 2 from (rows_len fun _ => rfl)) (A1 (show (SV.ov false [.sl (some 27) ((x4.1.map eRt) ++ (([v9.1]).map eRt))] : SV) = .ov false [.sl (some 27) ((x4.1 ++ [v9.1]).map eRt)] from (congrArg (fun z => SV.ov false [.sl (some 27) z]) (List.map_append ..).symm))))) ?_
   refine b_n ?_
   refine q_n ?_
   refine k_reg (r_gq [(0, .d false [.sl none (a0.map ePt)]), (3, .ov false [.sl (some 27) ((x4.1 ++ [v9.1]).map eRt)]), (8, .d false [.sl none ((v2.drop (Int.toNat 1)).map (eF eI))]), (9, .p (iV ((v2.drop (Int.toNat 1)).length : Int))), (10, .p (iV (w64 (x4.2 + 1))))] [] trivial) ?_
   exact lqn ((x4.1 ++ [v9.1]), (w64 (x4.2 + 1))) h
  ·replace h := ite_f hc5_5 h
   refine k_exit ?_
   refine q_x ?_
   refine lq_x ?_
   refine b_x ?_
   have hyy := hy_x4 _ (oi h).symm
   subst hyy
   have h := hk_x4
   refine q_n ?_
   exact jx x4.1 h
theorem wk_spec_lpBetween {a0 : (List Qr)} {a1 : Qr} {a2 : Qr}  {r : (List Qr)} (h : spec_lpBetween a0 a1 a2 = some r) : Meets Tryz.prog 134 [.d false [.sl none (a0.map eRt)], .v (vRt a1), .v (vRt a2)] { vals := [.ov false [.sl (some 27) (r.map eRt)]] } := by
 refine mo Tryz.func134 [(0, .d false [.sl none (a0.map eRt)]), (1, .p (vRt a1)), (2, .p (vRt a2))] ?_
 unfold spec_lpBetween at h
 refine k_sreg (r_gq [(0, .d false [.sl none (a0.map eRt)]), (4, .box (eRt a1)), (5, .box (eRt a2))] [] trivial) ?_
 refine k_sreg (r_gq [(0, .d false [.sl none (a0.map eRt)]), (4, .box (eRt a1)), (5, .box (eRt a2)), (7, .ov false [.sl (some 27) []])] [] trivial) ?_
 refine k_join (J := fun (x : (List Qr)) => [(7, .ov false [.sl (some 27) (x.map eRt)])]) (K := fun x => spec_lpBetween_k1 x = some r) (fun x1 h => ?_) ?_
 ·unfold spec_lpBetween_k1 at h
  refine k_sreg (r_gq [(6, .ov false [.sl (some 27) (x1.map eRt)])] [] trivial) ?_
  refine k_ret ?_
  obtain rfl := oi h
  exact er [(.ov false [.sl (some 27) (x1.map eRt)], 6)]
 ·refine k_sreg (r_gq [(4, .box (eRt a1)), (5, .box (eRt a2)), (7, .ov false [.sl (some 27) []]), (10, .d false [.sl none (a0.map eRt)]), (11, .p (iV (a0.length : Int))), (12, .p (iV 0))] [(1, {n := some a0.length})] (A1 (show (a0.map eRt).length = a0.length from (List.length_map ..)))) ?_
  refine k_block ?_
  obtain ⟨y3, hl_x2, hk_x2⟩ := bs h
  clear h
  refine k_loop (J := fun (x : ((List Qr) × Int)) => [(4, .box (eRt a1)), (5, .box (eRt a2)), (7, .ov false [.sl (some 27) (x.1.map eRt)]), (10, .d false [.sl none (a0.map eRt)]), (11, .p (iV (a0.length : Int))), (12, .p (iV x.2))]) hl_x2 (wk_of (by kernel_rfl) (by kernel_rfl)) (fun x2 o_x2 h hy_x2 => ?_)
  unfold spec_lpBetween_b1 at h
  refine k_sreg (r_gq [(4, .box (eRt a1)), (5, .box (eRt a2)), (7, .ov false [.sl (some 27) (x2.1.map eRt)]), (10, .d false [.sl none (a0.map eRt)]), (11, .p (iV (a0.length : Int))), (12, .p (iV x2.2)), (13, .p (.bool (decide (x2.2 < (a0.length : Int)))))] [] trivial) ?_
  refine k_seq ?_
  refine kc (decide (x2.2 < (a0.length : Int))) (fun hc5_3 => ?_) (fun hc5_3 => ?_)
  ·replace h := ite_t hc5_3 h
   refine k_skip ?_
   refine q_n ?_
   refine k_seq ?_
   refine k_block ?_
   replace h := bs h
   obtain ⟨v5, hv5, h⟩ := h
   refine k_sreg (r_gq [(4, .box (eRt a1)), (5, .box (eRt a2)), (7, .ov false [.sl (some 27) (x2.1.map eRt)]), (9, .box (eRt v5)), (10, .d false [.sl none (a0.map eRt)]), (11, .p (iV (a0.length : Int))), (12, .p (iV x2.2))] [(0, {row := some (eRt v5)})] (A2 (idxO_some hv5).1 (map_get eRt (idxO_some hv5).2))) ?_
   refine k_join (J := fun (x : (List Qr)) => [(4, .box (eRt a1)), (5, .box (eRt a2)), (7, .ov false [.sl (some 27) (x.map eRt)]), (9, .box (eRt v5)), (10, .d false [.sl none (a0.map eRt)]), (11, .p (iV (a0.length : Int))), (12, .p (iV x2.2))]) (K := fun x => spec_lpBetween_k2 a1 a2 x2 v5 x = some o_x2) (fun x6 h => ?_) ?_
   ·unfold spec_lpBetween_k2 at h
    replace h := bs h
    obtain ⟨v7, hv7, h⟩ := h
    replace h := bs h
    obtain ⟨w9, hw9, h⟩ := h
    refine k_sreg (l1 := [(4, .box (eRt a1)), (5, .box (eRt a2)), (7, .ov false [.sl (some 27) (x6.map eRt)]), (9, .box (eRt v5)), (10, .d false [.sl none (a0.map eRt)]), (11, .p (iV (a0.length : Int))), (12, .p (iV x2.2)), (39, .p (.bool w9))]) ?_ ?_
    ·clear h
     rcases ft (decide (v7 < 0)) with ha1 | ha1
     ·replace hw9 := ite_t ha1 hw9
      replace hw9 := bs hw9
      obtain ⟨v8, hv8, hw9⟩ := hw9
      have hw9 := oi hw9
      subst hw9
      exact (r_gq [(4, .box (eRt a1)), (5, .box (eRt a2)), (7, .ov false [.sl (some 27) (x6.map eRt)]), (9, .box (eRt v5)), (10, .d false [.sl none (a0.map eRt)]), (11, .p (iV (a0.length : Int))), (12, .p (iV x2.2)), (39, .p (.bool (decide (v8 < 0))))] [(2, {call := some (none, [.p (iV v7)], true)}), (5, gT), (6, gT), (7, {g := some true, call := some (none, [.p (iV v8)], true)}), (8, gT), (9, bT)] (B6 (wk_spec_raCmp hv7) ha1 ha1 ha1 (wk_spec_raCmp hv8) ha1 (A1 ha1)))
     ·replace hw9 := ite_f ha1 hw9
      have hw9 := oi hw9
      subst hw9
      exact (r_gq [(4, .box (eRt a1)), (5, .box (eRt a2)), (7, .ov false [.sl (some 27) (x6.map eRt)]), (9, .box (eRt v5)), (10, .d false [.sl none (a0.map eRt)]), (11, .p (iV (a0.length : Int))), (12, .p (iV x2.2)), (39, .p (.bool false))] [(2, {call := some (none, [.p (iV v7)], true)}), (5, gF), (6, gF), (7, gF), (8, gF), (9, bF)] (A6 (wk_spec_raCmp hv7) ha1 ha1 ha1 ha1 ha1))
    ·refine kc w9 (fun hc6_9 => ?_) (fun hc6_9 => ?_)
     ·replace h := ite_t hc6_9 h
      replace h := bs h
      obtain ⟨u11, hu11, h⟩ := h
      refine k_reg (r_gq [(4, .box (eRt a1)), (5, .box (eRt a2)), (7, .ov false [.sl (some 27) (([v5] ++ x6).map eRt)]), (10, .d false [.sl none (a0.map eRt)]), (11, .p (iV (a0.length : Int))), (12, .p (iV x2.2))] [(3, {fix := some (43, .ov false [.sl (some 27) (([v5] ++ x6).map eRt)])})] (A3 (show List.length ((([v5]).map eRt) : List (List C)) + List.length ((x6.map eRt) : List (List C)) ≤ 1099511627776 from (by have hg := (guardO_some hu11); simpa using hg)) (show ∀ row ∈ ((x6.map eRt) : List (List C)), row.length = 2 from (rows_len fun _ => rfl)) (show (SV.ov false [.sl (some 27) ((([v5]).map eRt) ++ (x6.map eRt))] : SV) = .ov false [.sl (some 27) (([v5] ++ x6).map eRt)] from (congrArg (fun z => SV.ov false [.sl (some 27) z]) (List.map_append ..).symm)))) ?_
      refine b_n ?_
      refine q_n ?_
      refine k_reg (r_gq [(4, .box (eRt a1)), (5, .box (eRt a2)), (7, .ov false [.sl (some 27) (([v5] ++ x6).map eRt)]), (10, .d false [.sl none (a0.map eRt)]), (11, .p (iV (a0.length : Int))), (12, .p (iV (w64 (x2.2 + 1))))] [] trivial) ?_
      exact lqn (([v5] ++ x6), (w64 (x2.2 + 1))) h
     ·replace h := ite_f hc6_9 h
      refine k_skip ?_
      refine b_n ?_
      refine q_n ?_
      refine k_reg (r_gq [(4, .box (eRt a1)), (5, .box (eRt a2)), (7, .ov false [.sl (some 27) (x6.map eRt)]), (10, .d false [.sl none (a0.map eRt)]), (11, .p (iV (a0.length : Int))), (12, .p (iV (w64 (x2.2 + 1))))] [] trivial) ?_
      exact lqn (x6, (w64 (x2.2 + 1))) h
   ·replace h := bs h
    obtain ⟨v12, hv12, h⟩ := h
    replace h := bs h
    obtain ⟨w14, hw14, h⟩ := h
    refine k_sreg (l1 := [(4, .box (eRt a1)), (5, .box (eRt a2)), (7, .ov false [.sl (some 27) (x2.1.map eRt)]), (9, .box (eRt v5)), (10, .d false [.sl none (a0.map eRt)]), (11, .p (iV (a0.length : Int))), (12, .p (iV x2.2)), (25, .p (.bool w14))]) ?_ ?_
    ·clear h
     rcases ft (decide (v12 < 0)) with ha1 | ha1
     ·replace hw14 := ite_t ha1 hw14
      replace hw14 := bs hw14
      obtain ⟨v13, hv13, hw14⟩ := hw14
      have hw14 := oi hw14
      subst hw14
      exact (r_gq [(4, .box (eRt a1)), (5, .box (eRt a2)), (7, .ov false [.sl (some 27) (x2.1.map eRt)]), (9, .box (eRt v5)), (10, .d false [.sl none (a0.map eRt)]), (11, .p (iV (a0.length : Int))), (12, .p (iV x2.2)), (25, .p (.bool (decide (v13 < 0))))] [(2, {call := some (none, [.p (iV v12)], true)}), (5, gT), (6, gT), (7, {g := some true, call := some (none, [.p (iV v13)], true)}), (8, gT), (9, bT)] (B6 (wk_spec_raCmp hv12) ha1 ha1 ha1 (wk_spec_raCmp hv13) ha1 (A1 ha1)))
     ·replace hw14 := ite_f ha1 hw14
      have hw14 := oi hw14
      subst hw14
      exact (r_gq [(4, .box (eRt a1)), (5, .box (eRt a2)), (7, .ov false [.sl (some 27) (x2.1.map eRt)]), (9, .box (eRt v5)), (10, .d false [.sl none (a0.map eRt)]), (11, .p (iV (a0.length : Int))), (12, .p (iV x2.2)), (25, .p (.bool false))] [(2, {call := some (none, [.p (iV v12)], true)}), (5, gF), (6, gF), (7, gF), (8, gF), (9, bF)] (A6 (wk_spec_raCmp hv12) ha1 ha1 ha1 ha1 ha1))
    ·refine kc w14 (fun hc7_14 => ?_) (fun hc7_14 => ?_)
     ·replace h := ite_t hc7_14 h
      replace h := bs h
      obtain ⟨u16, hu16, h⟩ := h
      refine k_reg (r_gq [(4, .box (eRt a1)), (5, .box (eRt a2)), (7, .ov false [.sl (some 27) ((x2.1 ++ [v5]).map eRt)]), (9, .box (eRt v5)), (10, .d false [.sl none (a0.map eRt)]), (11, .p (iV (a0.length : Int))), (12, .p (iV x2.2))] [(3, {fix := some (29, .ov false [.sl (some 27) ((x2.1 ++ [v5]).map eRt)])})] (A3 (show List.length ((x2.1.map eRt) : List (List C)) + List.length ((([v5]).map eRt) : List (List C)) ≤ 1099511627776 from (by have hg := (guardO_some hu16); simpa using hg)) (show ∀ row ∈ ((([v5]).map eRt) : List (List C)), row.length = 2 from (rows_len fun _ => rfl)) (show (SV.ov false [.sl (some 27) ((x2.1.map eRt) ++ (([v5]).map eRt))] : SV) = .ov false [.sl (some 27) ((x2.1 ++ [v5]).map eRt)] from (congrArg (fun z => SV.ov false [.sl (some 27) z]) (List.map_append ..).symm)))) ?_
      refine q_n ?_
      exact jx (x2.1 ++ [v5]) h
     ·replace h := ite_f hc7_14 h
      refine k_skip ?_
      refine q_n ?_
      exact jx x2.1 h
  ·replace h := ite_f hc5_3 h
   refine k_exit ?_
   refine q_x ?_
   refine lq_x ?_
   refine b_x ?_
   have hyy := hy_x2 _ (oi h).symm
   subst hyy
   have h := hk_x2
   refine q_n ?_
   exact jx x2.1 h
theorem wk_spec_imPiece {a0 : (List Qp)} {a1 : Qr}  {r : Int} (h : spec_imPiece a0 a1 = some r) : Meets Tryz.prog 170 [.d false [.sl none (a0.map ePt)], .v (vRt a1)] { vals := [.p (iV r)] } := by
 refine mo Tryz.func170 [(0, .d false [.sl none (a0.map ePt)]), (1, .p (vRt a1))] ?_
 unfold spec_imPiece at h
 refine k_sreg (r_gq [(0, .d false [.sl none (a0.map ePt)]), (3, .box (eRt a1))] [] trivial) ?_
 refine k_sreg (r_gq [(0, .d false [.sl none (a0.map ePt)]), (3, .box (eRt a1)), (5, .p (iV 0))] [] trivial) ?_
 refine k_join (J := fun (x : Int) => [(5, .p (iV x))]) (K := fun x => spec_imPiece_k1 x = some r) (fun x1 h => ?_) ?_
 ·unfold spec_imPiece_k1 at h
  refine k_sreg (r_gq [(4, .p (iV x1))] [] trivial) ?_
  refine k_ret ?_
  obtain rfl := oi h
  exact er [(.p (iV x1), 4)]
 ·refine k_block ?_
  obtain ⟨y3, hl_x2, hk_x2⟩ := bs h
  clear h
  refine k_loop (J := fun (x : Int) => [(0, .d false [.sl none (a0.map ePt)]), (3, .box (eRt a1)), (5, .p (iV x))]) hl_x2 (wk_of (by kernel_rfl) (by kernel_rfl)) (fun x2 o_x2 h hy_x2 => ?_)
  unfold spec_imPiece_b1 at h
  refine k_seq ?_
  replace h := bs h
  obtain ⟨w6, hw6, h⟩ := h
  refine k_sreg (l1 := [(0, .d false [.sl none (a0.map ePt)]), (3, .box (eRt a1)), (5, .p (iV x2)), (21, .p (.bool w6))]) ?_ ?_
  ·clear h
   rcases ft (decide ((w64 (x2 + 2)) < (a0.length : Int))) with ha0 | ha0
   ·replace hw6 := ite_t ha0 hw6
    replace hw6 := bs hw6
    obtain ⟨v4, hv4, hw6⟩ := hw6
    replace hw6 := bs hw6
    obtain ⟨v5, hv5, hw6⟩ := hw6
    have hw6 := oi hw6
    subst hw6
    exact (r_dq Tryz_mixed 13 [] [(0, .d false [.sl none (a0.map ePt)]), (3, .box (eRt a1)), (5, .p (iV x2)), (21, .p (.bool (decide (v5 < 0))))] [(3, {n := some a0.length}), (6, gT), (7, gT), (8, gT), (9, {g := some true, row := some (ePt v4)}), (10, gT), (11, gT), (12, gT), (13, {g := some true, call := some (none, [.p (iV v5)], true)}), (14, gT), (15, bT)] (B6 (show (a0.map ePt).length = a0.length from (List.length_map ..)) ha0 ha0 ha0 ha0 (idxO_some hv4).1 (B6 (map_get ePt (idxO_some hv4).2) ha0 ha0 ha0 ha0 (wk_spec_raCmp hv5) (A2 ha0 ha0))))
   ·replace hw6 := ite_f ha0 hw6
    have hw6 := oi hw6
    subst hw6
    exact (r_dq Tryz_mixed 13 [] [(0, .d false [.sl none (a0.map ePt)]), (3, .box (eRt a1)), (5, .p (iV x2)), (21, .p (.bool false))] [(3, {n := some a0.length}), (6, gF), (7, gF), (8, gF), (9, gF), (10, gF), (11, gF), (12, gF), (13, gF), (14, gF), (15, bF)] (B6 (show (a0.map ePt).length = a0.length from (List.length_map ..)) ha0 ha0 ha0 ha0 ha0 (A5 ha0 ha0 ha0 ha0 ha0)))
  ·refine kc w6 (fun hc5_6 => ?_) (fun hc5_6 => ?_)
   ·replace h := ite_t hc5_6 h
    refine k_skip ?_
    refine q_n ?_
    refine k_block ?_
    refine k_reg (r_gq [(0, .d false [.sl none (a0.map ePt)]), (3, .box (eRt a1)), (5, .p (iV (w64 (x2 + 1))))] [] trivial) ?_
    refine b_n ?_
    exact lqn (w64 (x2 + 1)) h
   ·replace h := ite_f hc5_6 h
    refine k_exit ?_
    refine q_x ?_
    refine lq_x ?_
    refine b_x ?_
    have hyy := hy_x2 _ (oi h).symm
    subst hyy
    have h := hk_x2
    refine q_n ?_
    exact jx x2 h
theorem wk_spec_raMul {a0 : Qr} {a1 : Qr}  {r : (Qr × Bool)} (h : spec_raMul a0 a1 = some r) : Meets Tryz.prog 194 [.v (vRt a0), .v (vRt a1)] { vals := [.p (vRt r.1), .p (.bool r.2)] } := by
 refine mo Tryz.func194 [(0, .p (vRt a0)), (1, .p (vRt a1))] ?_
 unfold spec_raMul at h
 refine k_sreg (r_gq [(2, .box (eRt a0)), (3, .box (eRt a1)), (4, .box [rI 0, rI 0])] [] trivial) ?_
 replace h := bs h
 obtain ⟨v1, hv1, h⟩ := h
 refine k_sreg (r_gq [(4, .box (eRt v1.1)), (5, .p (.bool v1.2))] [(10, {call := some (none, [.p (vRt v1.1), .p (.bool v1.2)], true)})] (A1 (wk_spec_raMake hv1))) ?_
 refine k_ret ?_
 obtain rfl := oi h
 exact er [(.p (vRt v1.1), 4), (.p (.bool v1.2), 5)]
theorem wk_spec_raAdd {a0 : Qr} {a1 : Qr}  {r : (Qr × Bool)} (h : spec_raAdd a0 a1 = some r) : Meets Tryz.prog 80 [.v (vRt a0), .v (vRt a1)] { vals := [.p (vRt r.1), .p (.bool r.2)] } := by
 refine mo Tryz.func80 [(0, .p (vRt a0)), (1, .p (vRt a1))] ?_
 unfold spec_raAdd at h
 refine k_sreg (r_gq [(2, .box (eRt a0)), (3, .box (eRt a1)), (4, .box [rI 0, rI 0])] [] trivial) ?_
 replace h := bs h
 obtain ⟨v1, hv1, h⟩ := h
 refine k_sreg (r_gq [(4, .box (eRt v1.1)), (5, .p (.bool v1.2))] [(16, {call := some (none, [.p (vRt v1.1), .p (.bool v1.2)], true)})] (A1 (wk_spec_raMake hv1))) ?_
 refine k_ret ?_
 obtain rfl := oi h
 exact er [(.p (vRt v1.1), 4), (.p (.bool v1.2), 5)]
theorem wk_spec_imOn {a0 : Qp} {a1 : Qp} {a2 : Qr}  {r : (Qr × Bool)} (h : spec_imOn a0 a1 a2 = some r) : Meets Tryz.prog 171 [.v (vPt a0), .v (vPt a1), .v (vRt a2)] { vals := [.p (vRt r.1), .p (.bool r.2)] } := by
 refine mo Tryz.func171 [(0, .p (vPt a0)), (1, .p (vPt a1)), (2, .p (vRt a2))] ?_
 unfold spec_imOn at h
 refine k_sreg (r_gq [(3, .box (ePt a0)), (4, .box (ePt a1)), (5, .box (eRt a2)), (6, .box [rI 0, rI 0])] [] trivial) ?_
 replace h := bs h
 obtain ⟨v1, hv1, h⟩ := h
 refine k_sreg (r_gq [(3, .box (ePt a0)), (4, .box (ePt a1)), (6, .box [rI 0, rI 0]), (8, .box (eRt v1.1)), (9, .p (.bool v1.2))] [(3, {call := some (none, [.p (vRt v1.1), .p (.bool v1.2)], true)})] (A1 (wk_spec_raSub hv1))) ?_
 replace h := bs h
 obtain ⟨v2, hv2, h⟩ := h
 replace h := bs h
 obtain ⟨v3, hv3, h⟩ := h
 refine k_sreg (r_dq Tryz_mixed 10 [(9, 10)] [(3, .box (ePt a0)), (6, .box [rI 0, rI 0]), (9, .p (.bool v1.2)), (10, .box (eRt v3.1)), (11, .p (.bool v3.2))] [(3, {call := some (none, [.p (vRt v2)], true)}), (4, {call := some (none, [.p (vRt v3.1), .p (.bool v3.2)], true)})] (A2 (wk_spec_imSlope hv2) (wk_spec_raMul hv3))) ?_
 refine k_seq ?_
 refine k_sreg (l1 := [(3, .box (ePt a0)), (6, .box [rI 0, rI 0]), (10, .box (eRt v3.1)), (32, .p (.bool ((!v1.2) || (!v3.2))))]) ?_ ?_
 ·rcases ft (!v1.2) with ha0 | ha0
  ·exact RegOk.of_eq (l2 := [(3, .box (ePt a0)), (6, .box [rI 0, rI 0]), (10, .box (eRt v3.1)), (32, .p (.bool ((!v1.2) || (!v3.2))))]) (r_gq [(3, .box (ePt a0)), (6, .box [rI 0, rI 0]), (10, .box (eRt v3.1)), (32, .p (.bool true))] [(3, gT), (4, gT), (5, bT)] (A3 ha0 ha0 ha0)) (by simp [ha0])
  ·exact RegOk.of_eq (l2 := [(3, .box (ePt a0)), (6, .box [rI 0, rI 0]), (10, .box (eRt v3.1)), (32, .p (.bool ((!v1.2) || (!v3.2))))]) (r_gq [(3, .box (ePt a0)), (6, .box [rI 0, rI 0]), (10, .box (eRt v3.1)), (32, .p (.bool (!v3.2)))] [(3, gF), (4, gF), (5, bF)] (A3 ha0 ha0 ha0)) (by simp [ha0])
 ·refine kc ((!v1.2) || (!v3.2)) (fun hc2_3 => ?_) (fun hc2_3 => ?_)
  ·replace h := ite_t hc2_3 h
   refine k_sreg (r_gq [(6, .box [rI 0, rI 0]), (7, .p (.bool false))] [] trivial) ?_
   refine k_ret ?_
   refine q_r ?_
   obtain rfl := oi h
   exact er [(.p (.agg #[.int .i64 0, .int .i64 0]), 6), (.p (.bool false), 7)]
  ·replace h := ite_f hc2_3 h
   refine k_skip ?_
   refine q_n ?_
   replace h := bs h
   obtain ⟨v5, hv5, h⟩ := h
   refine k_sreg (r_gq [(6, .box (eRt v5.1)), (7, .p (.bool v5.2))] [(3, {call := some (none, [.p (vRt v5.1), .p (.bool v5.2)], true)})] (A1 (wk_spec_raAdd hv5))) ?_
   refine k_ret ?_
   obtain rfl := oi h
   exact er [(.p (vRt v5.1), 6), (.p (.bool v5.2), 7)]
theorem wk_spec_imAt {a0 : (List Qp)} {a1 : Qr}  {r : (Qr × Bool)} (h : spec_imAt a0 a1 = some r) : Meets Tryz.prog 135 [.d false [.sl none (a0.map ePt)], .v (vRt a1)] { vals := [.p (vRt r.1), .p (.bool r.2)] } := by
 refine mo Tryz.func135 [(0, .d false [.sl none (a0.map ePt)]), (1, .p (vRt a1))] ?_
 unfold spec_imAt at h
 refine k_sreg (r_gq [(0, .d false [.sl none (a0.map ePt)]), (3, .box (eRt a1)), (4, .box [rI 0, rI 0])] [] trivial) ?_
 replace h := bs h
 obtain ⟨v1, hv1, h⟩ := h
 refine k_sreg (r_gq [(0, .d false [.sl none (a0.map ePt)]), (3, .box (eRt a1)), (4, .box [rI 0, rI 0]), (6, .p (iV v1))] [(2, {call := some (none, [.p (iV v1)], true)})] (A1 (wk_spec_imPiece hv1))) ?_
 replace h := bs h
 obtain ⟨v2, hv2, h⟩ := h
 replace h := bs h
 obtain ⟨v3, hv3, h⟩ := h
 replace h := bs h
 obtain ⟨v4, hv4, h⟩ := h
 refine k_sreg (r_dq Tryz_mixed 10 [] [(4, .box (eRt v4.1)), (5, .p (.bool v4.2))] [(2, {row := some (ePt v2)}), (7, {row := some (ePt v3)}), (10, {call := some (none, [.p (vRt v4.1), .p (.bool v4.2)], true)})] (A5 (idxO_some hv2).1 (map_get ePt (idxO_some hv2).2) (idxO_some hv3).1 (map_get ePt (idxO_some hv3).2) (wk_spec_imOn hv4))) ?_
 refine k_ret ?_
 obtain rfl := oi h
 exact er [(.p (vRt v4.1), 4), (.p (.bool v4.2), 5)]
theorem wk_spec_lpNext {a0 : (List Qp)} {a1 : (List Qr)} {a2 : (List Qr)}  {r : ((List Qr) × Bool)} (h : spec_lpNext a0 a1 a2 = some r) : Meets Tryz.prog 85 [.d false [.sl none (a0.map ePt)], .d false [.sl none (a1.map eRt)], .d false [.sl none (a2.map eRt)]] { vals := [.ov false [.sl (some 27) (r.1.map eRt)], .p (.bool r.2)] } := by
 refine mo Tryz.func85 [(0, .d false [.sl none (a0.map ePt)]), (1, .d false [.sl none (a1.map eRt)]), (2, .d false [.sl none (a2.map eRt)])] ?_
 unfold spec_lpNext at h
 refine k_sreg (r_gq [(0, .d false [.sl none (a0.map ePt)]), (1, .d false [.sl none (a1.map eRt)]), (2, .d false [.sl none (a2.map eRt)])] [] trivial) ?_
 replace h := bs h
 obtain ⟨v1, hv1, h⟩ := h
 refine k_sreg (r_gq [(0, .d false [.sl none (a0.map ePt)]), (1, .d false [.sl none (a1.map eRt)]), (2, .d false [.sl none (a2.map eRt)]), (8, .ov false [.sl (some 27) (([v1]).map eRt)])] [(1, {row := some (eRt v1)})] (A2 (idxO_some hv1).1 (map_get eRt (idxO_some hv1).2))) ?_
 refine k_join (J := fun (x : (List Qr)) => [(0, .d false [.sl none (a0.map ePt)]), (8, .ov false [.sl (some 27) (x.map eRt)])]) (K := fun x => spec_lpNext_k1 a0 x = some r) (fun x2 h => ?_) ?_
 ·unfold spec_lpNext_k1 at h
  refine k_seq ?_
  refine k_sreg (r_gq [(0, .d false [.sl none (a0.map ePt)]), (8, .ov false [.sl (some 27) (x2.map eRt)]), (46, .p (.bool (decide ((x2.length : Int) > 4097))))] [(1, {n := some x2.length})] (A1 (show (x2.map eRt).length = x2.length from (List.length_map ..)))) ?_
  refine kc (decide ((x2.length : Int) > 4097)) (fun hc2_2 => ?_) (fun hc2_2 => ?_)
  ·replace h := ite_t hc2_2 h
   refine k_sreg (r_gq [(6, .ov false [.sl (some 27) []]), (7, .p (.bool false))] [] trivial) ?_
   refine k_ret ?_
   refine q_r ?_
   obtain rfl := oi h
   exact er [(.ov false [.sl (some 27) []], 6), (.p (.bool false), 7)]
  ·replace h := ite_f hc2_2 h
   refine k_skip ?_
   refine q_n ?_
   refine k_sreg (r_gq [(0, .d false [.sl none (a0.map ePt)]), (8, .ov false [.sl (some 27) (x2.map eRt)]), (10, .ov false [.sl (some 27) []])] [] trivial) ?_
   refine k_join (J := fun (x : (List Qr)) => [(10, .ov false [.sl (some 27) (x.map eRt)])]) (K := fun x => spec_lpNext_k2 x = some r) (fun x4 h => ?_) ?_
   ·unfold spec_lpNext_k2 at h
    refine k_sreg (r_gq [(6, .ov false [.sl (some 27) (x4.map eRt)]), (7, .p (.bool true))] [] trivial) ?_
    refine k_ret ?_
    obtain rfl := oi h
    exact er [(.ov false [.sl (some 27) (x4.map eRt)], 6), (.p (.bool true), 7)]
   ·refine k_sreg (r_gq [(0, .d false [.sl none (a0.map ePt)]), (8, .ov false [.sl (some 27) (x2.map eRt)]), (10, .ov false [.sl (some 27) []]), (47, .ref 8 [(0, 0)] none), (48, .p (iV (x2.length : Int))), (49, .p (iV 0))] [(1, {n := some x2.length})] (A1 (show (x2.map eRt).length = x2.length from (List.length_map ..)))) ?_
    refine k_block ?_
    obtain ⟨y6, hl_x5, hk_x5⟩ := bs h
    clear h
    refine k_loop (J := fun (x : ((List Qr) × Int)) => [(0, .d false [.sl none (a0.map ePt)]), (8, .ov false [.sl (some 27) (x2.map eRt)]), (10, .ov false [.sl (some 27) (x.1.map eRt)]), (47, .ref 8 [(0, 0)] none), (48, .p (iV (x2.length : Int))), (49, .p (iV x.2))]) hl_x5 (wk_of (by kernel_rfl) (by kernel_rfl)) (fun x5 o_x5 h hy_x5 => ?_)
    unfold spec_lpNext_b1 at h
    refine k_sreg (r_gq [(0, .d false [.sl none (a0.map ePt)]), (8, .ov false [.sl (some 27) (x2.map eRt)]), (10, .ov false [.sl (some 27) (x5.1.map eRt)]), (47, .ref 8 [(0, 0)] none), (48, .p (iV (x2.length : Int))), (49, .p (iV x5.2)), (50, .p (.bool (decide (x5.2 < (x2.length : Int)))))] [] trivial) ?_
    refine k_seq ?_
    refine kc (decide (x5.2 < (x2.length : Int))) (fun hc5_6 => ?_) (fun hc5_6 => ?_)
    ·replace h := ite_t hc5_6 h
     refine k_skip ?_
     refine q_n ?_
     refine k_seq ?_
     refine k_block ?_
     replace h := bs h
     obtain ⟨v8, hv8, h⟩ := h
     refine k_sreg (r_gq [(0, .d false [.sl none (a0.map ePt)]), (8, .ov false [.sl (some 27) (x2.map eRt)]), (10, .ov false [.sl (some 27) (x5.1.map eRt)]), (12, .box (eRt v8)), (47, .ref 8 [(0, 0)] none), (48, .p (iV (x2.length : Int))), (49, .p (iV x5.2))] [(0, {row := some (eRt v8)}), (1, {row := some (eRt v8)})] (A3 (idxO_some hv8).1 (map_get eRt (idxO_some hv8).2) (show getRow [[.sl (some 27) (x2.map eRt)]] [(0, 0), ((Int.toNat x5.2), 0)] = some (eRt v8) from ((gr0 rfl).trans (gre (map_get eRt (idxO_some hv8).2)))))) ?_
     replace h := bs h
     obtain ⟨v9, hv9, h⟩ := h
     refine k_sreg (r_gq [(0, .d false [.sl none (a0.map ePt)]), (8, .ov false [.sl (some 27) (x2.map eRt)]), (10, .ov false [.sl (some 27) (x5.1.map eRt)]), (13, .box (eRt v9.1)), (14, .p (.bool v9.2)), (47, .ref 8 [(0, 0)] none), (48, .p (iV (x2.length : Int))), (49, .p (iV x5.2))] [(2, {call := some (none, [.p (vRt v9.1), .p (.bool v9.2)], true)})] (A1 (wk_spec_imAt hv9))) ?_
     refine k_seq ?_
     refine k_sreg (r_gq [(0, .d false [.sl none (a0.map ePt)]), (8, .ov false [.sl (some 27) (x2.map eRt)]), (10, .ov false [.sl (some 27) (x5.1.map eRt)]), (13, .box (eRt v9.1)), (47, .ref 8 [(0, 0)] none), (48, .p (iV (x2.length : Int))), (49, .p (iV x5.2)), (60, .p (.bool (!v9.2)))] [] trivial) ?_
     refine kc (!v9.2) (fun hc7_9 => ?_) (fun hc7_9 => ?_)
     ·replace h := ite_t hc7_9 h
      refine k_sreg (r_gq [(6, .ov false [.sl (some 27) []]), (7, .p (.bool false))] [] trivial) ?_
      refine k_ret ?_
      refine q_r ?_
      refine b_r ?_
      refine q_r ?_
      refine lq_r ?_
      refine b_r ?_
      refine q_r ?_
      have hyy := hy_x5 _ (oi h).symm
      subst hyy
      have h := hk_x5
      dsimp only [Sum.elim] at h
      obtain rfl := oi h
      exact er [(.ov false [.sl (some 27) []], 6), (.p (.bool false), 7)]
     ·replace h := ite_f hc7_9 h
      refine k_skip ?_
      refine q_n ?_
      replace h := bs h
      obtain ⟨u11, hu11, h⟩ := h
      refine k_reg (r_gq [(0, .d false [.sl none (a0.map ePt)]), (8, .ov false [.sl (some 27) (x2.map eRt)]), (10, .ov false [.sl (some 27) ((x5.1 ++ [v9.1]).map eRt)]), (47, .ref 8 [(0, 0)] none), (48, .p (iV (x2.length : Int))), (49, .p (iV x5.2))] [(3, {fix := some (64, .ov false [.sl (some 27) ((x5.1 ++ [v9.1]).map eRt)])})] (A3 (show List.length ((x5.1.map eRt) : List (List C)) + List.length ((([v9.1]).map eRt) : List (List C)) ≤ 1099511627776 from (by have hg := (guardO_some hu11); simpa using hg)) (show ∀ row ∈ ((([v9.1]).map eRt) : List (List C)), row.length = 2 from (rows_len fun _ => rfl)) (show (SV.ov false [.sl (some 27) ((x5.1.map eRt) ++ (([v9.1]).map eRt))] : SV) = .ov false [.sl (some 27) ((x5.1 ++ [v9.1]).map eRt)] from (congrArg (fun z => SV.ov false [.sl (some 27) z]) (List.map_append ..).symm)))) ?_
      refine b_n ?_
      refine q_n ?_
      refine k_reg (r_gq [(0, .d false [.sl none (a0.map ePt)]), (8, .ov false [.sl (some 27) (x2.map eRt)]), (10, .ov false [.sl (some 27) ((x5.1 ++ [v9.1]).map eRt)]), (47, .ref 8 [(0, 0)] none), (48, .p (iV (x2.length : Int))), (49, .p (iV (w64 (x5.2 + 1))))] [] trivial) ?_
      exact lqn ((x5.1 ++ [v9.1]), (w64 (x5.2 + 1))) h
    ·replace h := ite_f hc5_6 h
     refine k_exit ?_
     refine q_x ?_
     refine lq_x ?_
     refine b_x ?_
     have hyy := hy_x5 _ (oi h).symm
     subst hyy
     have h := hk_x5
     dsimp only [Sum.elim] at h
     refine q_n ?_
     exact jx x5.1 h
 ·refine k_sreg (r_gq [(0, .d false [.sl none (a0.map ePt)]), (1, .d false [.sl none (a1.map eRt)]), (2, .d false [.sl none (a2.map eRt)]), (8, .ov false [.sl (some 27) (([v1]).map eRt)]), (9, .p (iV 1))] [] trivial) ?_
  refine k_block ?_
  obtain ⟨y13, hl_x12, hk_x12⟩ := bs h
  clear h
  refine k_loop (J := fun (x : ((List Qr) × Int)) => [(0, .d false [.sl none (a0.map ePt)]), (1, .d false [.sl none (a1.map eRt)]), (2, .d false [.sl none (a2.map eRt)]), (8, .ov false [.sl (some 27) (x.1.map eRt)]), (9, .p (iV x.2))]) hl_x12 (wk_of (by kernel_rfl) (by kernel_rfl)) (fun x12 o_x12 h hy_x12 => ?_)
  unfold spec_lpNext_b2 at h
  refine k_seq ?_
  refine k_sreg (r_gq [(0, .d false [.sl none (a0.map ePt)]), (1, .d false [.sl none (a1.map eRt)]), (2, .d false [.sl none (a2.map eRt)]), (8, .ov false [.sl (some 27) (x12.1.map eRt)]), (9, .p (iV x12.2)), (22, .p (.bool (decide (x12.2 < (a2.length : Int)))))] [(2, {n := some a2.length})] (A1 (show (a2.map eRt).length = a2.length from (List.length_map ..)))) ?_
  refine kc (decide (x12.2 < (a2.length : Int))) (fun hc5_13 => ?_) (fun hc5_13 => ?_)
  ·replace h := ite_t hc5_13 h
   refine k_skip ?_
   refine q_n ?_
   refine k_seq ?_
   refine k_block ?_
   replace h := bs h
   obtain ⟨v15, hv15, h⟩ := h
   replace h := bs h
   obtain ⟨v16, hv16, h⟩ := h
   replace h := bs h
   obtain ⟨v17, hv17, h⟩ := h
   replace h := bs h
   obtain ⟨u18, hu18, h⟩ := h
   replace h := bs h
   obtain ⟨u19, hu19, h⟩ := h
   refine k_reg (r_dq Tryz_mixed 18 [(0, 8), (12, 25), (4096, 8), (4097, 25)] [(0, .d false [.sl none (a0.map ePt)]), (1, .d false [.sl none (a1.map eRt)]), (2, .d false [.sl none (a2.map eRt)]), (8, .ov false [.sl (some 27) (((x12.1 ++ v17) ++ [v16]).map eRt)]), (9, .p (iV x12.2))] [(5, {row := some (eRt v15)}), (9, {row := some (eRt v16)}), (11, {call := some (none, [.ov false [.sl (some 27) (v17.map eRt)]], true), pre := some (0, .u), fix := some (36, .d false [.sl none (v17.map eRt)])}), (12, {fix := some (37, .ov false [.sl (some 27) ((x12.1 ++ v17).map eRt)])}), (15, {row := some (eRt v16)}), (18, {fix := some (43, .ov false [.sl (some 27) (((x12.1 ++ v17) ++ [v16]).map eRt)])})] (B6 (idxO_some hv15).1 (map_get eRt (idxO_some hv15).2) (idxO_some hv16).1 (map_get eRt (idxO_some hv16).2) (wk_spec_lpBetween hv17) (show List.all [.ov false [.sl (some 27) (v17.map eRt)]] simpleR = true from (sa_o (wnR1 (wnL_enc (wn_P wn_I wn_I)) rfl) rfl)) (B6 (show (SV.d false (eraR [.sl (some 27) (v17.map eRt)]) : SV) = .d false [.sl none (v17.map eRt)] from (congrArg (fun z => SV.d false z) (erc_sl (eraL_enc (era_P er_I er_I)) rfl))) (show List.length ((x12.1.map eRt) : List (List C)) + List.length ((v17.map eRt) : List (List C)) ≤ 1099511627776 from (by have hg := (guardO_some hu18); simpa using hg)) (show ∀ row ∈ ((v17.map eRt) : List (List C)), row.length = 2 from (rows_len fun _ => rfl)) (show (SV.ov false [.sl (some 27) ((x12.1.map eRt) ++ (v17.map eRt))] : SV) = .ov false [.sl (some 27) ((x12.1 ++ v17).map eRt)] from (congrArg (fun z => SV.ov false [.sl (some 27) z]) (List.map_append ..).symm)) (idxO_some hv16).1 (map_get eRt (idxO_some hv16).2) (A3 (show List.length (((x12.1 ++ v17).map eRt) : List (List C)) + List.length ((([v16]).map eRt) : List (List C)) ≤ 1099511627776 from (by have hg := (guardO_some hu19); simpa using hg)) (show ∀ row ∈ ((([v16]).map eRt) : List (List C)), row.length = 2 from (rows_len fun _ => rfl)) (show (SV.ov false [.sl (some 27) (((x12.1 ++ v17).map eRt) ++ (([v16]).map eRt))] : SV) = .ov false [.sl (some 27) (((x12.1 ++ v17) ++ [v16]).map eRt)] from (congrArg (fun z => SV.ov false [.sl (some 27) z]) (List.map_append ..).symm)))))) ?_
   refine b_n ?_
   refine q_n ?_
   refine k_reg (r_gq [(0, .d false [.sl none (a0.map ePt)]), (1, .d false [.sl none (a1.map eRt)]), (2, .d false [.sl none (a2.map eRt)]), (8, .ov false [.sl (some 27) (((x12.1 ++ v17) ++ [v16]).map eRt)]), (9, .p (iV (w64 (x12.2 + 1))))] [] trivial) ?_
   exact lqn (((x12.1 ++ v17) ++ [v16]), (w64 (x12.2 + 1))) h
  ·replace h := ite_f hc5_13 h
   refine k_exit ?_
   refine q_x ?_
   refine lq_x ?_
   refine b_x ?_
   have hyy := hy_x12 _ (oi h).symm
   subst hyy
   have h := hk_x12
   refine q_n ?_
   exact jx x12.1 h
theorem wk_spec_LapGrowth {a0 : (List Qp)} {a1 : Int}  {r : ((List Int) × Bool)} (h : spec_LapGrowth a0 a1 = some r) : Meets Tryz.prog 25 [.d false [.sl none (a0.map ePt)], wI a1] { vals := [.ov false [.sl (some 3) (r.1.map eI)], .p (.bool r.2)] } := by
 refine mo Tryz.func25 [(0, .d false [.sl none (a0.map ePt)]), (1, .p (iV a1))] ?_
 unfold spec_LapGrowth at h
 refine k_sreg (r_gq [(0, .d false [.sl none (a0.map ePt)]), (1, .p (iV a1))] [] trivial) ?_
 refine k_seq ?_
 replace h := bs h
 obtain ⟨v1, hv1, h⟩ := h
 refine k_sreg (r_gq [(0, .d false [.sl none (a0.map ePt)]), (1, .p (iV a1)), (15, .p (.bool (!v1)))] [(2, {call := some (none, [.p (.bool v1)], true)})] (A1 (wk_spec_lpAsked hv1))) ?_
 refine kc (!v1) (fun hc2_1 => ?_) (fun hc2_1 => ?_)
 ·replace h := ite_t hc2_1 h
  refine k_sreg (r_gq [(4, .ov false [.sl (some 3) []]), (5, .p (.bool false))] [] trivial) ?_
  refine k_ret ?_
  refine q_r ?_
  obtain rfl := oi h
  exact er [(.ov false [.sl (some 3) []], 4), (.p (.bool false), 5)]
 ·replace h := ite_f hc2_1 h
  refine k_skip ?_
  refine q_n ?_
  replace h := bs h
  obtain ⟨v3, hv3, h⟩ := h
  replace h := bs h
  obtain ⟨v4, hv4, h⟩ := h
  refine k_sreg (r_gq [(0, .d false [.sl none (a0.map ePt)]), (1, .p (iV a1)), (6, .ov false [.sl (some 27) (([v3, v4]).map eRt)])] [(0, {call := some (none, [.p (vRt v3)], true)}), (1, {call := some (none, [.p (vRt v4)], true)})] (A2 (wk_spec_raInt hv3) (wk_spec_raInt hv4))) ?_
  replace h := bs h
  obtain ⟨v5, hv5, h⟩ := h
  refine k_sreg (r_gq [(0, .d false [.sl none (a0.map ePt)]), (1, .p (iV a1)), (6, .ov false [.sl (some 27) (([v3, v4]).map eRt)]), (7, .ov false [.sl (some 27) (v5.map eRt)])] [(1, {call := some (none, [.ov false [.sl (some 27) (v5.map eRt)]], true)})] (A2 (wk_spec_lpTurns hv5) (show List.all [.ov false [.sl (some 27) (v5.map eRt)]] simpleR = true from (sa_o (wnR1 (wnL_enc (wn_P wn_I wn_I)) rfl) rfl)))) ?_
  refine k_sreg (r_gq [(0, .d false [.sl none (a0.map ePt)]), (1, .p (iV a1)), (6, .ov false [.sl (some 27) (([v3, v4]).map eRt)]), (7, .ov false [.sl (some 27) (v5.map eRt)]), (8, .ov false [.sl (some 3) (([1]).map eI)])] [] trivial) ?_
  refine k_join (J := fun (x : (List Int)) => [(8, .ov false [.sl (some 3) (x.map eI)])]) (K := fun x => spec_LapGrowth_k1 x = some r) (fun x6 h => ?_) ?_
  ·unfold spec_LapGrowth_k1 at h
   refine k_sreg (r_gq [(4, .ov false [.sl (some 3) (x6.map eI)]), (5, .p (.bool true))] [] trivial) ?_
   refine k_ret ?_
   obtain rfl := oi h
   exact er [(.ov false [.sl (some 3) (x6.map eI)], 4), (.p (.bool true), 5)]
  ·refine k_sreg (r_gq [(0, .d false [.sl none (a0.map ePt)]), (1, .p (iV a1)), (6, .ov false [.sl (some 27) (([v3, v4]).map eRt)]), (7, .ov false [.sl (some 27) (v5.map eRt)]), (8, .ov false [.sl (some 3) (([1]).map eI)]), (9, .p (iV 0))] [] trivial) ?_
   refine k_block ?_
   obtain ⟨y8, hl_x7, hk_x7⟩ := bs h
   clear h
   refine k_loop (J := fun (x : ((List Qr) × (List Int) × Int)) => [(0, .d false [.sl none (a0.map ePt)]), (1, .p (iV a1)), (6, .ov false [.sl (some 27) (x.1.map eRt)]), (7, .ov false [.sl (some 27) (v5.map eRt)]), (8, .ov false [.sl (some 3) (x.2.1.map eI)]), (9, .p (iV x.2.2))]) hl_x7 (wk_of (by kernel_rfl) (by kernel_rfl)) (fun x7 o_x7 h hy_x7 => ?_)
   unfold spec_LapGrowth_b1 at h
   refine k_seq ?_
   refine k_sreg (r_gq [(0, .d false [.sl none (a0.map ePt)]), (1, .p (iV a1)), (6, .ov false [.sl (some 27) (x7.1.map eRt)]), (7, .ov false [.sl (some 27) (v5.map eRt)]), (8, .ov false [.sl (some 3) (x7.2.1.map eI)]), (9, .p (iV x7.2.2)), (24, .p (.bool (decide (x7.2.2 < a1))))] [] trivial) ?_
   refine kc (decide (x7.2.2 < a1)) (fun hc5_8 => ?_) (fun hc5_8 => ?_)
   ·replace h := ite_t hc5_8 h
    refine k_skip ?_
    refine q_n ?_
    refine k_seq ?_
    refine k_block ?_
    replace h := bs h
    obtain ⟨v10, hv10, h⟩ := h
    refine k_sreg (r_gq [(0, .d false [.sl none (a0.map ePt)]), (1, .p (iV a1)), (7, .ov false [.sl (some 27) (v5.map eRt)]), (8, .ov false [.sl (some 3) (x7.2.1.map eI)]), (9, .p (iV x7.2.2)), (10, .ov false [.sl (some 27) (v10.1.map eRt)]), (11, .p (.bool v10.2))] [(3, {call := some (some [.d false [.sl none (a0.map ePt)], .d false [.sl none (v5.map eRt)], .d false [.sl none (x7.1.map eRt)]], [.ov false [.sl (some 27) (v10.1.map eRt)], .p (.bool v10.2)], true)})] (A3 (show ([.d false [.sl none (a0.map ePt)], .d false [.sl none (eraL (v5.map eRt))], .d false [.sl none (eraL (x7.1.map eRt))]] : List Arg) = [.d false [.sl none (a0.map ePt)], .d false [.sl none (v5.map eRt)], .d false [.sl none (x7.1.map eRt)]] from (by simp only [eraL_enc (h := eRt) (era_P er_I er_I), eraL_enc (h := eRt) (era_P er_I er_I)])) (wk_spec_lpNext hv10) (show List.all [.ov false [.sl (some 27) (v10.1.map eRt)], .p (.bool v10.2)] simpleR = true from (sa_o (wnR1 (wnL_enc (wn_P wn_I wn_I)) rfl) (sa_p rfl))))) ?_
    refine k_seq ?_
    refine k_sreg (r_gq [(0, .d false [.sl none (a0.map ePt)]), (1, .p (iV a1)), (7, .ov false [.sl (some 27) (v5.map eRt)]), (8, .ov false [.sl (some 3) (x7.2.1.map eI)]), (9, .p (iV x7.2.2)), (10, .ov false [.sl (some 27) (v10.1.map eRt)]), (35, .p (.bool (!v10.2)))] [] trivial) ?_
    refine kc (!v10.2) (fun hc7_10 => ?_) (fun hc7_10 => ?_)
    ·replace h := ite_t hc7_10 h
     refine k_sreg (r_gq [(4, .ov false [.sl (some 3) []]), (5, .p (.bool false))] [] trivial) ?_
     refine k_ret ?_
     refine q_r ?_
     refine b_r ?_
     refine q_r ?_
     refine lq_r ?_
     refine b_r ?_
     refine q_r ?_
     have hyy := hy_x7 _ (oi h).symm
     subst hyy
     have h := hk_x7
     dsimp only [Sum.elim] at h
     obtain rfl := oi h
     exact er [(.ov false [.sl (some 3) []], 4), (.p (.bool false), 5)]
    ·replace h := ite_f hc7_10 h
     refine k_skip ?_
     refine q_n ?_
     refine k_sreg (r_gq [(0, .d false [.sl none (a0.map ePt)]), (1, .p (iV a1)), (6, .ov false [.sl (some 27) (v10.1.map eRt)]), (7, .ov false [.sl (some 27) (v5.map eRt)]), (8, .ov false [.sl (some 3) (x7.2.1.map eI)]), (9, .p (iV x7.2.2))] [] trivial) ?_
     replace h := bs h
     obtain ⟨u12, hu12, h⟩ := h
     refine k_reg (r_gq [(0, .d false [.sl none (a0.map ePt)]), (1, .p (iV a1)), (6, .ov false [.sl (some 27) (v10.1.map eRt)]), (7, .ov false [.sl (some 27) (v5.map eRt)]), (8, .ov false [.sl (some 3) ((x7.2.1 ++ [(w64 ((v10.1.length : Int) - 1))]).map eI)]), (9, .p (iV x7.2.2))] [(2, {n := some v10.1.length}), (5, {fix := some (42, .ov false [.sl (some 3) ((x7.2.1 ++ [(w64 ((v10.1.length : Int) - 1))]).map eI)])})] (A4 (show (v10.1.map eRt).length = v10.1.length from (List.length_map ..)) (show List.length ((x7.2.1.map eI) : List (List C)) + List.length ((([(w64 ((v10.1.length : Int) - 1))]).map eI) : List (List C)) ≤ 1099511627776 from (by have hg := (guardO_some hu12); simpa using hg)) (show ∀ row ∈ ((([(w64 ((v10.1.length : Int) - 1))]).map eI) : List (List C)), row.length = 1 from (rows_len fun _ => rfl)) (show (SV.ov false [.sl (some 3) ((x7.2.1.map eI) ++ (([(w64 ((v10.1.length : Int) - 1))]).map eI))] : SV) = .ov false [.sl (some 3) ((x7.2.1 ++ [(w64 ((v10.1.length : Int) - 1))]).map eI)] from (congrArg (fun z => SV.ov false [.sl (some 3) z]) (List.map_append ..).symm)))) ?_
     refine b_n ?_
     refine q_n ?_
     refine k_reg (r_gq [(0, .d false [.sl none (a0.map ePt)]), (1, .p (iV a1)), (6, .ov false [.sl (some 27) (v10.1.map eRt)]), (7, .ov false [.sl (some 27) (v5.map eRt)]), (8, .ov false [.sl (some 3) ((x7.2.1 ++ [(w64 ((v10.1.length : Int) - 1))]).map eI)]), (9, .p (iV (w64 (x7.2.2 + 1))))] [] trivial) ?_
     exact lqn (v10.1, (x7.2.1 ++ [(w64 ((v10.1.length : Int) - 1))]), (w64 (x7.2.2 + 1))) h
   ·replace h := ite_f hc5_8 h
    refine k_exit ?_
    refine q_x ?_
    refine lq_x ?_
    refine b_x ?_
    have hyy := hy_x7 _ (oi h).symm
    subst hyy
    have h := hk_x7
    dsimp only [Sum.elim] at h
    refine q_n ?_
    exact jx x7.2.1 h
theorem wk_impl_LapNumber {a0 : (List Qp)} {a1 : Int}  {r : (Int × Bool)} (h : impl_LapNumber a0 a1 = some r) : Meets Tryz.prog 26 [.d false [.sl none (a0.map ePt)], wI a1] { vals := [.p (iV r.1), .p (.bool r.2)] } := by
 refine mo Tryz.func26 [(0, .d false [.sl none (a0.map ePt)]), (1, .p (iV a1))] ?_
 unfold impl_LapNumber at h
 refine k_sreg (r_gq [(0, .d false [.sl none (a0.map ePt)]), (1, .p (iV a1))] [] trivial) ?_
 replace h := bs h
 obtain ⟨v1, hv1, h⟩ := h
 refine k_sreg (r_gq [(1, .p (iV a1)), (6, .ov false [.sl (some 30) (v1.1.map (eO 27 eRt))]), (7, .p (.bool v1.2))] [(2, {call := some (none, [.ov false [.sl (some 30) (v1.1.map (eO 27 eRt))], .p (.bool v1.2)], true)})] (A2 (wk_impl_iterated hv1) (show List.all [.ov false [.sl (some 30) (v1.1.map (eO 27 eRt))], .p (.bool v1.2)] simpleR = true from (sa_o (wnR1 (wnL_enc (wn_O (wn_P wn_I wn_I))) rfl) (sa_p rfl))))) ?_
 refine k_seq ?_
 refine k_sreg (r_gq [(1, .p (iV a1)), (6, .ov false [.sl (some 30) (v1.1.map (eO 27 eRt))]), (15, .p (.bool (!v1.2)))] [] trivial) ?_
 refine kc (!v1.2) (fun hc2_1 => ?_) (fun hc2_1 => ?_)
 ·replace h := ite_t hc2_1 h
  refine k_sreg (r_gq [(4, .p (iV 0)), (5, .p (.bool false))] [] trivial) ?_
  refine k_ret ?_
  refine q_r ?_
  obtain rfl := oi h
  exact er [(.p (iV 0), 4), (.p (.bool false), 5)]
 ·replace h := ite_f hc2_1 h
  refine k_skip ?_
  refine q_n ?_
  replace h := bs h
  obtain ⟨v3, hv3, h⟩ := h
  refine k_sreg (r_gq [(4, .p (iV (w64 ((v3.length : Int) - 1)))), (5, .p (.bool true))] [(2, {row := some [.sl (some 27) (v3.map eRt)]}), (3, {row := some [.sl (some 27) (v3.map eRt)]}), (4, {deep := some [.sl (some 27) (v3.map eRt)], n := some v3.length})] (A6 (idxO_some hv3).1 (map_get (eO 27 eRt) (idxO_some hv3).2) (show frR [.sl (some 27) (v3.map eRt)] = false from rfl) (show getRow [[.sl (some 30) (v1.1.map (eO 27 eRt))]] [(0, 0), ((Int.toNat a1), 0)] = some [.sl (some 27) (v3.map eRt)] from ((gr0 rfl).trans (gre (map_get (eO 27 eRt) (idxO_some hv3).2)))) (show (v3.map eRt).length = v3.length from (List.length_map ..)) (show getRow [[.sl (some 30) (v1.1.map (eO 27 eRt))]] [(0, 0), ((Int.toNat a1), 0)] = some [.sl (some 27) (v3.map eRt)] from ((gr0 rfl).trans (gre (map_get (eO 27 eRt) (idxO_some hv3).2)))))) ?_
  refine k_ret ?_
  obtain rfl := oi h
  exact er [(.p (iV (w64 ((v3.length : Int) - 1))), 4), (.p (.bool true), 5)]
theorem wk_spec_lpEnds {a0 : (List Qp)} {a1 : Int}  {r : ((List Qr) × Bool)} (h : spec_lpEnds a0 a1 = some r) : Meets Tryz.prog 86 [.d false [.sl none (a0.map ePt)], wI a1] { vals := [.ov false [.sl (some 27) (r.1.map eRt)], .p (.bool r.2)] } := by
 refine mo Tryz.func86 [(0, .d false [.sl none (a0.map ePt)]), (1, .p (iV a1))] ?_
 unfold spec_lpEnds at h
 refine k_sreg (r_gq [(0, .d false [.sl none (a0.map ePt)]), (1, .p (iV a1))] [] trivial) ?_
 replace h := bs h
 obtain ⟨v1, hv1, h⟩ := h
 replace h := bs h
 obtain ⟨v2, hv2, h⟩ := h
 refine k_sreg (r_gq [(0, .d false [.sl none (a0.map ePt)]), (1, .p (iV a1)), (6, .ov false [.sl (some 27) (([v1, v2]).map eRt)])] [(0, {call := some (none, [.p (vRt v1)], true)}), (1, {call := some (none, [.p (vRt v2)], true)})] (A2 (wk_spec_raInt hv1) (wk_spec_raInt hv2))) ?_
 replace h := bs h
 obtain ⟨v3, hv3, h⟩ := h
 refine k_sreg (r_gq [(0, .d false [.sl none (a0.map ePt)]), (1, .p (iV a1)), (6, .ov false [.sl (some 27) (([v1, v2]).map eRt)]), (7, .ov false [.sl (some 27) (v3.map eRt)])] [(1, {call := some (none, [.ov false [.sl (some 27) (v3.map eRt)]], true)})] (A2 (wk_spec_lpTurns hv3) (show List.all [.ov false [.sl (some 27) (v3.map eRt)]] simpleR = true from (sa_o (wnR1 (wnL_enc (wn_P wn_I wn_I)) rfl) rfl)))) ?_
 refine k_join (J := fun (x : (List Qr)) => [(6, .ov false [.sl (some 27) (x.map eRt)])]) (K := fun x => spec_lpEnds_k1 x = some r) (fun x4 h => ?_) ?_
 ·unfold spec_lpEnds_k1 at h
  refine k_sreg (r_gq [(4, .ov false [.sl (some 27) (x4.map eRt)]), (5, .p (.bool true))] [] trivial) ?_
  refine k_ret ?_
  obtain rfl := oi h
  exact er [(.ov false [.sl (some 27) (x4.map eRt)], 4), (.p (.bool true), 5)]
 ·refine k_block ?_
  obtain ⟨y6, hl_x5, hk_x5⟩ := bs h
  clear h
  refine k_loop (J := fun (x : (Int × (List Qr))) => [(0, .d false [.sl none (a0.map ePt)]), (1, .p (iV x.1)), (6, .ov false [.sl (some 27) (x.2.map eRt)]), (7, .ov false [.sl (some 27) (v3.map eRt)])]) hl_x5 (wk_of (by kernel_rfl) (by kernel_rfl)) (fun x5 o_x5 h hy_x5 => ?_)
  unfold spec_lpEnds_b1 at h
  refine k_seq ?_
  refine k_sreg (r_gq [(0, .d false [.sl none (a0.map ePt)]), (1, .p (iV x5.1)), (6, .ov false [.sl (some 27) (x5.2.map eRt)]), (7, .ov false [.sl (some 27) (v3.map eRt)]), (16, .p (.bool (decide (x5.1 > 0))))] [] trivial) ?_
  refine kc (decide (x5.1 > 0)) (fun hc5_6 => ?_) (fun hc5_6 => ?_)
  ·replace h := ite_t hc5_6 h
   refine k_skip ?_
   refine q_n ?_
   refine k_seq ?_
   refine k_block ?_
   replace h := bs h
   obtain ⟨v8, hv8, h⟩ := h
   refine k_sreg (r_gq [(0, .d false [.sl none (a0.map ePt)]), (1, .p (iV x5.1)), (7, .ov false [.sl (some 27) (v3.map eRt)]), (8, .ov false [.sl (some 27) (v8.1.map eRt)]), (9, .p (.bool v8.2))] [(3, {call := some (some [.d false [.sl none (a0.map ePt)], .d false [.sl none (v3.map eRt)], .d false [.sl none (x5.2.map eRt)]], [.ov false [.sl (some 27) (v8.1.map eRt)], .p (.bool v8.2)], true)})] (A3 (show ([.d false [.sl none (a0.map ePt)], .d false [.sl none (eraL (v3.map eRt))], .d false [.sl none (eraL (x5.2.map eRt))]] : List Arg) = [.d false [.sl none (a0.map ePt)], .d false [.sl none (v3.map eRt)], .d false [.sl none (x5.2.map eRt)]] from (by simp only [eraL_enc (h := eRt) (era_P er_I er_I), eraL_enc (h := eRt) (era_P er_I er_I)])) (wk_spec_lpNext hv8) (show List.all [.ov false [.sl (some 27) (v8.1.map eRt)], .p (.bool v8.2)] simpleR = true from (sa_o (wnR1 (wnL_enc (wn_P wn_I wn_I)) rfl) (sa_p rfl))))) ?_
   refine k_seq ?_
   refine k_sreg (r_gq [(0, .d false [.sl none (a0.map ePt)]), (1, .p (iV x5.1)), (7, .ov false [.sl (some 27) (v3.map eRt)]), (8, .ov false [.sl (some 27) (v8.1.map eRt)]), (27, .p (.bool (!v8.2)))] [] trivial) ?_
   refine kc (!v8.2) (fun hc7_8 => ?_) (fun hc7_8 => ?_)
   ·replace h := ite_t hc7_8 h
    refine k_sreg (r_gq [(4, .ov false [.sl (some 27) []]), (5, .p (.bool false))] [] trivial) ?_
    refine k_ret ?_
    refine q_r ?_
    refine b_r ?_
    refine q_r ?_
    refine lq_r ?_
    refine b_r ?_
    refine q_r ?_
    have hyy := hy_x5 _ (oi h).symm
    subst hyy
    have h := hk_x5
    dsimp only [Sum.elim] at h
    obtain rfl := oi h
    exact er [(.ov false [.sl (some 27) []], 4), (.p (.bool false), 5)]
   ·replace h := ite_f hc7_8 h
    refine k_skip ?_
    refine q_n ?_
    refine k_reg (r_gq [(0, .d false [.sl none (a0.map ePt)]), (1, .p (iV x5.1)), (6, .ov false [.sl (some 27) (v8.1.map eRt)]), (7, .ov false [.sl (some 27) (v3.map eRt)])] [] trivial) ?_
    refine b_n ?_
    refine q_n ?_
    refine k_reg (r_gq [(0, .d false [.sl none (a0.map ePt)]), (1, .p (iV (w64 (x5.1 - 1)))), (6, .ov false [.sl (some 27) (v8.1.map eRt)]), (7, .ov false [.sl (some 27) (v3.map eRt)])] [] trivial) ?_
    exact lqn ((w64 (x5.1 - 1)), v8.1) h
  ·replace h := ite_f hc5_6 h
   refine k_exit ?_
   refine q_x ?_
   refine lq_x ?_
   refine b_x ?_
   have hyy := hy_x5 _ (oi h).symm
   subst hyy
   have h := hk_x5
   dsimp only [Sum.elim] at h
   refine q_n ?_
   exact jx x5.2 h
theorem wk_spec_LapNumber {a0 : (List Qp)} {a1 : Int}  {r : (Int × Bool)} (h : spec_LapNumber a0 a1 = some r) : Meets Tryz.prog 27 [.d false [.sl none (a0.map ePt)], wI a1] { vals := [.p (iV r.1), .p (.bool r.2)] } := by
 refine mo Tryz.func27 [(0, .d false [.sl none (a0.map ePt)]), (1, .p (iV a1))] ?_
 unfold spec_LapNumber at h
 refine k_sreg (r_gq [(0, .d false [.sl none (a0.map ePt)]), (1, .p (iV a1))] [] trivial) ?_
 refine k_seq ?_
 replace h := bs h
 obtain ⟨v1, hv1, h⟩ := h
 refine k_sreg (r_gq [(0, .d false [.sl none (a0.map ePt)]), (1, .p (iV a1)), (11, .p (.bool (!v1)))] [(2, {call := some (none, [.p (.bool v1)], true)})] (A1 (wk_spec_lpAsked hv1))) ?_
 refine kc (!v1) (fun hc2_1 => ?_) (fun hc2_1 => ?_)
 ·replace h := ite_t hc2_1 h
  refine k_sreg (r_gq [(4, .p (iV 0)), (5, .p (.bool false))] [] trivial) ?_
  refine k_ret ?_
  refine q_r ?_
  obtain rfl := oi h
  exact er [(.p (iV 0), 4), (.p (.bool false), 5)]
 ·replace h := ite_f hc2_1 h
  refine k_skip ?_
  refine q_n ?_
  replace h := bs h
  obtain ⟨v3, hv3, h⟩ := h
  refine k_sreg (r_gq [(6, .ov false [.sl (some 27) (v3.1.map eRt)]), (7, .p (.bool v3.2))] [(2, {call := some (none, [.ov false [.sl (some 27) (v3.1.map eRt)], .p (.bool v3.2)], true)})] (A2 (wk_spec_lpEnds hv3) (show List.all [.ov false [.sl (some 27) (v3.1.map eRt)], .p (.bool v3.2)] simpleR = true from (sa_o (wnR1 (wnL_enc (wn_P wn_I wn_I)) rfl) (sa_p rfl))))) ?_
  refine k_seq ?_
  refine k_sreg (r_gq [(6, .ov false [.sl (some 27) (v3.1.map eRt)]), (19, .p (.bool (!v3.2)))] [] trivial) ?_
  refine kc (!v3.2) (fun hc2_3 => ?_) (fun hc2_3 => ?_)
  ·replace h := ite_t hc2_3 h
   refine k_sreg (r_gq [(4, .p (iV 0)), (5, .p (.bool false))] [] trivial) ?_
   refine k_ret ?_
   refine q_r ?_
   obtain rfl := oi h
   exact er [(.p (iV 0), 4), (.p (.bool false), 5)]
  ·replace h := ite_f hc2_3 h
   refine k_skip ?_
   refine q_n ?_
   refine k_sreg (r_gq [(4, .p (iV (w64 ((v3.1.length : Int) - 1)))), (5, .p (.bool true))] [(1, {n := some v3.1.length})] (A1 (show (v3.1.map eRt).length = v3.1.length from (List.length_map ..)))) ?_
   refine k_ret ?_
   obtain rfl := oi h
   exact er [(.p (iV (w64 ((v3.1.length : Int) - 1))), 4), (.p (.bool true), 5)]
theorem wk_impl_EndValues {a0 : (List Qp)} {a1 : Int}  {r : ((List Qr) × Bool)} (h : impl_EndValues a0 a1 = some r) : Meets Tryz.prog 28 [.d false [.sl none (a0.map ePt)], wI a1] { vals := [.ov false [.sl (some 27) (r.1.map eRt)], .p (.bool r.2)] } := by
 refine mo Tryz.func28 [(0, .d false [.sl none (a0.map ePt)]), (1, .p (iV a1))] ?_
 unfold impl_EndValues at h
 refine k_sreg (r_gq [(0, .d false [.sl none (a0.map ePt)]), (1, .p (iV a1))] [] trivial) ?_
 replace h := bs h
 obtain ⟨v1, hv1, h⟩ := h
 refine k_sreg (r_gq [(1, .p (iV a1)), (6, .ov false [.sl (some 30) (v1.1.map (eO 27 eRt))]), (7, .p (.bool v1.2))] [(2, {call := some (none, [.ov false [.sl (some 30) (v1.1.map (eO 27 eRt))], .p (.bool v1.2)], true)})] (A2 (wk_impl_iterated hv1) (show List.all [.ov false [.sl (some 30) (v1.1.map (eO 27 eRt))], .p (.bool v1.2)] simpleR = true from (sa_o (wnR1 (wnL_enc (wn_O (wn_P wn_I wn_I))) rfl) (sa_p rfl))))) ?_
 refine k_seq ?_
 refine k_sreg (r_gq [(1, .p (iV a1)), (6, .ov false [.sl (some 30) (v1.1.map (eO 27 eRt))]), (15, .p (.bool (!v1.2)))] [] trivial) ?_
 refine kc (!v1.2) (fun hc2_1 => ?_) (fun hc2_1 => ?_)
 ·replace h := ite_t hc2_1 h
  refine k_sreg (r_gq [(4, .ov false [.sl (some 27) []]), (5, .p (.bool false))] [] trivial) ?_
  refine k_ret ?_
  refine q_r ?_
  obtain rfl := oi h
  exact er [(.ov false [.sl (some 27) []], 4), (.p (.bool false), 5)]
 ·replace h := ite_f hc2_1 h
  refine k_skip ?_
  refine q_n ?_
  replace h := bs h
  obtain ⟨v3, hv3, h⟩ := h
  refine k_sreg (r_gq [(4, .ov false [.sl (some 27) (v3.map eRt)]), (5, .p (.bool true))] [(2, {row := some [.sl (some 27) (v3.map eRt)]}), (3, {row := some [.sl (some 27) (v3.map eRt)]}), (4, {deep := some [.sl (some 27) (v3.map eRt)]})] (A5 (idxO_some hv3).1 (map_get (eO 27 eRt) (idxO_some hv3).2) (show frR [.sl (some 27) (v3.map eRt)] = false from rfl) (show getRow [[.sl (some 30) (v1.1.map (eO 27 eRt))]] [(0, 0), ((Int.toNat a1), 0)] = some [.sl (some 27) (v3.map eRt)] from ((gr0 rfl).trans (gre (map_get (eO 27 eRt) (idxO_some hv3).2)))) (show getRow [[.sl (some 30) (v1.1.map (eO 27 eRt))]] [(0, 0), ((Int.toNat a1), 0)] = some [.sl (some 27) (v3.map eRt)] from ((gr0 rfl).trans (gre (map_get (eO 27 eRt) (idxO_some hv3).2)))))) ?_
  refine k_ret ?_
  obtain rfl := oi h
  exact er [(.ov false [.sl (some 27) (v3.map eRt)], 4), (.p (.bool true), 5)]
theorem wk_spec_EndValues {a0 : (List Qp)} {a1 : Int}  {r : ((List Qr) × Bool)} (h : spec_EndValues a0 a1 = some r) : Meets Tryz.prog 29 [.d false [.sl none (a0.map ePt)], wI a1] { vals := [.ov false [.sl (some 27) (r.1.map eRt)], .p (.bool r.2)] } := by
 refine mo Tryz.func29 [(0, .d false [.sl none (a0.map ePt)]), (1, .p (iV a1))] ?_
 unfold spec_EndValues at h
 refine k_sreg (r_gq [(0, .d false [.sl none (a0.map ePt)]), (1, .p (iV a1))] [] trivial) ?_
 refine k_seq ?_
 replace h := bs h
 obtain ⟨v1, hv1, h⟩ := h
 refine k_sreg (r_gq [(0, .d false [.sl none (a0.map ePt)]), (1, .p (iV a1)), (9, .p (.bool (!v1)))] [(2, {call := some (none, [.p (.bool v1)], true)})] (A1 (wk_spec_lpAsked hv1))) ?_
 refine kc (!v1) (fun hc2_1 => ?_) (fun hc2_1 => ?_)
 ·replace h := ite_t hc2_1 h
  refine k_sreg (r_gq [(4, .ov false [.sl (some 27) []]), (5, .p (.bool false))] [] trivial) ?_
  refine k_ret ?_
  refine q_r ?_
  obtain rfl := oi h
  exact er [(.ov false [.sl (some 27) []], 4), (.p (.bool false), 5)]
 ·replace h := ite_f hc2_1 h
  refine k_skip ?_
  refine q_n ?_
  replace h := bs h
  obtain ⟨v3, hv3, h⟩ := h
  refine k_sreg (r_gq [(4, .ov false [.sl (some 27) (v3.1.map eRt)]), (5, .p (.bool v3.2))] [(2, {call := some (none, [.ov false [.sl (some 27) (v3.1.map eRt)], .p (.bool v3.2)], true)})] (A2 (wk_spec_lpEnds hv3) (show List.all [.ov false [.sl (some 27) (v3.1.map eRt)], .p (.bool v3.2)] simpleR = true from (sa_o (wnR1 (wnL_enc (wn_P wn_I wn_I)) rfl) (sa_p rfl))))) ?_
  refine k_ret ?_
  obtain rfl := oi h
  exact er [(.ov false [.sl (some 27) (v3.1.map eRt)], 4), (.p (.bool v3.2), 5)]
theorem wk_impl_calc_distance {a0 : Bool} {a1 : Qr} {a2 : Qr}  {r : (Qr × Bool)} (h : impl_calc_distance a0 a1 a2 = some r) : MeetsB Tryz.prog 136 (.box [.raw (.bool a0)]) [.v (vRt a1), .v (vRt a2)] [.p (vRt r.1)] (.box [.raw (.bool r.2)]) := by
 refine mob Tryz.func136 [(0, .box [.raw (.bool a0)]), (1, .p (vRt a1)), (2, .p (vRt a2))] ?_
 unfold impl_calc_distance at h
 refine k_sreg (r_gq [(0, .box [.raw (.bool a0)]), (4, .box (eRt a1)), (5, .box (eRt a2)), (6, .box [rI 0, rI 0])] [] trivial) ?_
 refine k_join (J := fun (x : (Int × Int × Int × Int)) => [(0, .box [.raw (.bool a0)]), (4, .box [rI x.1, rI x.2.1]), (5, .box (eRt x.2.2)), (6, .box [rI 0, rI 0])]) (K := fun x => impl_calc_distance_k1 a0 x = some r) (fun x1 h => ?_) ?_
 ·unfold impl_calc_distance_k1 at h
  replace h := bs h
  obtain ⟨v2, hv2, h⟩ := h
  refine k_sreg (r_gq [(0, .box [.raw (.bool v2.2)]), (6, .box (eRt v2.1))] [(3, {lend := some (none, [.p (vRt v2.1)], .box [.raw (.bool v2.2)], true)})] (A1 (wk_impl_calc_sub hv2))) ?_
  refine k_ret ?_
  obtain rfl := oi h
  exact ebr [(.p (vRt v2.1), 6)]
 ·replace h := bs h
  obtain ⟨v3, hv3, h⟩ := h
  refine k_sreg (r_gq [(0, .box [.raw (.bool a0)]), (4, .box (eRt a1)), (5, .box (eRt a2)), (6, .box [rI 0, rI 0]), (9, .p (.bool v3))] [(2, {call := some (none, [.p (.bool v3)], true)})] (A1 (wk_impl_less hv3))) ?_
  refine kc v3 (fun hc2_3 => ?_) (fun hc2_3 => ?_)
  ·replace h := ite_t hc2_3 h
   refine k_reg (r_gq [(0, .box [.raw (.bool a0)]), (4, .box (eRt a2)), (5, .box (eRt a1)), (6, .box [rI 0, rI 0])] [] trivial) ?_
   refine q_n ?_
   exact jx (a2.1, a2.2, a1.1, a1.2) h
  ·replace h := ite_f hc2_3 h
   refine k_skip ?_
   refine q_n ?_
   exact jx (a1.1, a1.2, a2.1, a2.2) h
theorem wk_impl_variation {a0 : (List Qr)}  {r : (Qr × Bool)} (h : impl_variation a0 = some r) : Meets Tryz.prog 87 [.d false [.sl none (a0.map eRt)]] { vals := [.p (vRt r.1), .p (.bool r.2)] } := by
 refine mo Tryz.func87 [(0, .d false [.sl none (a0.map eRt)])] ?_
 unfold impl_variation at h
 refine k_sreg (r_gq [(0, .d false [.sl none (a0.map eRt)]), (2, .box [rI 0, rI 0])] [] trivial) ?_
 refine k_sreg (r_gq [(0, .d false [.sl none (a0.map eRt)]), (2, .box [rI 0, rI 0]), (4, .box [.raw (.bool false)])] [] trivial) ?_
 replace h := bs h
 obtain ⟨v1, hv1, h⟩ := h
 refine k_sreg (r_gq [(0, .d false [.sl none (a0.map eRt)]), (2, .box [rI 0, rI 0]), (4, .box [.raw (.bool false)]), (5, .box (eRt v1))] [(0, {call := some (none, [.p (vRt v1)], true)})] (A1 (wk_impl_zero hv1))) ?_
 refine k_join (J := fun (x : (Bool × Int × Int)) => [(2, .box [rI 0, rI 0]), (4, .box [.raw (.bool x.1)]), (5, .box (eRt x.2))]) (K := fun x => impl_variation_k1 x = some r) (fun x2 h => ?_) ?_
 ·unfold impl_variation_k1 at h
  refine k_seq ?_
  refine k_sreg (r_gq [(2, .box [rI 0, rI 0]), (5, .box (eRt x2.2)), (27, .p (.bool x2.1))] [] trivial) ?_
  refine kc x2.1 (fun hc2_2 => ?_) (fun hc2_2 => ?_)
  ·replace h := ite_t hc2_2 h
   refine k_sreg (r_gq [(2, .box [rI 0, rI 0]), (3, .p (.bool false))] [] trivial) ?_
   refine k_ret ?_
   refine q_r ?_
   obtain rfl := oi h
   exact er [(.p (.agg #[.int .i64 0, .int .i64 0]), 2), (.p (.bool false), 3)]
  ·replace h := ite_f hc2_2 h
   refine k_skip ?_
   refine q_n ?_
   refine k_sreg (r_gq [(2, .box (eRt x2.2)), (3, .p (.bool true))] [] trivial) ?_
   refine k_ret ?_
   obtain rfl := oi h
   exact er [(.p (vRt x2.2), 2), (.p (.bool true), 3)]
 ·refine k_sreg (r_gq [(0, .d false [.sl none (a0.map eRt)]), (2, .box [rI 0, rI 0]), (4, .box [.raw (.bool false)]), (5, .box (eRt v1)), (6, .p (iV 1))] [] trivial) ?_
  refine k_block ?_
  obtain ⟨y5, hl_x4, hk_x4⟩ := bs h
  clear h
  refine k_loop (J := fun (x : (Bool × Int × Int × Int)) => [(0, .d false [.sl none (a0.map eRt)]), (2, .box [rI 0, rI 0]), (4, .box [.raw (.bool x.1)]), (5, .box [rI x.2.1, rI x.2.2.1]), (6, .p (iV x.2.2.2))]) hl_x4 (wk_of (by kernel_rfl) (by kernel_rfl)) (fun x4 o_x4 h hy_x4 => ?_)
  unfold impl_variation_b1 at h
  refine k_seq ?_
  refine k_sreg (r_gq [(0, .d false [.sl none (a0.map eRt)]), (2, .box [rI 0, rI 0]), (4, .box [.raw (.bool x4.1)]), (5, .box [rI x4.2.1, rI x4.2.2.1]), (6, .p (iV x4.2.2.2)), (11, .p (.bool (decide (x4.2.2.2 < (a0.length : Int)))))] [(2, {n := some a0.length})] (A1 (show (a0.map eRt).length = a0.length from (List.length_map ..)))) ?_
  refine kc (decide (x4.2.2.2 < (a0.length : Int))) (fun hc5_5 => ?_) (fun hc5_5 => ?_)
  ·replace h := ite_t hc5_5 h
   refine k_skip ?_
   refine q_n ?_
   refine k_seq ?_
   refine k_block ?_
   replace h := bs h
   obtain ⟨v7, hv7, h⟩ := h
   replace h := bs h
   obtain ⟨v8, hv8, h⟩ := h
   replace h := bs h
   obtain ⟨v9, hv9, h⟩ := h
   replace h := bs h
   obtain ⟨v10, hv10, h⟩ := h
   refine k_reg (r_dq Tryz_mixed 11 [(10, 4)] [(0, .d false [.sl none (a0.map eRt)]), (2, .box [rI 0, rI 0]), (4, .box [.raw (.bool v10.2)]), (5, .box (eRt v10.1)), (6, .p (iV x4.2.2.2))] [(4, {row := some (eRt v7)}), (8, {row := some (eRt v8)}), (10, {lend := some (none, [.p (vRt v9.1)], .box [.raw (.bool v9.2)], true)}), (11, {lend := some (none, [.p (vRt v10.1)], .box [.raw (.bool v10.2)], true)})] (A6 (idxO_some hv7).1 (map_get eRt (idxO_some hv7).2) (idxO_some hv8).1 (map_get eRt (idxO_some hv8).2) (wk_impl_calc_distance hv9) (wk_impl_calc_add hv10))) ?_
   refine b_n ?_
   refine q_n ?_
   refine k_reg (r_gq [(0, .d false [.sl none (a0.map eRt)]), (2, .box [rI 0, rI 0]), (4, .box [.raw (.bool v10.2)]), (5, .box (eRt v10.1)), (6, .p (iV (w64 (x4.2.2.2 + 1))))] [] trivial) ?_
   exact lqn (v10.2, v10.1.1, v10.1.2, (w64 (x4.2.2.2 + 1))) h
  ·replace h := ite_f hc5_5 h
   refine k_exit ?_
   refine q_x ?_
   refine lq_x ?_
   refine b_x ?_
   have hyy := hy_x4 _ (oi h).symm
   subst hyy
   have h := hk_x4
   refine q_n ?_
   exact jx (x4.1, x4.2.1, x4.2.2.1) h
theorem wk_impl_VariationOfIterate {a0 : (List Qp)} {a1 : Int}  {r : (Qr × Bool)} (h : impl_VariationOfIterate a0 a1 = some r) : Meets Tryz.prog 30 [.d false [.sl none (a0.map ePt)], wI a1] { vals := [.p (vRt r.1), .p (.bool r.2)] } := by
 refine mo Tryz.func30 [(0, .d false [.sl none (a0.map ePt)]), (1, .p (iV a1))] ?_
 unfold impl_VariationOfIterate at h
 refine k_sreg (r_gq [(0, .d false [.sl none (a0.map ePt)]), (1, .p (iV a1)), (4, .box [rI 0, rI 0])] [] trivial) ?_
 replace h := bs h
 obtain ⟨v1, hv1, h⟩ := h
 refine k_sreg (r_gq [(1, .p (iV a1)), (4, .box [rI 0, rI 0]), (6, .d false [.sl none (v1.1.map (eF eRt))]), (7, .p (.bool v1.2))] [(2, {call := some (none, [.ov false [.sl (some 30) (v1.1.map (eO 27 eRt))], .p (.bool v1.2)], true)}), (6, {pre := some (12, .d false [.sl none (v1.1.map (eF eRt))])})] (A3 (wk_impl_iterated hv1) (show List.all [.ov false [.sl (some 30) (v1.1.map (eO 27 eRt))], .p (.bool v1.2)] simpleR = true from (sa_o (wnR1 (wnL_enc (wn_O (wn_P wn_I wn_I))) rfl) (sa_p rfl))) (show (SV.d false (eraR [.sl (some 30) (v1.1.map (eO 27 eRt))]) : SV) = .d false [.sl none (v1.1.map (eF eRt))] from (congrArg (fun z => SV.d false z) (erc_sl (eraL_enc (era_O (era_P er_I er_I))) rfl))))) ?_
 refine k_seq ?_
 refine k_sreg (r_gq [(1, .p (iV a1)), (4, .box [rI 0, rI 0]), (6, .d false [.sl none (v1.1.map (eF eRt))]), (15, .p (.bool (!v1.2)))] [] trivial) ?_
 refine kc (!v1.2) (fun hc2_1 => ?_) (fun hc2_1 => ?_)
 ·replace h := ite_t hc2_1 h
  refine k_sreg (r_gq [(4, .box [rI 0, rI 0]), (5, .p (.bool false))] [] trivial) ?_
  refine k_ret ?_
  refine q_r ?_
  obtain rfl := oi h
  exact er [(.p (.agg #[.int .i64 0, .int .i64 0]), 4), (.p (.bool false), 5)]
 ·replace h := ite_f hc2_1 h
  refine k_skip ?_
  refine q_n ?_
  replace h := bs h
  obtain ⟨v3, hv3, h⟩ := h
  replace h := bs h
  obtain ⟨v4, hv4, h⟩ := h
  refine k_sreg (r_gq [(4, .box (eRt v4.1)), (5, .p (.bool v4.2))] [(2, {row := some [.sl none (v3.map eRt)]}), (4, {call := some (none, [.p (vRt v4.1), .p (.bool v4.2)], true)})] (A3 (idxO_some hv3).1 (map_get (eF eRt) (idxO_some hv3).2) (wk_impl_variation hv4))) ?_
  refine k_ret ?_
  obtain rfl := oi h
  exact er [(.p (vRt v4.1), 4), (.p (.bool v4.2), 5)]
theorem wk_spec_lpSum {a0 : (List Qr)}  {r : (Qr × Bool)} (h : spec_lpSum a0 = some r) : Meets Tryz.prog 88 [.d false [.sl none (a0.map eRt)]] { vals := [.p (vRt r.1), .p (.bool r.2)] } := by
 refine mo Tryz.func88 [(0, .d false [.sl none (a0.map eRt)])] ?_
 unfold spec_lpSum at h
 refine k_sreg (r_gq [(0, .d false [.sl none (a0.map eRt)]), (2, .box [rI 0, rI 0])] [] trivial) ?_
 replace h := bs h
 obtain ⟨v1, hv1, h⟩ := h
 refine k_sreg (r_gq [(0, .d false [.sl none (a0.map eRt)]), (2, .box [rI 0, rI 0]), (4, .box (eRt v1))] [(0, {call := some (none, [.p (vRt v1)], true)})] (A1 (wk_spec_raInt hv1))) ?_
 refine k_join (J := fun (x : Qr) => [(2, .box [rI 0, rI 0]), (4, .box (eRt x))]) (K := fun x => spec_lpSum_k1 x = some r) (fun x2 h => ?_) ?_
 ·unfold spec_lpSum_k1 at h
  refine k_sreg (r_gq [(2, .box (eRt x2)), (3, .p (.bool true))] [] trivial) ?_
  refine k_ret ?_
  obtain rfl := oi h
  exact er [(.p (vRt x2), 2), (.p (.bool true), 3)]
 ·refine k_sreg (r_gq [(0, .d false [.sl none (a0.map eRt)]), (2, .box [rI 0, rI 0]), (4, .box (eRt v1)), (5, .p (iV 1))] [] trivial) ?_
  refine k_block ?_
  obtain ⟨y4, hl_x3, hk_x3⟩ := bs h
  clear h
  refine k_loop (J := fun (x : (Int × Int × Int)) => [(0, .d false [.sl none (a0.map eRt)]), (2, .box [rI 0, rI 0]), (4, .box [rI x.1, rI x.2.1]), (5, .p (iV x.2.2))]) hl_x3 (wk_of (by kernel_rfl) (by kernel_rfl)) (fun x3 o_x3 h hy_x3 => ?_)
  unfold spec_lpSum_b1 at h
  refine k_seq ?_
  refine k_sreg (r_gq [(0, .d false [.sl none (a0.map eRt)]), (2, .box [rI 0, rI 0]), (4, .box [rI x3.1, rI x3.2.1]), (5, .p (iV x3.2.2)), (14, .p (.bool (decide (x3.2.2 < (a0.length : Int)))))] [(2, {n := some a0.length})] (A1 (show (a0.map eRt).length = a0.length from (List.length_map ..)))) ?_
  refine kc (decide (x3.2.2 < (a0.length : Int))) (fun hc5_4 => ?_) (fun hc5_4 => ?_)
  ·replace h := ite_t hc5_4 h
   refine k_skip ?_
   refine q_n ?_
   refine k_seq ?_
   refine k_block ?_
   replace h := bs h
   obtain ⟨v6, hv6, h⟩ := h
   replace h := bs h
   obtain ⟨v7, hv7, h⟩ := h
   replace h := bs h
   obtain ⟨v8, hv8, h⟩ := h
   refine k_sreg (r_dq Tryz_mixed 15 [(14, 6)] [(0, .d false [.sl none (a0.map eRt)]), (2, .box [rI 0, rI 0]), (4, .box [rI x3.1, rI x3.2.1]), (5, .p (iV x3.2.2)), (6, .box (eRt v8.1)), (7, .p (.bool v8.2))] [(2, {row := some (eRt v6)}), (7, {row := some (eRt v7)}), (9, {call := some (none, [.p (vRt v8.1), .p (.bool v8.2)], true)})] (A5 (idxO_some hv6).1 (map_get eRt (idxO_some hv6).2) (idxO_some hv7).1 (map_get eRt (idxO_some hv7).2) (wk_spec_raSub hv8))) ?_
   refine k_seq ?_
   refine k_sreg (r_gq [(0, .d false [.sl none (a0.map eRt)]), (2, .box [rI 0, rI 0]), (4, .box [rI x3.1, rI x3.2.1]), (5, .p (iV x3.2.2)), (6, .box (eRt v8.1)), (31, .p (.bool (!v8.2)))] [] trivial) ?_
   refine kc (!v8.2) (fun hc7_8 => ?_) (fun hc7_8 => ?_)
   ·replace h := ite_t hc7_8 h
    refine k_sreg (r_gq [(2, .box [rI 0, rI 0]), (3, .p (.bool false))] [] trivial) ?_
    refine k_ret ?_
    refine q_r ?_
    refine b_r ?_
    refine q_r ?_
    refine lq_r ?_
    refine b_r ?_
    refine q_r ?_
    have hyy := hy_x3 _ (oi h).symm
    subst hyy
    have h := hk_x3
    dsimp only [Sum.elim] at h
    obtain rfl := oi h
    exact er [(.p (.agg #[.int .i64 0, .int .i64 0]), 2), (.p (.bool false), 3)]
   ·replace h := ite_f hc7_8 h
    refine k_skip ?_
    refine q_n ?_
    replace h := bs h
    obtain ⟨v10, hv10, h⟩ := h
    refine k_sreg (r_gq [(0, .d false [.sl none (a0.map eRt)]), (2, .box [rI 0, rI 0]), (4, .box [rI x3.1, rI x3.2.1]), (5, .p (iV x3.2.2)), (6, .box [rI v10, rI v8.1.2])] [(2, {call := some (none, [.p (iV v10)], true)})] (A1 (wk_spec_l1Abs hv10))) ?_
    replace h := bs h
    obtain ⟨v11, hv11, h⟩ := h
    refine k_sreg (r_gq [(0, .d false [.sl none (a0.map eRt)]), (2, .box [rI 0, rI 0]), (4, .box [rI x3.1, rI x3.2.1]), (5, .p (iV x3.2.2)), (8, .box (eRt v11.1)), (9, .p (.bool v11.2))] [(2, {call := some (none, [.p (vRt v11.1), .p (.bool v11.2)], true)})] (A1 (wk_spec_raAdd hv11))) ?_
    refine k_seq ?_
    refine k_sreg (r_gq [(0, .d false [.sl none (a0.map eRt)]), (2, .box [rI 0, rI 0]), (4, .box [rI x3.1, rI x3.2.1]), (5, .p (iV x3.2.2)), (8, .box (eRt v11.1)), (44, .p (.bool (!v11.2)))] [] trivial) ?_
    refine kc (!v11.2) (fun hc7_11 => ?_) (fun hc7_11 => ?_)
    ·replace h := ite_t hc7_11 h
     refine k_sreg (r_gq [(2, .box [rI 0, rI 0]), (3, .p (.bool false))] [] trivial) ?_
     refine k_ret ?_
     refine q_r ?_
     refine b_r ?_
     refine q_r ?_
     refine lq_r ?_
     refine b_r ?_
     refine q_r ?_
     have hyy := hy_x3 _ (oi h).symm
     subst hyy
     have h := hk_x3
     dsimp only [Sum.elim] at h
     obtain rfl := oi h
     exact er [(.p (.agg #[.int .i64 0, .int .i64 0]), 2), (.p (.bool false), 3)]
    ·replace h := ite_f hc7_11 h
     refine k_skip ?_
     refine q_n ?_
     refine k_reg (r_gq [(0, .d false [.sl none (a0.map eRt)]), (2, .box [rI 0, rI 0]), (4, .box (eRt v11.1)), (5, .p (iV x3.2.2))] [] trivial) ?_
     refine b_n ?_
     refine q_n ?_
     refine k_reg (r_gq [(0, .d false [.sl none (a0.map eRt)]), (2, .box [rI 0, rI 0]), (4, .box (eRt v11.1)), (5, .p (iV (w64 (x3.2.2 + 1))))] [] trivial) ?_
     exact lqn (v11.1.1, v11.1.2, (w64 (x3.2.2 + 1))) h
  ·replace h := ite_f hc5_4 h
   refine k_exit ?_
   refine q_x ?_
   refine lq_x ?_
   refine b_x ?_
   have hyy := hy_x3 _ (oi h).symm
   subst hyy
   have h := hk_x3
   dsimp only [Sum.elim] at h
   refine q_n ?_
   exact jx (x3.1, x3.2.1) h
theorem wk_spec_VariationOfIterate {a0 : (List Qp)} {a1 : Int}  {r : (Qr × Bool)} (h : spec_VariationOfIterate a0 a1 = some r) : Meets Tryz.prog 31 [.d false [.sl none (a0.map ePt)], wI a1] { vals := [.p (vRt r.1), .p (.bool r.2)] } := by
 refine mo Tryz.func31 [(0, .d false [.sl none (a0.map ePt)]), (1, .p (iV a1))] ?_
 unfold spec_VariationOfIterate at h
 refine k_sreg (r_gq [(0, .d false [.sl none (a0.map ePt)]), (1, .p (iV a1)), (4, .box [rI 0, rI 0])] [] trivial) ?_
 refine k_seq ?_
 replace h := bs h
 obtain ⟨v1, hv1, h⟩ := h
 refine k_sreg (r_gq [(0, .d false [.sl none (a0.map ePt)]), (1, .p (iV a1)), (4, .box [rI 0, rI 0]), (11, .p (.bool (!v1)))] [(2, {call := some (none, [.p (.bool v1)], true)})] (A1 (wk_spec_lpAsked hv1))) ?_
 refine kc (!v1) (fun hc2_1 => ?_) (fun hc2_1 => ?_)
 ·replace h := ite_t hc2_1 h
  refine k_sreg (r_gq [(4, .box [rI 0, rI 0]), (5, .p (.bool false))] [] trivial) ?_
  refine k_ret ?_
  refine q_r ?_
  obtain rfl := oi h
  exact er [(.p (.agg #[.int .i64 0, .int .i64 0]), 4), (.p (.bool false), 5)]
 ·replace h := ite_f hc2_1 h
  refine k_skip ?_
  refine q_n ?_
  replace h := bs h
  obtain ⟨v3, hv3, h⟩ := h
  refine k_sreg (r_gq [(4, .box [rI 0, rI 0]), (6, .ov false [.sl (some 27) (v3.1.map eRt)]), (7, .p (.bool v3.2))] [(2, {call := some (none, [.ov false [.sl (some 27) (v3.1.map eRt)], .p (.bool v3.2)], true)})] (A2 (wk_spec_lpEnds hv3) (show List.all [.ov false [.sl (some 27) (v3.1.map eRt)], .p (.bool v3.2)] simpleR = true from (sa_o (wnR1 (wnL_enc (wn_P wn_I wn_I)) rfl) (sa_p rfl))))) ?_
  refine k_seq ?_
  refine k_sreg (r_gq [(4, .box [rI 0, rI 0]), (6, .ov false [.sl (some 27) (v3.1.map eRt)]), (20, .p (.bool (!v3.2)))] [] trivial) ?_
  refine kc (!v3.2) (fun hc2_3 => ?_) (fun hc2_3 => ?_)
  ·replace h := ite_t hc2_3 h
   refine k_sreg (r_gq [(4, .box [rI 0, rI 0]), (5, .p (.bool false))] [] trivial) ?_
   refine k_ret ?_
   refine q_r ?_
   obtain rfl := oi h
   exact er [(.p (.agg #[.int .i64 0, .int .i64 0]), 4), (.p (.bool false), 5)]
  ·replace h := ite_f hc2_3 h
   refine k_skip ?_
   refine q_n ?_
   replace h := bs h
   obtain ⟨v5, hv5, h⟩ := h
   refine k_sreg (r_gq [(4, .box (eRt v5.1)), (5, .p (.bool v5.2))] [(1, {call := some (some [.d false [.sl none (v3.1.map eRt)]], [.p (vRt v5.1), .p (.bool v5.2)], true)})] (A2 (show ([.d false [.sl none (eraL (v3.1.map eRt))]] : List Arg) = [.d false [.sl none (v3.1.map eRt)]] from (by simp only [eraL_enc (h := eRt) (era_P er_I er_I)])) (wk_spec_lpSum hv5))) ?_
   refine k_ret ?_
   obtain rfl := oi h
   exact er [(.p (vRt v5.1), 4), (.p (.bool v5.2), 5)]
theorem wk_laws_sameInts {a0 : (List Int)} {a1 : (List Int)}  {r : Bool} (h : laws_sameInts a0 a1 = some r) : Meets Tryz.prog 32 [.d false [.sl none (a0.map eI)], .d false [.sl none (a1.map eI)]] { vals := [.p (.bool r)] } := by
 refine mo Tryz.func32 [(0, .d false [.sl none (a0.map eI)]), (1, .d false [.sl none (a1.map eI)])] ?_
 unfold laws_sameInts at h
 refine k_sreg (r_gq [(0, .d false [.sl none (a0.map eI)]), (1, .d false [.sl none (a1.map eI)])] [] trivial) ?_
 refine k_seq ?_
 refine k_sreg (r_gq [(0, .d false [.sl none (a0.map eI)]), (1, .d false [.sl none (a1.map eI)]), (10, .p (.bool ((a0.length : Int) != (a1.length : Int))))] [(1, {n := some a0.length}), (3, {n := some a1.length})] (A2 (show (a0.map eI).length = a0.length from (List.length_map ..)) (show (a1.map eI).length = a1.length from (List.length_map ..)))) ?_
 refine kc ((a0.length : Int) != (a1.length : Int)) (fun hc2_0 => ?_) (fun hc2_0 => ?_)
 ·replace h := ite_t hc2_0 h
  refine k_sreg (r_gq [(4, .p (.bool false))] [] trivial) ?_
  refine k_ret ?_
  refine q_r ?_
  obtain rfl := oi h
  exact er [(.p (.bool false), 4)]
 ·replace h := ite_f hc2_0 h
  refine k_skip ?_
  refine q_n ?_
  refine k_join (J := fun (x : Unit) => []) (K := fun x => laws_sameInts_k1 x = some r) (fun x2 h => ?_) ?_
  ·unfold laws_sameInts_k1 at h
   refine k_sreg (r_gq [(4, .p (.bool true))] [] trivial) ?_
   refine k_ret ?_
   obtain rfl := oi h
   exact er [(.p (.bool true), 4)]
  ·refine k_sreg (r_gq [(0, .d false [.sl none (a0.map eI)]), (1, .d false [.sl none (a1.map eI)]), (12, .p (iV (a0.length : Int))), (13, .p (iV 0))] [(1, {n := some a0.length})] (A1 (show (a0.map eI).length = a0.length from (List.length_map ..)))) ?_
   refine k_block ?_
   obtain ⟨y4, hl_x3, hk_x3⟩ := bs h
   clear h
   refine k_loop (J := fun (x : Int) => [(0, .d false [.sl none (a0.map eI)]), (1, .d false [.sl none (a1.map eI)]), (12, .p (iV (a0.length : Int))), (13, .p (iV x))]) hl_x3 (wk_of (by kernel_rfl) (by kernel_rfl)) (fun x3 o_x3 h hy_x3 => ?_)
   unfold laws_sameInts_b1 at h
   refine k_sreg (r_gq [(0, .d false [.sl none (a0.map eI)]), (1, .d false [.sl none (a1.map eI)]), (12, .p (iV (a0.length : Int))), (13, .p (iV x3)), (14, .p (.bool (decide (x3 < (a0.length : Int)))))] [] trivial) ?_
   refine k_seq ?_
   refine kc (decide (x3 < (a0.length : Int))) (fun hc5_4 => ?_) (fun hc5_4 => ?_)
   ·replace h := ite_t hc5_4 h
    refine k_skip ?_
    refine q_n ?_
    refine k_seq ?_
    refine k_block ?_
    refine k_sreg (r_gq [(0, .d false [.sl none (a0.map eI)]), (1, .d false [.sl none (a1.map eI)]), (5, .p (iV x3)), (12, .p (iV (a0.length : Int))), (13, .p (iV x3))] [] trivial) ?_
    replace h := bs h
    obtain ⟨v6, hv6, h⟩ := h
    replace h := bs h
    obtain ⟨v7, hv7, h⟩ := h
    refine k_sreg (r_dq Tryz_mixed 8 [] [(0, .d false [.sl none (a0.map eI)]), (1, .d false [.sl none (a1.map eI)]), (12, .p (iV (a0.length : Int))), (13, .p (iV x3)), (24, .p (.bool (v6 != v7)))] [(2, {row := some (eI v6)}), (6, {row := some (eI v7)})] (A4 (idxO_some hv6).1 (map_get eI (idxO_some hv6).2) (idxO_some hv7).1 (map_get eI (idxO_some hv7).2))) ?_
    refine kc (v6 != v7) (fun hc6_7 => ?_) (fun hc6_7 => ?_)
    ·replace h := ite_t hc6_7 h
     refine k_sreg (r_gq [(4, .p (.bool false))] [] trivial) ?_
     refine k_ret ?_
     refine b_r ?_
     refine q_r ?_
     refine lq_r ?_
     refine b_r ?_
     refine q_r ?_
     have hyy := hy_x3 _ (oi h).symm
     subst hyy
     have h := hk_x3
     dsimp only [Sum.elim] at h
     obtain rfl := oi h
     exact er [(.p (.bool false), 4)]
    ·replace h := ite_f hc6_7 h
     refine k_skip ?_
     refine b_n ?_
     refine q_n ?_
     refine k_reg (r_gq [(0, .d false [.sl none (a0.map eI)]), (1, .d false [.sl none (a1.map eI)]), (12, .p (iV (a0.length : Int))), (13, .p (iV (w64 (x3 + 1))))] [] trivial) ?_
     exact lqn (w64 (x3 + 1)) h
   ·replace h := ite_f hc5_4 h
    refine k_exit ?_
    refine q_x ?_
    refine lq_x ?_
    refine b_x ?_
    have hyy := hy_x3 _ (oi h).symm
    subst hyy
    have h := hk_x3
    dsimp only [Sum.elim] at h
    refine q_n ?_
    exact jx () h
theorem wk_laws_pSameRats {a0 : (List Qr)} {a1 : (List Qr)}  {r : Bool} (h : laws_pSameRats a0 a1 = some r) : Meets Tryz.prog 33 [.d false [.sl none (a0.map eRt)], .d false [.sl none (a1.map eRt)]] { vals := [.p (.bool r)] } := by
 refine mo Tryz.func33 [(0, .d false [.sl none (a0.map eRt)]), (1, .d false [.sl none (a1.map eRt)])] ?_
 unfold laws_pSameRats at h
 refine k_sreg (r_gq [(0, .d false [.sl none (a0.map eRt)]), (1, .d false [.sl none (a1.map eRt)])] [] trivial) ?_
 refine k_seq ?_
 refine k_sreg (r_gq [(0, .d false [.sl none (a0.map eRt)]), (1, .d false [.sl none (a1.map eRt)]), (10, .p (.bool ((a0.length : Int) != (a1.length : Int))))] [(1, {n := some a0.length}), (3, {n := some a1.length})] (A2 (show (a0.map eRt).length = a0.length from (List.length_map ..)) (show (a1.map eRt).length = a1.length from (List.length_map ..)))) ?_
 refine kc ((a0.length : Int) != (a1.length : Int)) (fun hc2_0 => ?_) (fun hc2_0 => ?_)
 ·replace h := ite_t hc2_0 h
  refine k_sreg (r_gq [(4, .p (.bool false))] [] trivial) ?_
  refine k_ret ?_
  refine q_r ?_
  obtain rfl := oi h
  exact er [(.p (.bool false), 4)]
 ·replace h := ite_f hc2_0 h
  refine k_skip ?_
  refine q_n ?_
  refine k_join (J := fun (x : Unit) => []) (K := fun x => laws_pSameRats_k1 x = some r) (fun x2 h => ?_) ?_
  ·unfold laws_pSameRats_k1 at h
   refine k_sreg (r_gq [(4, .p (.bool true))] [] trivial) ?_
   refine k_ret ?_
   obtain rfl := oi h
   exact er [(.p (.bool true), 4)]
  ·refine k_sreg (r_gq [(0, .d false [.sl none (a0.map eRt)]), (1, .d false [.sl none (a1.map eRt)]), (12, .p (iV (a0.length : Int))), (13, .p (iV 0))] [(1, {n := some a0.length})] (A1 (show (a0.map eRt).length = a0.length from (List.length_map ..)))) ?_
   refine k_block ?_
   obtain ⟨y4, hl_x3, hk_x3⟩ := bs h
   clear h
   refine k_loop (J := fun (x : Int) => [(0, .d false [.sl none (a0.map eRt)]), (1, .d false [.sl none (a1.map eRt)]), (12, .p (iV (a0.length : Int))), (13, .p (iV x))]) hl_x3 (wk_of (by kernel_rfl) (by kernel_rfl)) (fun x3 o_x3 h hy_x3 => ?_)
   unfold laws_pSameRats_b1 at h
   refine k_sreg (r_gq [(0, .d false [.sl none (a0.map eRt)]), (1, .d false [.sl none (a1.map eRt)]), (12, .p (iV (a0.length : Int))), (13, .p (iV x3)), (14, .p (.bool (decide (x3 < (a0.length : Int)))))] [] trivial) ?_
   refine k_seq ?_
   refine kc (decide (x3 < (a0.length : Int))) (fun hc5_4 => ?_) (fun hc5_4 => ?_)
   ·replace h := ite_t hc5_4 h
    refine k_skip ?_
    refine q_n ?_
    refine k_seq ?_
    refine k_block ?_
    refine k_sreg (r_gq [(0, .d false [.sl none (a0.map eRt)]), (1, .d false [.sl none (a1.map eRt)]), (5, .p (iV x3)), (12, .p (iV (a0.length : Int))), (13, .p (iV x3))] [] trivial) ?_
    replace h := bs h
    obtain ⟨v6, hv6, h⟩ := h
    replace h := bs h
    obtain ⟨v7, hv7, h⟩ := h
    refine k_sreg (r_dq Tryz_mixed 8 [] [(0, .d false [.sl none (a0.map eRt)]), (1, .d false [.sl none (a1.map eRt)]), (12, .p (iV (a0.length : Int))), (13, .p (iV x3)), (24, .p (.bool (!((v6.1 == v7.1) && (v6.2 == v7.2)))))] [(2, {row := some (eRt v6)}), (6, {row := some (eRt v7)}), (8, {pv := some (.bool (!((v6.1 == v7.1) && (v6.2 == v7.2))))})] (A5 (idxO_some hv6).1 (map_get eRt (idxO_some hv6).2) (idxO_some hv7).1 (map_get eRt (idxO_some hv7).2) (show PureAt Tryz.prog (.binOp .neq 27 (.tmp 19) (.tmp 23) 27) [vRt v6, vRt v7] (.bool (!((v6.1 == v7.1) && (v6.2 == v7.2)))) from (pure_neq2 (by kernel_rfl))))) ?_
    refine kc (!((v6.1 == v7.1) && (v6.2 == v7.2))) (fun hc6_7 => ?_) (fun hc6_7 => ?_)
    ·replace h := ite_t hc6_7 h
     refine k_sreg (r_gq [(4, .p (.bool false))] [] trivial) ?_
     refine k_ret ?_
     refine b_r ?_
     refine q_r ?_
     refine lq_r ?_
     refine b_r ?_
     refine q_r ?_
     have hyy := hy_x3 _ (oi h).symm
     subst hyy
     have h := hk_x3
     dsimp only [Sum.elim] at h
     obtain rfl := oi h
     exact er [(.p (.bool false), 4)]
    ·replace h := ite_f hc6_7 h
     refine k_skip ?_
     refine b_n ?_
     refine q_n ?_
     refine k_reg (r_gq [(0, .d false [.sl none (a0.map eRt)]), (1, .d false [.sl none (a1.map eRt)]), (12, .p (iV (a0.length : Int))), (13, .p (iV (w64 (x3 + 1))))] [] trivial) ?_
     exact lqn (w64 (x3 + 1)) h
   ·replace h := ite_f hc5_4 h
    refine k_exit ?_
    refine q_x ?_
    refine lq_x ?_
    refine b_x ?_
    have hyy := hy_x3 _ (oi h).symm
    subst hyy
    have h := hk_x3
    dsimp only [Sum.elim] at h
    refine q_n ?_
    exact jx () h
theorem wk_impl_IsStrict {a0 : (List Qp)}  {r : (Bool × Bool)} (h : impl_IsStrict a0 = some r) : Meets Tryz.prog 34 [.d false [.sl none (a0.map ePt)]] { vals := [.p (.bool r.1), .p (.bool r.2)] } := by
 refine mo Tryz.func34 [(0, .d false [.sl none (a0.map ePt)])] ?_
 unfold impl_IsStrict at h
 refine k_sreg (r_gq [(0, .d false [.sl none (a0.map ePt)])] [] trivial) ?_
 refine k_seq ?_
 replace h := bs h
 obtain ⟨v1, hv1, h⟩ := h
 refine k_sreg (r_gq [(0, .d false [.sl none (a0.map ePt)]), (6, .p (.bool (!v1)))] [(1, {call := some (none, [.p (.bool v1)], true)})] (A1 (wk_impl_isMap hv1))) ?_
 refine kc (!v1) (fun hc2_1 => ?_) (fun hc2_1 => ?_)
 ·replace h := ite_t hc2_1 h
  refine k_sreg (r_gq [(2, .p (.bool false)), (3, .p (.bool false))] [] trivial) ?_
  refine k_ret ?_
  refine q_r ?_
  obtain rfl := oi h
  exact er [(.p (.bool false), 2), (.p (.bool false), 3)]
 ·replace h := ite_f hc2_1 h
  refine k_skip ?_
  refine q_n ?_
  replace h := bs h
  obtain ⟨v3, hv3, h⟩ := h
  refine k_sreg (r_gq [(2, .p (.bool v3)), (3, .p (.bool true))] [(1, {call := some (none, [.p (.bool v3)], true)})] (A1 (wk_impl_isStrict hv3))) ?_
  refine k_ret ?_
  obtain rfl := oi h
  exact er [(.p (.bool v3), 2), (.p (.bool true), 3)]
theorem wk_impl_LapBound {a0 : (List Qp)} {a1 : Int}  {r : (Int × Bool)} (h : impl_LapBound a0 a1 = some r) : Meets Tryz.prog 35 [.d false [.sl none (a0.map ePt)], wI a1] { vals := [.p (iV r.1), .p (.bool r.2)] } := by
 refine mo Tryz.func35 [(0, .d false [.sl none (a0.map ePt)]), (1, .p (iV a1))] ?_
 unfold impl_LapBound at h
 refine k_sreg (r_gq [(0, .d false [.sl none (a0.map ePt)]), (1, .p (iV a1))] [] trivial) ?_
 refine k_seq ?_
 replace h := bs h
 obtain ⟨v1, hv1, h⟩ := h
 replace h := bs h
 obtain ⟨w3, hw3, h⟩ := h
 refine k_sreg (l1 := [(0, .d false [.sl none (a0.map ePt)]), (1, .p (iV a1)), (15, .p (.bool w3))]) ?_ ?_
 ·clear h
  rcases ft (!v1) with ha0 | ha0
  ·replace hw3 := ite_t ha0 hw3
   have hw3 := oi hw3
   subst hw3
   exact (r_gq [(0, .d false [.sl none (a0.map ePt)]), (1, .p (iV a1)), (15, .p (.bool true))] [(1, {call := some (none, [.p (.bool v1)], true)}), (4, gT), (5, gT), (6, gT), (7, bT)] (A5 (wk_impl_isMap hv1) ha0 ha0 ha0 ha0))
  ·replace hw3 := ite_f ha0 hw3
   replace hw3 := bs hw3
   obtain ⟨v2, hv2, hw3⟩ := hw3
   have hw3 := oi hw3
   subst hw3
   exact (r_gq [(0, .d false [.sl none (a0.map ePt)]), (1, .p (iV a1)), (15, .p (.bool (!v2)))] [(1, {call := some (none, [.p (.bool v1)], true)}), (4, gF), (5, {g := some false, call := some (none, [.p (.bool v2)], true)}), (6, gF), (7, bF)] (A6 (wk_impl_isMap hv1) ha0 ha0 (wk_impl_within hv2) ha0 ha0))
 ·refine kc w3 (fun hc2_3 => ?_) (fun hc2_3 => ?_)
  ·replace h := ite_t hc2_3 h
   refine k_sreg (r_gq [(4, .p (iV 0)), (5, .p (.bool false))] [] trivial) ?_
   refine k_ret ?_
   refine q_r ?_
   obtain rfl := oi h
   exact er [(.p (iV 0), 4), (.p (.bool false), 5)]
  ·replace h := ite_f hc2_3 h
   refine k_skip ?_
   refine q_n ?_
   replace h := bs h
   obtain ⟨v5, hv5, h⟩ := h
   refine k_sreg (r_gq [(1, .p (iV a1)), (6, .p (iV 1)), (7, .p (iV (v5.length : Int)))] [(1, {call := some (none, [.ov false [.sl (some 50) (v5.map (eO 3 eI))]], true)}), (2, {n := some v5.length})] (A3 (wk_impl_laps hv5) (show List.all [.ov false [.sl (some 50) (v5.map (eO 3 eI))]] simpleR = true from (sa_o (wnR1 (wnL_enc (wn_O wn_I)) rfl) rfl)) (show (v5.map (eO 3 eI)).length = v5.length from (List.length_map ..)))) ?_
   refine k_join (J := fun (x : Int) => [(6, .p (iV x))]) (K := fun x => impl_LapBound_k1 x = some r) (fun x6 h => ?_) ?_
   ·unfold impl_LapBound_k1 at h
    refine k_sreg (r_gq [(4, .p (iV x6)), (5, .p (.bool true))] [] trivial) ?_
    refine k_ret ?_
    obtain rfl := oi h
    exact er [(.p (iV x6), 4), (.p (.bool true), 5)]
   ·refine k_sreg (r_gq [(6, .p (iV 1)), (7, .p (iV (v5.length : Int))), (19, .p (iV a1)), (20, .p (iV 0))] [] trivial) ?_
    refine k_block ?_
    obtain ⟨y8, hl_x7, hk_x7⟩ := bs h
    clear h
    refine k_loop (J := fun (x : Qr) => [(6, .p (iV x.1)), (7, .p (iV (v5.length : Int))), (19, .p (iV a1)), (20, .p (iV x.2))]) hl_x7 (wk_of (by kernel_rfl) (by kernel_rfl)) (fun x7 o_x7 h hy_x7 => ?_)
    unfold impl_LapBound_b1 at h
    refine k_sreg (r_gq [(6, .p (iV x7.1)), (7, .p (iV (v5.length : Int))), (19, .p (iV a1)), (20, .p (iV x7.2)), (21, .p (.bool (decide (x7.2 < a1))))] [] trivial) ?_
    refine k_seq ?_
    refine kc (decide (x7.2 < a1)) (fun hc5_8 => ?_) (fun hc5_8 => ?_)
    ·replace h := ite_t hc5_8 h
     refine k_skip ?_
     refine q_n ?_
     refine k_seq ?_
     refine k_block ?_
     refine k_sreg (r_gq [(6, .p (iV (w64 (x7.1 * (v5.length : Int))))), (7, .p (iV (v5.length : Int))), (19, .p (iV a1)), (20, .p (iV x7.2))] [] trivial) ?_
     refine k_sreg (r_gq [(6, .p (iV (w64 (x7.1 * (v5.length : Int))))), (7, .p (iV (v5.length : Int))), (19, .p (iV a1)), (20, .p (iV x7.2)), (26, .p (.bool (decide ((w64 (x7.1 * (v5.length : Int))) > 1000000000))))] [] trivial) ?_
     refine kc (decide ((w64 (x7.1 * (v5.length : Int))) > 1000000000)) (fun hc6_9 => ?_) (fun hc6_9 => ?_)
     ·replace h := ite_t hc6_9 h
      refine k_sreg (r_gq [(4, .p (iV 0)), (5, .p (.bool false))] [] trivial) ?_
      refine k_ret ?_
      refine b_r ?_
      refine q_r ?_
      refine lq_r ?_
      refine b_r ?_
      refine q_r ?_
      have hyy := hy_x7 _ (oi h).symm
      subst hyy
      have h := hk_x7
      dsimp only [Sum.elim] at h
      obtain rfl := oi h
      exact er [(.p (iV 0), 4), (.p (.bool false), 5)]
     ·replace h := ite_f hc6_9 h
      refine k_skip ?_
      refine b_n ?_
      refine q_n ?_
      refine k_reg (r_gq [(6, .p (iV (w64 (x7.1 * (v5.length : Int))))), (7, .p (iV (v5.length : Int))), (19, .p (iV a1)), (20, .p (iV (w64 (x7.2 + 1))))] [] trivial) ?_
      exact lqn ((w64 (x7.1 * (v5.length : Int))), (w64 (x7.2 + 1))) h
    ·replace h := ite_f hc5_8 h
     refine k_exit ?_
     refine q_x ?_
     refine lq_x ?_
     refine b_x ?_
     have hyy := hy_x7 _ (oi h).symm
     subst hyy
     have h := hk_x7
     dsimp only [Sum.elim] at h
     refine q_n ?_
     exact jx x7.1 h
theorem wk_spec_LapBound {a0 : (List Qp)} {a1 : Int}  {r : (Int × Bool)} (h : spec_LapBound a0 a1 = some r) : Meets Tryz.prog 36 [.d false [.sl none (a0.map ePt)], wI a1] { vals := [.p (iV r.1), .p (.bool r.2)] } := by
 refine mo Tryz.func36 [(0, .d false [.sl none (a0.map ePt)]), (1, .p (iV a1))] ?_
 unfold spec_LapBound at h
 refine k_sreg (r_gq [(0, .d false [.sl none (a0.map ePt)]), (1, .p (iV a1))] [] trivial) ?_
 refine k_seq ?_
 replace h := bs h
 obtain ⟨v1, hv1, h⟩ := h
 replace h := bs h
 obtain ⟨w3, hw3, h⟩ := h
 refine k_sreg (l1 := [(0, .d false [.sl none (a0.map ePt)]), (1, .p (iV a1)), (14, .p (.bool w3))]) ?_ ?_
 ·clear h
  rcases ft (!v1) with ha0 | ha0
  ·replace hw3 := ite_t ha0 hw3
   have hw3 := oi hw3
   subst hw3
   exact (r_gq [(0, .d false [.sl none (a0.map ePt)]), (1, .p (iV a1)), (14, .p (.bool true))] [(1, {call := some (none, [.p (.bool v1)], true)}), (4, gT), (5, gT), (6, gT), (7, bT)] (A5 (wk_spec_imGood hv1) ha0 ha0 ha0 ha0))
  ·replace hw3 := ite_f ha0 hw3
   replace hw3 := bs hw3
   obtain ⟨v2, hv2, hw3⟩ := hw3
   have hw3 := oi hw3
   subst hw3
   exact (r_gq [(0, .d false [.sl none (a0.map ePt)]), (1, .p (iV a1)), (14, .p (.bool (!v2)))] [(1, {call := some (none, [.p (.bool v1)], true)}), (4, gF), (5, {g := some false, call := some (none, [.p (.bool v2)], true)}), (6, gF), (7, bF)] (A6 (wk_spec_imGood hv1) ha0 ha0 (wk_spec_l1In hv2) ha0 ha0))
 ·refine kc w3 (fun hc2_3 => ?_) (fun hc2_3 => ?_)
  ·replace h := ite_t hc2_3 h
   refine k_sreg (r_gq [(4, .p (iV 0)), (5, .p (.bool false))] [] trivial) ?_
   refine k_ret ?_
   refine q_r ?_
   obtain rfl := oi h
   exact er [(.p (iV 0), 4), (.p (.bool false), 5)]
  ·replace h := ite_f hc2_3 h
   refine k_skip ?_
   refine q_n ?_
   refine k_sreg (r_gq [(0, .d false [.sl none (a0.map ePt)]), (1, .p (iV a1)), (6, .p (iV 1))] [] trivial) ?_
   refine k_join (J := fun (x : Int) => [(6, .p (iV x))]) (K := fun x => spec_LapBound_k1 x = some r) (fun x5 h => ?_) ?_
   ·unfold spec_LapBound_k1 at h
    refine k_sreg (r_gq [(4, .p (iV x5)), (5, .p (.bool true))] [] trivial) ?_
    refine k_ret ?_
    obtain rfl := oi h
    exact er [(.p (iV x5), 4), (.p (.bool true), 5)]
   ·refine k_block ?_
    obtain ⟨y7, hl_x6, hk_x6⟩ := bs h
    clear h
    refine k_loop (J := fun (x : Qr) => [(0, .d false [.sl none (a0.map ePt)]), (1, .p (iV x.1)), (6, .p (iV x.2))]) hl_x6 (wk_of (by kernel_rfl) (by kernel_rfl)) (fun x6 o_x6 h hy_x6 => ?_)
    unfold spec_LapBound_b1 at h
    refine k_seq ?_
    refine k_sreg (r_gq [(0, .d false [.sl none (a0.map ePt)]), (1, .p (iV x6.1)), (6, .p (iV x6.2)), (16, .p (.bool (decide (x6.1 > 0))))] [] trivial) ?_
    refine kc (decide (x6.1 > 0)) (fun hc5_7 => ?_) (fun hc5_7 => ?_)
    ·replace h := ite_t hc5_7 h
     refine k_skip ?_
     refine q_n ?_
     refine k_seq ?_
     refine k_block ?_
     replace h := bs h
     obtain ⟨v9, hv9, h⟩ := h
     refine k_sreg (r_gq [(0, .d false [.sl none (a0.map ePt)]), (1, .p (iV x6.1)), (6, .p (iV (w64 (x6.2 * (v9.length : Int)))))] [(2, {call := some (none, [.ov false [.sl (some 50) (v9.map (eO 3 eI))]], true)}), (3, {n := some v9.length})] (A3 (wk_spec_imLaps hv9) (show List.all [.ov false [.sl (some 50) (v9.map (eO 3 eI))]] simpleR = true from (sa_o (wnR1 (wnL_enc (wn_O wn_I)) rfl) rfl)) (show (v9.map (eO 3 eI)).length = v9.length from (List.length_map ..)))) ?_
     refine k_sreg (r_gq [(0, .d false [.sl none (a0.map ePt)]), (1, .p (iV x6.1)), (6, .p (iV (w64 (x6.2 * (v9.length : Int))))), (25, .p (.bool (decide ((w64 (x6.2 * (v9.length : Int))) > 1000000000))))] [] trivial) ?_
     refine kc (decide ((w64 (x6.2 * (v9.length : Int))) > 1000000000)) (fun hc6_9 => ?_) (fun hc6_9 => ?_)
     ·replace h := ite_t hc6_9 h
      refine k_sreg (r_gq [(4, .p (iV 0)), (5, .p (.bool false))] [] trivial) ?_
      refine k_ret ?_
      refine b_r ?_
      refine q_r ?_
      refine lq_r ?_
      refine b_r ?_
      refine q_r ?_
      have hyy := hy_x6 _ (oi h).symm
      subst hyy
      have h := hk_x6
      dsimp only [Sum.elim] at h
      obtain rfl := oi h
      exact er [(.p (iV 0), 4), (.p (.bool false), 5)]
     ·replace h := ite_f hc6_9 h
      refine k_skip ?_
      refine b_n ?_
      refine q_n ?_
      refine k_reg (r_gq [(0, .d false [.sl none (a0.map ePt)]), (1, .p (iV (w64 (x6.1 - 1)))), (6, .p (iV (w64 (x6.2 * (v9.length : Int)))))] [] trivial) ?_
      exact lqn ((w64 (x6.1 - 1)), (w64 (x6.2 * (v9.length : Int)))) h
    ·replace h := ite_f hc5_7 h
     refine k_exit ?_
     refine q_x ?_
     refine lq_x ?_
     refine b_x ?_
     have hyy := hy_x6 _ (oi h).symm
     subst hyy
     have h := hk_x6
     dsimp only [Sum.elim] at h
     refine q_n ?_
     exact jx x6.2 h
theorem wk_laws_pLess {a0 : Qr} {a1 : Qr}  {r : Bool} (h : laws_pLess a0 a1 = some r) : Meets Tryz.prog 37 [.v (vRt a0), .v (vRt a1)] { vals := [.p (.bool r)] } := by
 refine mo Tryz.func37 [(0, .p (vRt a0)), (1, .p (vRt a1))] ?_
 unfold laws_pLess at h
 refine k_sreg (r_gq [(2, .box (eRt a0)), (3, .box (eRt a1))] [] trivial) ?_
 refine k_sreg (r_gq [(4, .p (.bool (decide ((w64 (a0.1 * a1.2)) < (w64 (a1.1 * a0.2))))))] [] trivial) ?_
 refine k_ret ?_
 obtain rfl := oi h
 exact er [(.p (.bool (decide ((w64 (a0.1 * a1.2)) < (w64 (a1.1 * a0.2))))), 4)]
theorem wk_spec_DrawHighestAndLowest {a0 : (List Int)}  {r : ((List Qp) × Int)} (h : spec_DrawHighestAndLowest a0 = some r) : Meets Tryz.prog 38 [.d false [.sl none (a0.map (eU .u8))]] { vals := [.ov false [.sl (some 85) (r.1.map ePt)], .p (iV r.2)] } := by
 refine mo Tryz.func38 [(0, .d false [.sl none (a0.map (eU .u8))])] ?_
 unfold spec_DrawHighestAndLowest at h
 refine k_sreg (r_gq [(0, .d false [.sl none (a0.map (eU .u8))])] [] trivial) ?_
 replace h := bs h
 obtain ⟨v1, hv1, h⟩ := h
 refine k_sreg (r_gq [(2, .ov false [.sl (some 85) (v1.1.map ePt)]), (3, .p (iV v1.2))] [(1, {call := some (none, [.ov false [.sl (some 85) (v1.1.map ePt)], .p (iV v1.2)], true)})] (A2 (wk_spec_DrawLapNumber hv1) (show List.all [.ov false [.sl (some 85) (v1.1.map ePt)], .p (iV v1.2)] simpleR = true from (sa_o (wnR1 (wnL_enc (wn_P (wn_P wn_I wn_I) (wn_P wn_I wn_I))) rfl) (sa_p rfl))))) ?_
 refine k_ret ?_
 obtain rfl := oi h
 exact er [(.ov false [.sl (some 85) (v1.1.map ePt)], 2), (.p (iV v1.2), 3)]
theorem wk_slices_MaxFunc_Limpl_Rat_impl_Rat_v {a0 : (List Qr)} {a1 : (Qr → Qr → Option Int)} {F1 : FuncId} (hp1 : ∀ x0 x1 y, a1 x0 x1 = some y → Meets Tryz.prog F1 ([.v (vRt x0), .v (vRt x1)] ++ []) { vals := [.p (iV y)] }) {r : Qr} (h : slices_MaxFunc_Limpl_Rat_impl_Rat a0 a1 = some r) : Meets Tryz.prog 94 [.d false [.sl none (a0.map eRt)], .v (.func (.func F1) #[] #[])] { vals := [.p (vRt r)] } := by
 refine mo Tryz.func94 [(0, .d false [.sl none (a0.map eRt)]), (1, .p (.func (.func F1) #[] #[]))] ?_
 unfold slices_MaxFunc_Limpl_Rat_impl_Rat at h
 refine k_sreg (r_gq [(0, .d false [.sl none (a0.map eRt)]), (1, .p (.func (.func F1) #[] #[])), (4, .box [rI 0, rI 0])] [] trivial) ?_
 refine k_join (J := fun (x : Unit) => [(0, .d false [.sl none (a0.map eRt)]), (1, .p (.func (.func F1) #[] #[])), (4, .box [rI 0, rI 0])]) (K := fun x => slices_MaxFunc_Limpl_Rat_impl_Rat_k1 a0 a1 x = some r) (fun x1 h => ?_) ?_
 ·unfold slices_MaxFunc_Limpl_Rat_impl_Rat_k1 at h
  replace h := bs h
  obtain ⟨v2, hv2, h⟩ := h
  refine k_sreg (r_gq [(0, .d false [.sl none (a0.map eRt)]), (1, .p (.func (.func F1) #[] #[])), (4, .box [rI 0, rI 0]), (5, .box (eRt v2))] [(1, {row := some (eRt v2)})] (A2 (idxO_some hv2).1 (map_get eRt (idxO_some hv2).2))) ?_
  refine k_join (J := fun (x : Qr) => [(4, .box [rI 0, rI 0]), (5, .box (eRt x))]) (K := fun x => slices_MaxFunc_Limpl_Rat_impl_Rat_k2 x = some r) (fun x3 h => ?_) ?_
  ·unfold slices_MaxFunc_Limpl_Rat_impl_Rat_k2 at h
   refine k_sreg (r_gq [(4, .box (eRt x3))] [] trivial) ?_
   refine k_ret ?_
   obtain rfl := oi h
   exact er [(.p (vRt x3), 4)]
  ·refine k_sreg (r_gq [(0, .d false [.sl none (a0.map eRt)]), (1, .p (.func (.func F1) #[] #[])), (4, .box [rI 0, rI 0]), (5, .box (eRt v2)), (6, .p (iV 1))] [] trivial) ?_
   refine k_block ?_
   obtain ⟨y5, hl_x4, hk_x4⟩ := bs h
   clear h
   refine k_loop (J := fun (x : (Int × Int × Int)) => [(0, .d false [.sl none (a0.map eRt)]), (1, .p (.func (.func F1) #[] #[])), (4, .box [rI 0, rI 0]), (5, .box [rI x.1, rI x.2.1]), (6, .p (iV x.2.2))]) hl_x4 (wk_of (by kernel_rfl) (by kernel_rfl)) (fun x4 o_x4 h hy_x4 => ?_)
   unfold slices_MaxFunc_Limpl_Rat_impl_Rat_b1 at h
   refine k_seq ?_
   refine k_sreg (r_gq [(0, .d false [.sl none (a0.map eRt)]), (1, .p (.func (.func F1) #[] #[])), (4, .box [rI 0, rI 0]), (5, .box [rI x4.1, rI x4.2.1]), (6, .p (iV x4.2.2)), (17, .p (.bool (decide (x4.2.2 < (a0.length : Int)))))] [(2, {n := some a0.length})] (A1 (show (a0.map eRt).length = a0.length from (List.length_map ..)))) ?_
   refine kc (decide (x4.2.2 < (a0.length : Int))) (fun hc5_5 => ?_) (fun hc5_5 => ?_)
   ·replace h := ite_t hc5_5 h
    refine k_skip ?_
    refine q_n ?_
    refine k_seq ?_
    refine k_block ?_
    replace h := bs h
    obtain ⟨v7, hv7, h⟩ := h
    replace h := bs h
    obtain ⟨v8, hv8, h⟩ := h
    refine k_sreg (r_dq Tryz_mixed 6 [] [(0, .d false [.sl none (a0.map eRt)]), (1, .p (.func (.func F1) #[] #[])), (4, .box [rI 0, rI 0]), (5, .box [rI x4.1, rI x4.2.1]), (6, .p (iV x4.2.2)), (27, .p (.bool (decide (v8 > 0))))] [(3, {row := some (eRt v7)}), (6, {call := some (none, [.p (iV v8)], true)})] (A3 (idxO_some hv7).1 (map_get eRt (idxO_some hv7).2) (hp1 _ _ _ hv8))) ?_
    refine kc (decide (v8 > 0)) (fun hc6_8 => ?_) (fun hc6_8 => ?_)
    ·replace h := ite_t hc6_8 h
     refine k_reg (r_gq [(0, .d false [.sl none (a0.map eRt)]), (1, .p (.func (.func F1) #[] #[])), (4, .box [rI 0, rI 0]), (5, .box (eRt v7)), (6, .p (iV x4.2.2))] [(2, {row := some (eRt v7)})] (A2 (idxO_some hv7).1 (map_get eRt (idxO_some hv7).2))) ?_
     refine b_n ?_
     refine q_n ?_
     refine k_reg (r_gq [(0, .d false [.sl none (a0.map eRt)]), (1, .p (.func (.func F1) #[] #[])), (4, .box [rI 0, rI 0]), (5, .box (eRt v7)), (6, .p (iV (w64 (x4.2.2 + 1))))] [] trivial) ?_
     exact lqn (v7.1, v7.2, (w64 (x4.2.2 + 1))) h
    ·replace h := ite_f hc6_8 h
     refine k_skip ?_
     refine b_n ?_
     refine q_n ?_
     refine k_reg (r_gq [(0, .d false [.sl none (a0.map eRt)]), (1, .p (.func (.func F1) #[] #[])), (4, .box [rI 0, rI 0]), (5, .box [rI x4.1, rI x4.2.1]), (6, .p (iV (w64 (x4.2.2 + 1))))] [] trivial) ?_
     exact lqn (x4.1, x4.2.1, (w64 (x4.2.2 + 1))) h
   ·replace h := ite_f hc5_5 h
    refine k_exit ?_
    refine q_x ?_
    refine lq_x ?_
    refine b_x ?_
    have hyy := hy_x4 _ (oi h).symm
    subst hyy
    have h := hk_x4
    refine q_n ?_
    exact jx (x4.1, x4.2.1) h
 ·refine k_sreg (r_gq [(0, .d false [.sl none (a0.map eRt)]), (1, .p (.func (.func F1) #[] #[])), (4, .box [rI 0, rI 0]), (9, .p (.bool (decide ((a0.length : Int) < 1))))] [(1, {n := some a0.length})] (A1 (show (a0.map eRt).length = a0.length from (List.length_map ..)))) ?_
  refine kc (decide ((a0.length : Int) < 1)) (fun hc2_9 => ?_) (fun hc2_9 => ?_)
  ·replace h := ite_t hc2_9 h
   cases h
  ·replace h := ite_f hc2_9 h
   refine k_skip ?_
   refine q_n ?_
   exact jx () h
theorem wk_slices_MinFunc_Limpl_Rat_impl_Rat_v {a0 : (List Qr)} {a1 : (Qr → Qr → Option Int)} {F1 : FuncId} (hp1 : ∀ x0 x1 y, a1 x0 x1 = some y → Meets Tryz.prog F1 ([.v (vRt x0), .v (vRt x1)] ++ []) { vals := [.p (iV y)] }) {r : Qr} (h : slices_MinFunc_Limpl_Rat_impl_Rat a0 a1 = some r) : Meets Tryz.prog 96 [.d false [.sl none (a0.map eRt)], .v (.func (.func F1) #[] #[])] { vals := [.p (vRt r)] } := by
 refine mo Tryz.func96 [(0, .d false [.sl none (a0.map eRt)]), (1, .p (.func (.func F1) #[] #[]))] ?_
 unfold slices_MinFunc_Limpl_Rat_impl_Rat at h
 refine k_sreg (r_gq [(0, .d false [.sl none (a0.map eRt)]), (1, .p (.func (.func F1) #[] #[])), (4, .box [rI 0, rI 0])] [] trivial) ?_
 refine k_join (J := fun (x : Unit) => [(0, .d false [.sl none (a0.map eRt)]), (1, .p (.func (.func F1) #[] #[])), (4, .box [rI 0, rI 0])]) (K := fun x => slices_MinFunc_Limpl_Rat_impl_Rat_k1 a0 a1 x = some r) (fun x1 h => ?_) ?_
 ·unfold slices_MinFunc_Limpl_Rat_impl_Rat_k1 at h
  replace h := bs h
  obtain ⟨v2, hv2, h⟩ := h
  refine k_sreg (r_gq [(0, .d false [.sl none (a0.map eRt)]), (1, .p (.func (.func F1) #[] #[])), (4, .box [rI 0, rI 0]), (5, .box (eRt v2))] [(1, {row := some (eRt v2)})] (A2 (idxO_some hv2).1 (map_get eRt (idxO_some hv2).2))) ?_
  refine k_join (J := fun (x : Qr) => [(4, .box [rI 0, rI 0]), (5, .box (eRt x))]) (K := fun x => slices_MinFunc_Limpl_Rat_impl_Rat_k2 x = some r) (fun x3 h => ?_) ?_
  ·unfold slices_MinFunc_Limpl_Rat_impl_Rat_k2 at h
   refine k_sreg (r_gq [(4, .box (eRt x3))] [] trivial) ?_
   refine k_ret ?_
   obtain rfl := oi h
   exact er [(.p (vRt x3), 4)]
  ·refine k_sreg (r_gq [(0, .d false [.sl none (a0.map eRt)]), (1, .p (.func (.func F1) #[] #[])), (4, .box [rI 0, rI 0]), (5, .box (eRt v2)), (6, .p (iV 1))] [] trivial) ?_
   refine k_block ?_
   obtain ⟨y5, hl_x4, hk_x4⟩ := bs h
   clear h
   refine k_loop (J := fun (x : (Int × Int × Int)) => [(0, .d false [.sl none (a0.map eRt)]), (1, .p (.func (.func F1) #[] #[])), (4, .box [rI 0, rI 0]), (5, .box [rI x.1, rI x.2.1]), (6, .p (iV x.2.2))]) hl_x4 (wk_of (by kernel_rfl) (by kernel_rfl)) (fun x4 o_x4 h hy_x4 => ?_)
   unfold slices_MinFunc_Limpl_Rat_impl_Rat_b1 at h
   refine k_seq ?_
   refine k_sreg (r_gq [(0, .d false [.sl none (a0.map eRt)]), (1, .p (.func (.func F1) #[] #[])), (4, .box [rI 0, rI 0]), (5, .box [rI x4.1, rI x4.2.1]), (6, .p (iV x4.2.2)), (17, .p (.bool (decide (x4.2.2 < (a0.length : Int)))))] [(2, {n := some a0.length})] (A1 (show (a0.map eRt).length = a0.length from (List.length_map ..)))) ?_
   refine kc (decide (x4.2.2 < (a0.length : Int))) (fun hc5_5 => ?_) (fun hc5_5 => ?_)
   ·replace h := ite_t hc5_5 h
    refine k_skip ?_
    refine q_n ?_
    refine k_seq ?_
    refine k_block ?_
    replace h := bs h
    obtain ⟨v7, hv7, h⟩ := h
    replace h := bs h
    obtain ⟨v8, hv8, h⟩ := h
    refine k_sreg (r_dq Tryz_mixed 6 [] [(0, .d false [.sl none (a0.map eRt)]), (1, .p (.func (.func F1) #[] #[])), (4, .box [rI 0, rI 0]), (5, .box [rI x4.1, rI x4.2.1]), (6, .p (iV x4.2.2)), (27, .p (.bool (decide (v8 < 0))))] [(3, {row := some (eRt v7)}), (6, {call := some (none, [.p (iV v8)], true)})] (A3 (idxO_some hv7).1 (map_get eRt (idxO_some hv7).2) (hp1 _ _ _ hv8))) ?_
    refine kc (decide (v8 < 0)) (fun hc6_8 => ?_) (fun hc6_8 => ?_)
    ·replace h := ite_t hc6_8 h
     refine k_reg (r_gq [(0, .d false [.sl none (a0.map eRt)]), (1, .p (.func (.func F1) #[] #[])), (4, .box [rI 0, rI 0]), (5, .box (eRt v7)), (6, .p (iV x4.2.2))] [(2, {row := some (eRt v7)})] (A2 (idxO_some hv7).1 (map_get eRt (idxO_some hv7).2))) ?_
     refine b_n ?_
     refine q_n ?_
     refine k_reg (r_gq [(0, .d false [.sl none (a0.map eRt)]), (1, .p (.func (.func F1) #[] #[])), (4, .box [rI 0, rI 0]), (5, .box (eRt v7)), (6, .p (iV (w64 (x4.2.2 + 1))))] [] trivial) ?_
     exact lqn (v7.1, v7.2, (w64 (x4.2.2 + 1))) h
    ·replace h := ite_f hc6_8 h
     refine k_skip ?_
     refine b_n ?_
     refine q_n ?_
     refine k_reg (r_gq [(0, .d false [.sl none (a0.map eRt)]), (1, .p (.func (.func F1) #[] #[])), (4, .box [rI 0, rI 0]), (5, .box [rI x4.1, rI x4.2.1]), (6, .p (iV (w64 (x4.2.2 + 1))))] [] trivial) ?_
     exact lqn (x4.1, x4.2.1, (w64 (x4.2.2 + 1))) h
   ·replace h := ite_f hc5_5 h
    refine k_exit ?_
    refine q_x ?_
    refine lq_x ?_
    refine b_x ?_
    have hyy := hy_x4 _ (oi h).symm
    subst hyy
    have h := hk_x4
    refine q_n ?_
    exact jx (x4.1, x4.2.1) h
 ·refine k_sreg (r_gq [(0, .d false [.sl none (a0.map eRt)]), (1, .p (.func (.func F1) #[] #[])), (4, .box [rI 0, rI 0]), (9, .p (.bool (decide ((a0.length : Int) < 1))))] [(1, {n := some a0.length})] (A1 (show (a0.map eRt).length = a0.length from (List.length_map ..)))) ?_
  refine kc (decide ((a0.length : Int) < 1)) (fun hc2_9 => ?_) (fun hc2_9 => ?_)
  ·replace h := ite_t hc2_9 h
   cases h
  ·replace h := ite_f hc2_9 h
   refine k_skip ?_
   refine q_n ?_
   exact jx () h
theorem wk_impl_HighestAndLowest {a0 : (List Qp)} {a1 : Int}  {r : (Qr × Qr × Bool)} (h : impl_HighestAndLowest a0 a1 = some r) : Meets Tryz.prog 39 [.d false [.sl none (a0.map ePt)], wI a1] { vals := [.p (vRt r.1), .p (vRt r.2.1), .p (.bool r.2.2)] } := by
 refine mo Tryz.func39 [(0, .d false [.sl none (a0.map ePt)]), (1, .p (iV a1))] ?_
 unfold impl_HighestAndLowest at h
 refine k_sreg (r_gq [(0, .d false [.sl none (a0.map ePt)]), (1, .p (iV a1)), (4, .box [rI 0, rI 0]), (5, .box [rI 0, rI 0])] [] trivial) ?_
 replace h := bs h
 obtain ⟨v1, hv1, h⟩ := h
 refine k_sreg (r_gq [(1, .p (iV a1)), (4, .box [rI 0, rI 0]), (5, .box [rI 0, rI 0]), (7, .d false [.sl none (v1.1.map (eF eRt))]), (8, .p (.bool v1.2))] [(2, {call := some (none, [.ov false [.sl (some 30) (v1.1.map (eO 27 eRt))], .p (.bool v1.2)], true)}), (6, {pre := some (13, .d false [.sl none (v1.1.map (eF eRt))])})] (A3 (wk_impl_iterated hv1) (show List.all [.ov false [.sl (some 30) (v1.1.map (eO 27 eRt))], .p (.bool v1.2)] simpleR = true from (sa_o (wnR1 (wnL_enc (wn_O (wn_P wn_I wn_I))) rfl) (sa_p rfl))) (show (SV.d false (eraR [.sl (some 30) (v1.1.map (eO 27 eRt))]) : SV) = .d false [.sl none (v1.1.map (eF eRt))] from (congrArg (fun z => SV.d false z) (erc_sl (eraL_enc (era_O (era_P er_I er_I))) rfl))))) ?_
 refine k_seq ?_
 refine k_sreg (r_gq [(1, .p (iV a1)), (4, .box [rI 0, rI 0]), (5, .box [rI 0, rI 0]), (7, .d false [.sl none (v1.1.map (eF eRt))]), (16, .p (.bool (!v1.2)))] [] trivial) ?_
 refine kc (!v1.2) (fun hc2_1 => ?_) (fun hc2_1 => ?_)
 ·replace h := ite_t hc2_1 h
  refine k_sreg (r_gq [(4, .box [rI 0, rI 0]), (5, .box [rI 0, rI 0]), (6, .p (.bool false))] [] trivial) ?_
  refine k_ret ?_
  refine q_r ?_
  obtain rfl := oi h
  exact er [(.p (.agg #[.int .i64 0, .int .i64 0]), 4), (.p (.agg #[.int .i64 0, .int .i64 0]), 5), (.p (.bool false), 6)]
 ·replace h := ite_f hc2_1 h
  refine k_skip ?_
  refine q_n ?_
  replace h := bs h
  obtain ⟨v3, hv3, h⟩ := h
  replace h := bs h
  obtain ⟨v4, hv4, h⟩ := h
  replace h := bs h
  obtain ⟨v5, hv5, h⟩ := h
  refine k_sreg (r_dq Tryz_mixed 9 [] [(4, .box (eRt v4)), (5, .box (eRt v5)), (6, .p (.bool true))] [(2, {row := some [.sl none (v3.map eRt)]}), (4, {call := some (none, [.p (vRt v4)], true)}), (7, {row := some [.sl none (v3.map eRt)]}), (9, {call := some (none, [.p (vRt v5)], true)})] (A6 (idxO_some hv3).1 (map_get (eF eRt) (idxO_some hv3).2) (show Meets Tryz.prog 94 ([.d false [.sl none (v3.map eRt)], .v (.func (.func 95) #[] #[])] ++ []) { vals := [.p (vRt v4)] } from (wk_slices_MaxFunc_Limpl_Rat_impl_Rat_v (fun x0 x1 y hy => wk_impl_compare hy) hv4)) (idxO_some hv3).1 (map_get (eF eRt) (idxO_some hv3).2) (show Meets Tryz.prog 96 ([.d false [.sl none (v3.map eRt)], .v (.func (.func 95) #[] #[])] ++ []) { vals := [.p (vRt v5)] } from (wk_slices_MinFunc_Limpl_Rat_impl_Rat_v (fun x0 x1 y hy => wk_impl_compare hy) hv5)))) ?_
  refine k_ret ?_
  obtain rfl := oi h
  exact er [(.p (vRt v4), 4), (.p (vRt v5), 5), (.p (.bool true), 6)]
theorem wk_spec_HighestAndLowest {a0 : (List Qp)} {a1 : Int}  {r : (Qr × Qr × Bool)} (h : spec_HighestAndLowest a0 a1 = some r) : Meets Tryz.prog 40 [.d false [.sl none (a0.map ePt)], wI a1] { vals := [.p (vRt r.1), .p (vRt r.2.1), .p (.bool r.2.2)] } := by
 refine mo Tryz.func40 [(0, .d false [.sl none (a0.map ePt)]), (1, .p (iV a1))] ?_
 unfold spec_HighestAndLowest at h
 refine k_sreg (r_gq [(0, .d false [.sl none (a0.map ePt)]), (1, .p (iV a1)), (4, .box [rI 0, rI 0]), (5, .box [rI 0, rI 0])] [] trivial) ?_
 refine k_seq ?_
 replace h := bs h
 obtain ⟨v1, hv1, h⟩ := h
 refine k_sreg (r_gq [(0, .d false [.sl none (a0.map ePt)]), (1, .p (iV a1)), (4, .box [rI 0, rI 0]), (5, .box [rI 0, rI 0]), (16, .p (.bool (!v1)))] [(2, {call := some (none, [.p (.bool v1)], true)})] (A1 (wk_spec_lpAsked hv1))) ?_
 refine kc (!v1) (fun hc2_1 => ?_) (fun hc2_1 => ?_)
 ·replace h := ite_t hc2_1 h
  refine k_sreg (r_gq [(4, .box [rI 0, rI 0]), (5, .box [rI 0, rI 0]), (6, .p (.bool false))] [] trivial) ?_
  refine k_ret ?_
  refine q_r ?_
  obtain rfl := oi h
  exact er [(.p (.agg #[.int .i64 0, .int .i64 0]), 4), (.p (.agg #[.int .i64 0, .int .i64 0]), 5), (.p (.bool false), 6)]
 ·replace h := ite_f hc2_1 h
  refine k_skip ?_
  refine q_n ?_
  replace h := bs h
  obtain ⟨v3, hv3, h⟩ := h
  refine k_sreg (r_gq [(4, .box [rI 0, rI 0]), (5, .box [rI 0, rI 0]), (7, .ov false [.sl (some 27) (v3.1.map eRt)]), (8, .p (.bool v3.2))] [(2, {call := some (none, [.ov false [.sl (some 27) (v3.1.map eRt)], .p (.bool v3.2)], true)})] (A2 (wk_spec_lpEnds hv3) (show List.all [.ov false [.sl (some 27) (v3.1.map eRt)], .p (.bool v3.2)] simpleR = true from (sa_o (wnR1 (wnL_enc (wn_P wn_I wn_I)) rfl) (sa_p rfl))))) ?_
  refine k_seq ?_
  refine k_sreg (r_gq [(4, .box [rI 0, rI 0]), (5, .box [rI 0, rI 0]), (7, .ov false [.sl (some 27) (v3.1.map eRt)]), (26, .p (.bool (!v3.2)))] [] trivial) ?_
  refine kc (!v3.2) (fun hc2_3 => ?_) (fun hc2_3 => ?_)
  ·replace h := ite_t hc2_3 h
   refine k_sreg (r_gq [(4, .box [rI 0, rI 0]), (5, .box [rI 0, rI 0]), (6, .p (.bool false))] [] trivial) ?_
   refine k_ret ?_
   refine q_r ?_
   obtain rfl := oi h
   exact er [(.p (.agg #[.int .i64 0, .int .i64 0]), 4), (.p (.agg #[.int .i64 0, .int .i64 0]), 5), (.p (.bool false), 6)]
  ·replace h := ite_f hc2_3 h
   refine k_skip ?_
   refine q_n ?_
   replace h := bs h
   obtain ⟨v5, hv5, h⟩ := h
   refine k_sreg (r_dq Tryz_mixed 9 [(8, 9)] [(4, .box [rI 0, rI 0]), (5, .box [rI 0, rI 0]), (7, .ov false [.sl (some 27) (v3.1.map eRt)]), (9, .box (eRt v5)), (10, .box (eRt v5))] [(1, {row := some (eRt v5)}), (2, {row := some (eRt v5)}), (4, {row := some (eRt v5)}), (5, {row := some (eRt v5)})] (A6 (idxO_some hv5).1 (map_get eRt (idxO_some hv5).2) (show getRow [[.sl (some 27) (v3.1.map eRt)]] [(0, 0), ((Int.toNat 0), 0)] = some (eRt v5) from ((gr0 rfl).trans (gre (map_get eRt (idxO_some hv5).2)))) (idxO_some hv5).1 (map_get eRt (idxO_some hv5).2) (show getRow [[.sl (some 27) (v3.1.map eRt)]] [(0, 0), ((Int.toNat 0), 0)] = some (eRt v5) from ((gr0 rfl).trans (gre (map_get eRt (idxO_some hv5).2)))))) ?_
   refine k_join (J := fun (x : (Int × Int × Int × Int)) => [(4, .box [rI 0, rI 0]), (5, .box [rI 0, rI 0]), (9, .box [rI x.1, rI x.2.1]), (10, .box (eRt x.2.2))]) (K := fun x => spec_HighestAndLowest_k1 x = some r) (fun x6 h => ?_) ?_
   ·unfold spec_HighestAndLowest_k1 at h
    refine k_sreg (r_dq Tryz_mixed 3 [(2, 4)] [(4, .box [rI x6.1, rI x6.2.1]), (5, .box (eRt x6.2.2)), (6, .p (.bool true))] [] trivial) ?_
    refine k_ret ?_
    obtain rfl := oi h
    exact er [(.p (.agg #[.int .i64 x6.1, .int .i64 x6.2.1]), 4), (.p (vRt x6.2.2), 5), (.p (.bool true), 6)]
   ·refine k_sreg (r_gq [(4, .box [rI 0, rI 0]), (5, .box [rI 0, rI 0]), (7, .ov false [.sl (some 27) (v3.1.map eRt)]), (9, .box (eRt v5)), (10, .box (eRt v5)), (35, .ref 7 [(0, 0)] none), (36, .p (iV (v3.1.length : Int))), (37, .p (iV 0))] [(1, {n := some v3.1.length})] (A1 (show (v3.1.map eRt).length = v3.1.length from (List.length_map ..)))) ?_
    refine k_block ?_
    obtain ⟨y8, hl_x7, hk_x7⟩ := bs h
    clear h
    refine k_loop (J := fun (x : (Int × Int × Int × Int × Int)) => [(4, .box [rI 0, rI 0]), (5, .box [rI 0, rI 0]), (7, .ov false [.sl (some 27) (v3.1.map eRt)]), (9, .box [rI x.1, rI x.2.1]), (10, .box [rI x.2.2.1, rI x.2.2.2.1]), (35, .ref 7 [(0, 0)] none), (36, .p (iV (v3.1.length : Int))), (37, .p (iV x.2.2.2.2))]) hl_x7 (wk_of (by kernel_rfl) (by kernel_rfl)) (fun x7 o_x7 h hy_x7 => ?_)
    unfold spec_HighestAndLowest_b1 at h
    refine k_sreg (r_gq [(4, .box [rI 0, rI 0]), (5, .box [rI 0, rI 0]), (7, .ov false [.sl (some 27) (v3.1.map eRt)]), (9, .box [rI x7.1, rI x7.2.1]), (10, .box [rI x7.2.2.1, rI x7.2.2.2.1]), (35, .ref 7 [(0, 0)] none), (36, .p (iV (v3.1.length : Int))), (37, .p (iV x7.2.2.2.2)), (38, .p (.bool (decide (x7.2.2.2.2 < (v3.1.length : Int)))))] [] trivial) ?_
    refine k_seq ?_
    refine kc (decide (x7.2.2.2.2 < (v3.1.length : Int))) (fun hc5_8 => ?_) (fun hc5_8 => ?_)
    ·replace h := ite_t hc5_8 h
     refine k_skip ?_
     refine q_n ?_
     refine k_seq ?_
     refine k_block ?_
     replace h := bs h
     obtain ⟨v10, hv10, h⟩ := h
     refine k_sreg (r_gq [(4, .box [rI 0, rI 0]), (5, .box [rI 0, rI 0]), (7, .ov false [.sl (some 27) (v3.1.map eRt)]), (9, .box [rI x7.1, rI x7.2.1]), (10, .box [rI x7.2.2.1, rI x7.2.2.2.1]), (12, .box (eRt v10)), (35, .ref 7 [(0, 0)] none), (36, .p (iV (v3.1.length : Int))), (37, .p (iV x7.2.2.2.2))] [(0, {row := some (eRt v10)}), (1, {row := some (eRt v10)})] (A3 (idxO_some hv10).1 (map_get eRt (idxO_some hv10).2) (show getRow [[.sl (some 27) (v3.1.map eRt)]] [(0, 0), ((Int.toNat x7.2.2.2.2), 0)] = some (eRt v10) from ((gr0 rfl).trans (gre (map_get eRt (idxO_some hv10).2)))))) ?_
     refine k_join (J := fun (x : Qr) => [(4, .box [rI 0, rI 0]), (5, .box [rI 0, rI 0]), (7, .ov false [.sl (some 27) (v3.1.map eRt)]), (9, .box (eRt x)), (10, .box [rI x7.2.2.1, rI x7.2.2.2.1]), (12, .box (eRt v10)), (35, .ref 7 [(0, 0)] none), (36, .p (iV (v3.1.length : Int))), (37, .p (iV x7.2.2.2.2))]) (K := fun x => spec_HighestAndLowest_k2 x7 v10 x = some o_x7) (fun x11 h => ?_) ?_
     ·unfold spec_HighestAndLowest_k2 at h
      replace h := bs h
      obtain ⟨v12, hv12, h⟩ := h
      refine k_sreg (r_gq [(4, .box [rI 0, rI 0]), (5, .box [rI 0, rI 0]), (7, .ov false [.sl (some 27) (v3.1.map eRt)]), (9, .box (eRt x11)), (10, .box [rI x7.2.2.1, rI x7.2.2.2.1]), (12, .box (eRt v10)), (35, .ref 7 [(0, 0)] none), (36, .p (iV (v3.1.length : Int))), (37, .p (iV x7.2.2.2.2)), (49, .p (.bool (decide (v12 < 0))))] [(2, {call := some (none, [.p (iV v12)], true)})] (A1 (wk_spec_raCmp hv12))) ?_
      refine kc (decide (v12 < 0)) (fun hc6_12 => ?_) (fun hc6_12 => ?_)
      ·replace h := ite_t hc6_12 h
       refine k_reg (r_gq [(4, .box [rI 0, rI 0]), (5, .box [rI 0, rI 0]), (7, .ov false [.sl (some 27) (v3.1.map eRt)]), (9, .box (eRt x11)), (10, .box (eRt v10)), (35, .ref 7 [(0, 0)] none), (36, .p (iV (v3.1.length : Int))), (37, .p (iV x7.2.2.2.2))] [] trivial) ?_
       refine b_n ?_
       refine q_n ?_
       refine k_reg (r_gq [(4, .box [rI 0, rI 0]), (5, .box [rI 0, rI 0]), (7, .ov false [.sl (some 27) (v3.1.map eRt)]), (9, .box (eRt x11)), (10, .box (eRt v10)), (35, .ref 7 [(0, 0)] none), (36, .p (iV (v3.1.length : Int))), (37, .p (iV (w64 (x7.2.2.2.2 + 1))))] [] trivial) ?_
       exact lqn (x11.1, x11.2, v10.1, v10.2, (w64 (x7.2.2.2.2 + 1))) h
      ·replace h := ite_f hc6_12 h
       refine k_skip ?_
       refine b_n ?_
       refine q_n ?_
       refine k_reg (r_gq [(4, .box [rI 0, rI 0]), (5, .box [rI 0, rI 0]), (7, .ov false [.sl (some 27) (v3.1.map eRt)]), (9, .box (eRt x11)), (10, .box [rI x7.2.2.1, rI x7.2.2.2.1]), (35, .ref 7 [(0, 0)] none), (36, .p (iV (v3.1.length : Int))), (37, .p (iV (w64 (x7.2.2.2.2 + 1))))] [] trivial) ?_
       exact lqn (x11.1, x11.2, x7.2.2.1, x7.2.2.2.1, (w64 (x7.2.2.2.2 + 1))) h
     ·replace h := bs h
      obtain ⟨v14, hv14, h⟩ := h
      refine k_sreg (r_gq [(4, .box [rI 0, rI 0]), (5, .box [rI 0, rI 0]), (7, .ov false [.sl (some 27) (v3.1.map eRt)]), (9, .box [rI x7.1, rI x7.2.1]), (10, .box [rI x7.2.2.1, rI x7.2.2.2.1]), (12, .box (eRt v10)), (35, .ref 7 [(0, 0)] none), (36, .p (iV (v3.1.length : Int))), (37, .p (iV x7.2.2.2.2)), (44, .p (.bool (decide (v14 < 0))))] [(2, {call := some (none, [.p (iV v14)], true)})] (A1 (wk_spec_raCmp hv14))) ?_
      refine kc (decide (v14 < 0)) (fun hc7_14 => ?_) (fun hc7_14 => ?_)
      ·replace h := ite_t hc7_14 h
       refine k_reg (r_gq [(4, .box [rI 0, rI 0]), (5, .box [rI 0, rI 0]), (7, .ov false [.sl (some 27) (v3.1.map eRt)]), (9, .box (eRt v10)), (10, .box [rI x7.2.2.1, rI x7.2.2.2.1]), (12, .box (eRt v10)), (35, .ref 7 [(0, 0)] none), (36, .p (iV (v3.1.length : Int))), (37, .p (iV x7.2.2.2.2))] [] trivial) ?_
       refine q_n ?_
       exact jx v10 h
      ·replace h := ite_f hc7_14 h
       refine k_skip ?_
       refine q_n ?_
       exact jx (x7.1, x7.2.1) h
    ·replace h := ite_f hc5_8 h
     refine k_exit ?_
     refine q_x ?_
     refine lq_x ?_
     refine b_x ?_
     have hyy := hy_x7 _ (oi h).symm
     subst hyy
     have h := hk_x7
     refine q_n ?_
     exact jx (x7.1, x7.2.1, x7.2.2.1, x7.2.2.2.1) h
end Go.PV

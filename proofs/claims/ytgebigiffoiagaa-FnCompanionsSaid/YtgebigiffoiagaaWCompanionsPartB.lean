/-
  Walks through the functions that the law reaches: each answers as its plain definition does.
  Conditions: none.
-/
import Derived.KernelRfl
import Derived.Test.YtgebigiffoiagaaWCompanionsPartA
import Derived.Test.YtgebigiffoiagaaProg
open Go Go.PV Go.Proofs
set_option linter.all false
namespace Go.PV
attribute [local irreducible] pvC pvL pvD sOp seqQ blockQ Meets MeetsB Ok OkL RegOk agree endQ seqL blockL loopQ endL endLB
theorem wk_impl_reach {a0 : (List (List Int))}  {r : (List (List Bool))} (h : impl_reach a0 = some r) : Meets Try.prog 118 [.d false [.sl none (a0.map (eF eI))]] { vals := [.ov false [.sl (some 95) (r.map (eO 4 eB))]] } := by
 refine mo Try.func118 [(0, .d false [.sl none (a0.map (eF eI))])] ?_
 unfold impl_reach at h
 refine k_sreg (r_gq [(0, .d false [.sl none (a0.map (eF eI))])] [] trivial) ?_
 replace h := bs h
 obtain ⟨u1, hu1, h⟩ := h
 refine k_sreg (r_gq [(0, .d false [.sl none (a0.map (eF eI))]), (3, .ov false [.sl (some 95) ((List.replicate (Int.toNat (a0.length : Int)) ([] : (List Bool))).map (eO 4 eB))])] [(1, {n := some a0.length}), (2, {fix := some (13, .ov false [.sl (some 95) ((List.replicate (Int.toNat (a0.length : Int)) ([] : (List Bool))).map (eO 4 eB))])})] (A5 (show (a0.map (eF eI)).length = a0.length from (List.length_map ..)) (show (a0.length : Int) = (a0.length : Int) from rfl) (guardO_some hu1).1 (guardO_some hu1).2 (show (SV.ov false [.sl (some 95) (List.replicate (Int.toNat (a0.length : Int)) [.sl (some 4) []])] : SV) = .ov false [.sl (some 95) ((List.replicate (Int.toNat (a0.length : Int)) ([] : (List Bool))).map (eO 4 eB))] from (congrArg (fun z => SV.ov false [.sl (some 95) z]) (rep_fix (eO 4 eB) ([] : (List Bool))))))) ?_
 refine k_join (J := fun (x : (List (List Bool))) => [(0, .d false [.sl none (a0.map (eF eI))]), (3, .ov false [.sl (some 95) (x.map (eO 4 eB))])]) (K := fun x => impl_reach_k1 a0 x = some r) (fun x2 h => ?_) ?_
 ·unfold impl_reach_k1 at h
  refine k_join (J := fun (x : (List (List Bool))) => [(3, .ov false [.sl (some 95) (x.map (eO 4 eB))])]) (K := fun x => impl_reach_k2 x = some r) (fun x3 h => ?_) ?_
  ·unfold impl_reach_k2 at h
   refine k_sreg (r_gq [(2, .ov false [.sl (some 95) (x3.map (eO 4 eB))])] [] trivial) ?_
   refine k_ret ?_
   obtain rfl := oi h
   exact er [(.ov false [.sl (some 95) (x3.map (eO 4 eB))], 2)]
  ·refine k_sreg (r_gq [(0, .d false [.sl none (a0.map (eF eI))]), (3, .ov false [.sl (some 95) (x2.map (eO 4 eB))]), (41, .p (iV (a0.length : Int))), (42, .p (iV 0))] [(1, {n := some a0.length})] (A1 (show (a0.map (eF eI)).length = a0.length from (List.length_map ..)))) ?_
   refine k_block ?_
   obtain ⟨y5, hl_x4, hk_x4⟩ := bs h
   clear h
   refine k_loop (J := fun (x : ((List (List Bool)) × Int)) => [(0, .d false [.sl none (a0.map (eF eI))]), (3, .ov false [.sl (some 95) (x.1.map (eO 4 eB))]), (41, .p (iV (a0.length : Int))), (42, .p (iV x.2))]) hl_x4 (wk_of (by kernel_rfl) (by kernel_rfl)) (fun x4 o_x4 h hy_x4 => ?_)
   unfold impl_reach_b1 at h
   refine k_sreg (r_gq [(0, .d false [.sl none (a0.map (eF eI))]), (3, .ov false [.sl (some 95) (x4.1.map (eO 4 eB))]), (41, .p (iV (a0.length : Int))), (42, .p (iV x4.2)), (43, .p (.bool (decide (x4.2 < (a0.length : Int)))))] [] trivial) ?_
   refine k_seq ?_
   refine kc (decide (x4.2 < (a0.length : Int))) (fun hc5_5 => ?_) (fun hc5_5 => ?_)
   ·replace h := ite_t hc5_5 h
    refine k_skip ?_
    refine q_n ?_
    refine k_join (J := fun (x : (List (List Bool))) => [(0, .d false [.sl none (a0.map (eF eI))]), (3, .ov false [.sl (some 95) (x.map (eO 4 eB))]), (41, .p (iV (a0.length : Int))), (42, .p (iV x4.2))]) (K := fun x => impl_reach_k3 x4 x = some o_x4) (fun x7 h => ?_) ?_
    ·unfold impl_reach_k3 at h
     refine k_reg (r_gq [(0, .d false [.sl none (a0.map (eF eI))]), (3, .ov false [.sl (some 95) (x7.map (eO 4 eB))]), (41, .p (iV (a0.length : Int))), (42, .p (iV (w64 (x4.2 + 1))))] [] trivial) ?_
     exact lqn (x7, (w64 (x4.2 + 1))) h
    ·refine k_block ?_
     refine k_sreg (r_gq [(0, .d false [.sl none (a0.map (eF eI))]), (3, .ov false [.sl (some 95) (x4.1.map (eO 4 eB))]), (8, .p (iV x4.2)), (41, .p (iV (a0.length : Int))), (42, .p (iV x4.2))] [] trivial) ?_
     refine k_sreg (r_gq [(0, .d false [.sl none (a0.map (eF eI))]), (3, .ov false [.sl (some 95) (x4.1.map (eO 4 eB))]), (8, .p (iV x4.2)), (41, .p (iV (a0.length : Int))), (42, .p (iV x4.2)), (46, .p (iV (a0.length : Int))), (47, .p (iV 0))] [(1, {n := some a0.length})] (A1 (show (a0.map (eF eI)).length = a0.length from (List.length_map ..)))) ?_
     refine k_block ?_
     obtain ⟨y9, hl_x8, hk_x8⟩ := bs h
     clear h
     refine k_loop (J := fun (x : ((List (List Bool)) × Int)) => [(0, .d false [.sl none (a0.map (eF eI))]), (3, .ov false [.sl (some 95) (x.1.map (eO 4 eB))]), (8, .p (iV x4.2)), (41, .p (iV (a0.length : Int))), (42, .p (iV x4.2)), (46, .p (iV (a0.length : Int))), (47, .p (iV x.2))]) hl_x8 (wk_of (by kernel_rfl) (by kernel_rfl)) (fun x8 o_x8 h hy_x8 => ?_)
     unfold impl_reach_b2 at h
     refine k_sreg (r_gq [(0, .d false [.sl none (a0.map (eF eI))]), (3, .ov false [.sl (some 95) (x8.1.map (eO 4 eB))]), (8, .p (iV x4.2)), (41, .p (iV (a0.length : Int))), (42, .p (iV x4.2)), (46, .p (iV (a0.length : Int))), (47, .p (iV x8.2)), (48, .p (.bool (decide (x8.2 < (a0.length : Int)))))] [] trivial) ?_
     refine k_seq ?_
     refine kc (decide (x8.2 < (a0.length : Int))) (fun hc9_9 => ?_) (fun hc9_9 => ?_)
     ·replace h := ite_t hc9_9 h
      refine k_skip ?_
      refine q_n ?_
      refine k_join (J := fun (x : (List (List Bool))) => [(0, .d false [.sl none (a0.map (eF eI))]), (3, .ov false [.sl (some 95) (x.map (eO 4 eB))]), (8, .p (iV x4.2)), (41, .p (iV (a0.length : Int))), (42, .p (iV x4.2)), (46, .p (iV (a0.length : Int))), (47, .p (iV x8.2))]) (K := fun x => impl_reach_k4 x8 x = some o_x8) (fun x11 h => ?_) ?_
      ·unfold impl_reach_k4 at h
       refine k_reg (r_gq [(0, .d false [.sl none (a0.map (eF eI))]), (3, .ov false [.sl (some 95) (x11.map (eO 4 eB))]), (8, .p (iV x4.2)), (41, .p (iV (a0.length : Int))), (42, .p (iV x4.2)), (46, .p (iV (a0.length : Int))), (47, .p (iV (w64 (x8.2 + 1))))] [] trivial) ?_
       exact lqn (x11, (w64 (x8.2 + 1))) h
      ·refine k_block ?_
       refine k_sreg (r_gq [(0, .d false [.sl none (a0.map (eF eI))]), (3, .ov false [.sl (some 95) (x8.1.map (eO 4 eB))]), (8, .p (iV x4.2)), (9, .p (iV x8.2)), (41, .p (iV (a0.length : Int))), (42, .p (iV x4.2)), (46, .p (iV (a0.length : Int))), (47, .p (iV x8.2))] [] trivial) ?_
       refine k_sreg (r_gq [(0, .d false [.sl none (a0.map (eF eI))]), (3, .ov false [.sl (some 95) (x8.1.map (eO 4 eB))]), (8, .p (iV x4.2)), (9, .p (iV x8.2)), (41, .p (iV (a0.length : Int))), (42, .p (iV x4.2)), (46, .p (iV (a0.length : Int))), (47, .p (iV x8.2)), (51, .p (iV (a0.length : Int))), (52, .p (iV 0))] [(1, {n := some a0.length})] (A1 (show (a0.map (eF eI)).length = a0.length from (List.length_map ..)))) ?_
       refine k_block ?_
       obtain ⟨y13, hl_x12, hk_x12⟩ := bs h
       clear h
       refine k_loop (J := fun (x : ((List (List Bool)) × Int)) => [(0, .d false [.sl none (a0.map (eF eI))]), (3, .ov false [.sl (some 95) (x.1.map (eO 4 eB))]), (8, .p (iV x4.2)), (9, .p (iV x8.2)), (41, .p (iV (a0.length : Int))), (42, .p (iV x4.2)), (46, .p (iV (a0.length : Int))), (47, .p (iV x8.2)), (51, .p (iV (a0.length : Int))), (52, .p (iV x.2))]) hl_x12 (wk_of (by kernel_rfl) (by kernel_rfl)) (fun x12 o_x12 h hy_x12 => ?_)
       unfold impl_reach_b3 at h
       refine k_sreg (r_gq [(0, .d false [.sl none (a0.map (eF eI))]), (3, .ov false [.sl (some 95) (x12.1.map (eO 4 eB))]), (8, .p (iV x4.2)), (9, .p (iV x8.2)), (41, .p (iV (a0.length : Int))), (42, .p (iV x4.2)), (46, .p (iV (a0.length : Int))), (47, .p (iV x8.2)), (51, .p (iV (a0.length : Int))), (52, .p (iV x12.2)), (53, .p (.bool (decide (x12.2 < (a0.length : Int)))))] [] trivial) ?_
       refine k_seq ?_
       refine kc (decide (x12.2 < (a0.length : Int))) (fun hc13_13 => ?_) (fun hc13_13 => ?_)
       ·replace h := ite_t hc13_13 h
        refine k_skip ?_
        refine q_n ?_
        refine k_seq ?_
        refine k_block ?_
        refine k_sreg (r_gq [(0, .d false [.sl none (a0.map (eF eI))]), (3, .ov false [.sl (some 95) (x12.1.map (eO 4 eB))]), (8, .p (iV x4.2)), (9, .p (iV x8.2)), (10, .p (iV x12.2)), (41, .p (iV (a0.length : Int))), (42, .p (iV x4.2)), (46, .p (iV (a0.length : Int))), (47, .p (iV x8.2)), (51, .p (iV (a0.length : Int))), (52, .p (iV x12.2))] [] trivial) ?_
        replace h := bs h
        obtain ⟨v15, hv15, h⟩ := h
        replace h := bs h
        obtain ⟨v16, hv16, h⟩ := h
        replace h := bs h
        obtain ⟨w20, hw20, h⟩ := h
        refine k_reg (l1 := [(0, .d false [.sl none (a0.map (eF eI))]), (3, .ov false [.sl (some 95) (w20.map (eO 4 eB))]), (8, .p (iV x4.2)), (9, .p (iV x8.2)), (41, .p (iV (a0.length : Int))), (42, .p (iV x4.2)), (46, .p (iV (a0.length : Int))), (47, .p (iV x8.2)), (51, .p (iV (a0.length : Int))), (52, .p (iV x12.2))]) ?_ ?_
        ·clear h
         rcases ft v16 with ha3 | ha3
         ·replace hw20 := ite_t ha3 hw20
          have hw20 := oi hw20
          subst hw20
          exact (r_dq Try_mixed 30 [] [(0, .d false [.sl none (a0.map (eF eI))]), (3, .ov false [.sl (some 95) ((x12.1.set (Int.toNat x8.2) (v15.set (Int.toNat x12.2) true)).map (eO 4 eB))]), (8, .p (iV x4.2)), (9, .p (iV x8.2)), (41, .p (iV (a0.length : Int))), (42, .p (iV x4.2)), (46, .p (iV (a0.length : Int))), (47, .p (iV x8.2)), (51, .p (iV (a0.length : Int))), (52, .p (iV x12.2))] [(2, {row := some [.sl (some 4) (v15.map eB)]}), (3, {row := some [.sl (some 4) (v15.map eB)]}), (7, {row := some [.sl (some 4) (v15.map eB)]}), (8, {row := some [.sl (some 4) (v15.map eB)]}), (10, {deep := some [.sl (some 4) (v15.map eB)], row := some [.raw (.bool v16)]}), (11, {row := some [.raw (.bool v16)]}), (13, gT), (14, gT), (15, gT), (16, gT), (17, gT), (18, gT), (19, gT), (20, gT), (28, gT), (29, bT), (30, {deep := some [.sl (some 4) (v15.map eB)], row := some [.raw (.bool v16)]}), (31, {row := some [.raw (.bool v16)], fix := some (3, .ov false [.sl (some 95) ((x12.1.set (Int.toNat x8.2) (v15.set (Int.toNat x12.2) true)).map (eO 4 eB))])})] (B6 (idxO_some hv15).1 (map_get (eO 4 eB) (idxO_some hv15).2) (show frR [.sl (some 4) (v15.map eB)] = false from rfl) (show getRow [[.sl (some 95) (x12.1.map (eO 4 eB))]] [(0, 0), ((Int.toNat x8.2), 0)] = some [.sl (some 4) (v15.map eB)] from ((gr0 rfl).trans (gre (map_get (eO 4 eB) (idxO_some hv15).2)))) (idxO_some hv15).1 (map_get (eO 4 eB) (idxO_some hv15).2) (B6 (show frR [.sl (some 4) (v15.map eB)] = false from rfl) (show getRow [[.sl (some 95) (x12.1.map (eO 4 eB))]] [(0, 0), ((Int.toNat x8.2), 0)] = some [.sl (some 4) (v15.map eB)] from ((gr0 rfl).trans (gre (map_get (eO 4 eB) (idxO_some hv15).2)))) (idxO_some hv16).1 (map_get eB (idxO_some hv16).2) (show getRow [[.sl (some 95) (x12.1.map (eO 4 eB))]] [(0, 0), ((Int.toNat x8.2), 0)] = some [.sl (some 4) (v15.map eB)] from ((gr0 rfl).trans (gre (map_get (eO 4 eB) (idxO_some hv15).2)))) (show getRow [[.sl (some 95) (x12.1.map (eO 4 eB))]] [(0, 0), ((Int.toNat x8.2), 0), ((Int.toNat x12.2), 0)] = some [.raw (.bool v16)] from ((gr0 rfl).trans ((grs (map_get (eO 4 eB) (idxO_some hv15).2) rfl).trans (gre (map_get eB (idxO_some hv16).2))))) (B6 ha3 ha3 ha3 ha3 ha3 ha3 (B6 ha3 ha3 ha3 ha3 (idxO_some hv16).1 (map_get eB (idxO_some hv16).2) (A3 (show getRow [[.sl (some 95) (x12.1.map (eO 4 eB))]] [(0, 0), ((Int.toNat x8.2), 0)] = some [.sl (some 4) (v15.map eB)] from ((gr0 rfl).trans (gre (map_get (eO 4 eB) (idxO_some hv15).2)))) (show getRow [[.sl (some 95) (x12.1.map (eO 4 eB))]] [(0, 0), ((Int.toNat x8.2), 0), ((Int.toNat x12.2), 0)] = some [.raw (.bool v16)] from ((gr0 rfl).trans ((grs (map_get (eO 4 eB) (idxO_some hv15).2) rfl).trans (gre (map_get eB (idxO_some hv16).2))))) (show (SV.ov false [.sl (some 95) (setL (x12.1.map (eO 4 eB)) [((Int.toNat x8.2), 0), ((Int.toNat x12.2), 0)] [.raw (.bool true)])] : SV) = .ov false [.sl (some 95) ((x12.1.set (Int.toNat x8.2) (v15.set (Int.toNat x12.2) true)).map (eO 4 eB))] from (congrArg (fun z => SV.ov false [.sl (some 95) z]) (set2 (f := (eO 4 eB)) (y := (v15.set (Int.toNat x12.2) true)) (idxO_some hv15).2 rfl (set1 (f := eB) (y := true) (idxO_some hv16).2 rfl) rfl)))))))))
         ·replace hw20 := ite_f ha3 hw20
          replace hw20 := bs hw20
          obtain ⟨v17, hv17, hw20⟩ := hw20
          rcases ft v17 with ha4 | ha4
          ·replace hw20 := ite_t ha4 hw20
           replace hw20 := bs hw20
           obtain ⟨v18, hv18, hw20⟩ := hw20
           replace hw20 := bs hw20
           obtain ⟨v19, hv19, hw20⟩ := hw20
           have hw20 := oi hw20
           subst hw20
           exact (r_dq Try_mixed 30 [] [(0, .d false [.sl none (a0.map (eF eI))]), (3, .ov false [.sl (some 95) ((x12.1.set (Int.toNat x8.2) (v15.set (Int.toNat x12.2) v19)).map (eO 4 eB))]), (8, .p (iV x4.2)), (9, .p (iV x8.2)), (41, .p (iV (a0.length : Int))), (42, .p (iV x4.2)), (46, .p (iV (a0.length : Int))), (47, .p (iV x8.2)), (51, .p (iV (a0.length : Int))), (52, .p (iV x12.2))] [(2, {row := some [.sl (some 4) (v15.map eB)]}), (3, {row := some [.sl (some 4) (v15.map eB)]}), (7, {row := some [.sl (some 4) (v15.map eB)]}), (8, {row := some [.sl (some 4) (v15.map eB)]}), (10, {deep := some [.sl (some 4) (v15.map eB)], row := some [.raw (.bool v16)]}), (11, {row := some [.raw (.bool v16)]}), (13, gF), (14, gF), (15, {g := some false, row := some [.sl (some 4) (v15.map eB)]}), (16, {g := some false, row := some [.sl (some 4) (v15.map eB)]}), (17, gF), (18, {g := some false, deep := some [.sl (some 4) (v15.map eB)], row := some [.raw (.bool v17)]}), (19, {g := some false, row := some [.raw (.bool v17)]}), (20, gF), (21, gT), (22, gT), (23, {g := some true, row := some [.sl (some 4) (v18.map eB)]}), (24, {g := some true, row := some [.sl (some 4) (v18.map eB)]}), (25, gT), (26, {g := some true, deep := some [.sl (some 4) (v18.map eB)], row := some [.raw (.bool v19)]}), (27, {g := some true, row := some [.raw (.bool v19)]}), (28, {g := some false, b := some true}), (29, bF), (30, {deep := some [.sl (some 4) (v15.map eB)], row := some [.raw (.bool v16)]}), (31, {row := some [.raw (.bool v16)], fix := some (3, .ov false [.sl (some 95) ((x12.1.set (Int.toNat x8.2) (v15.set (Int.toNat x12.2) v19)).map (eO 4 eB))])})] (B6 (idxO_some hv15).1 (map_get (eO 4 eB) (idxO_some hv15).2) (show frR [.sl (some 4) (v15.map eB)] = false from rfl) (show getRow [[.sl (some 95) (x12.1.map (eO 4 eB))]] [(0, 0), ((Int.toNat x8.2), 0)] = some [.sl (some 4) (v15.map eB)] from ((gr0 rfl).trans (gre (map_get (eO 4 eB) (idxO_some hv15).2)))) (idxO_some hv15).1 (map_get (eO 4 eB) (idxO_some hv15).2) (B6 (show frR [.sl (some 4) (v15.map eB)] = false from rfl) (show getRow [[.sl (some 95) (x12.1.map (eO 4 eB))]] [(0, 0), ((Int.toNat x8.2), 0)] = some [.sl (some 4) (v15.map eB)] from ((gr0 rfl).trans (gre (map_get (eO 4 eB) (idxO_some hv15).2)))) (idxO_some hv16).1 (map_get eB (idxO_some hv16).2) (show getRow [[.sl (some 95) (x12.1.map (eO 4 eB))]] [(0, 0), ((Int.toNat x8.2), 0)] = some [.sl (some 4) (v15.map eB)] from ((gr0 rfl).trans (gre (map_get (eO 4 eB) (idxO_some hv15).2)))) (show getRow [[.sl (some 95) (x12.1.map (eO 4 eB))]] [(0, 0), ((Int.toNat x8.2), 0), ((Int.toNat x12.2), 0)] = some [.raw (.bool v16)] from ((gr0 rfl).trans ((grs (map_get (eO 4 eB) (idxO_some hv15).2) rfl).trans (gre (map_get eB (idxO_some hv16).2))))) (B6 ha3 ha3 ha3 (idxO_some hv15).1 (map_get (eO 4 eB) (idxO_some hv15).2) ha3 (B6 (show frR [.sl (some 4) (v15.map eB)] = false from rfl) (show getRow [[.sl (some 95) (x12.1.map (eO 4 eB))]] [(0, 0), ((Int.toNat x8.2), 0)] = some [.sl (some 4) (v15.map eB)] from ((gr0 rfl).trans (gre (map_get (eO 4 eB) (idxO_some hv15).2)))) ha3 ha3 (idxO_some hv17).1 (map_get eB (idxO_some hv17).2) (B6 (show getRow [[.sl (some 95) (x12.1.map (eO 4 eB))]] [(0, 0), ((Int.toNat x8.2), 0)] = some [.sl (some 4) (v15.map eB)] from ((gr0 rfl).trans (gre (map_get (eO 4 eB) (idxO_some hv15).2)))) ha3 (show getRow [[.sl (some 95) (x12.1.map (eO 4 eB))]] [(0, 0), ((Int.toNat x8.2), 0), ((Int.toNat x4.2), 0)] = some [.raw (.bool v17)] from ((gr0 rfl).trans ((grs (map_get (eO 4 eB) (idxO_some hv15).2) rfl).trans (gre (map_get eB (idxO_some hv17).2))))) ha3 ha4 ha4 (B6 ha4 (idxO_some hv18).1 (map_get (eO 4 eB) (idxO_some hv18).2) ha4 (show frR [.sl (some 4) (v18.map eB)] = false from rfl) (show getRow [[.sl (some 95) (x12.1.map (eO 4 eB))]] [(0, 0), ((Int.toNat x4.2), 0)] = some [.sl (some 4) (v18.map eB)] from ((gr0 rfl).trans (gre (map_get (eO 4 eB) (idxO_some hv18).2)))) (B6 ha4 ha4 (idxO_some hv19).1 (map_get eB (idxO_some hv19).2) (show getRow [[.sl (some 95) (x12.1.map (eO 4 eB))]] [(0, 0), ((Int.toNat x4.2), 0)] = some [.sl (some 4) (v18.map eB)] from ((gr0 rfl).trans (gre (map_get (eO 4 eB) (idxO_some hv18).2)))) ha4 (B6 (show getRow [[.sl (some 95) (x12.1.map (eO 4 eB))]] [(0, 0), ((Int.toNat x4.2), 0), ((Int.toNat x12.2), 0)] = some [.raw (.bool v19)] from ((gr0 rfl).trans ((grs (map_get (eO 4 eB) (idxO_some hv18).2) rfl).trans (gre (map_get eB (idxO_some hv19).2))))) ha3 ha4 ha3 (idxO_some hv16).1 (map_get eB (idxO_some hv16).2) (A3 (show getRow [[.sl (some 95) (x12.1.map (eO 4 eB))]] [(0, 0), ((Int.toNat x8.2), 0)] = some [.sl (some 4) (v15.map eB)] from ((gr0 rfl).trans (gre (map_get (eO 4 eB) (idxO_some hv15).2)))) (show getRow [[.sl (some 95) (x12.1.map (eO 4 eB))]] [(0, 0), ((Int.toNat x8.2), 0), ((Int.toNat x12.2), 0)] = some [.raw (.bool v16)] from ((gr0 rfl).trans ((grs (map_get (eO 4 eB) (idxO_some hv15).2) rfl).trans (gre (map_get eB (idxO_some hv16).2))))) (show (SV.ov false [.sl (some 95) (setL (x12.1.map (eO 4 eB)) [((Int.toNat x8.2), 0), ((Int.toNat x12.2), 0)] [.raw (.bool v19)])] : SV) = .ov false [.sl (some 95) ((x12.1.set (Int.toNat x8.2) (v15.set (Int.toNat x12.2) v19)).map (eO 4 eB))] from (congrArg (fun z => SV.ov false [.sl (some 95) z]) (set2 (f := (eO 4 eB)) (y := (v15.set (Int.toNat x12.2) v19)) (idxO_some hv15).2 rfl (set1 (f := eB) (y := v19) (idxO_some hv16).2 rfl) rfl)))))))))))))
          ·replace hw20 := ite_f ha4 hw20
           have hw20 := oi hw20
           subst hw20
           exact (r_dq Try_mixed 30 [] [(0, .d false [.sl none (a0.map (eF eI))]), (3, .ov false [.sl (some 95) ((x12.1.set (Int.toNat x8.2) (v15.set (Int.toNat x12.2) false)).map (eO 4 eB))]), (8, .p (iV x4.2)), (9, .p (iV x8.2)), (41, .p (iV (a0.length : Int))), (42, .p (iV x4.2)), (46, .p (iV (a0.length : Int))), (47, .p (iV x8.2)), (51, .p (iV (a0.length : Int))), (52, .p (iV x12.2))] [(2, {row := some [.sl (some 4) (v15.map eB)]}), (3, {row := some [.sl (some 4) (v15.map eB)]}), (7, {row := some [.sl (some 4) (v15.map eB)]}), (8, {row := some [.sl (some 4) (v15.map eB)]}), (10, {deep := some [.sl (some 4) (v15.map eB)], row := some [.raw (.bool v16)]}), (11, {row := some [.raw (.bool v16)]}), (13, gF), (14, gF), (15, {g := some false, row := some [.sl (some 4) (v15.map eB)]}), (16, {g := some false, row := some [.sl (some 4) (v15.map eB)]}), (17, gF), (18, {g := some false, deep := some [.sl (some 4) (v15.map eB)], row := some [.raw (.bool v17)]}), (19, {g := some false, row := some [.raw (.bool v17)]}), (20, gF), (21, gF), (22, gF), (23, gF), (24, gF), (25, gF), (26, gF), (27, gF), (28, {g := some false, b := some false}), (29, bF), (30, {deep := some [.sl (some 4) (v15.map eB)], row := some [.raw (.bool v16)]}), (31, {row := some [.raw (.bool v16)], fix := some (3, .ov false [.sl (some 95) ((x12.1.set (Int.toNat x8.2) (v15.set (Int.toNat x12.2) false)).map (eO 4 eB))])})] (B6 (idxO_some hv15).1 (map_get (eO 4 eB) (idxO_some hv15).2) (show frR [.sl (some 4) (v15.map eB)] = false from rfl) (show getRow [[.sl (some 95) (x12.1.map (eO 4 eB))]] [(0, 0), ((Int.toNat x8.2), 0)] = some [.sl (some 4) (v15.map eB)] from ((gr0 rfl).trans (gre (map_get (eO 4 eB) (idxO_some hv15).2)))) (idxO_some hv15).1 (map_get (eO 4 eB) (idxO_some hv15).2) (B6 (show frR [.sl (some 4) (v15.map eB)] = false from rfl) (show getRow [[.sl (some 95) (x12.1.map (eO 4 eB))]] [(0, 0), ((Int.toNat x8.2), 0)] = some [.sl (some 4) (v15.map eB)] from ((gr0 rfl).trans (gre (map_get (eO 4 eB) (idxO_some hv15).2)))) (idxO_some hv16).1 (map_get eB (idxO_some hv16).2) (show getRow [[.sl (some 95) (x12.1.map (eO 4 eB))]] [(0, 0), ((Int.toNat x8.2), 0)] = some [.sl (some 4) (v15.map eB)] from ((gr0 rfl).trans (gre (map_get (eO 4 eB) (idxO_some hv15).2)))) (show getRow [[.sl (some 95) (x12.1.map (eO 4 eB))]] [(0, 0), ((Int.toNat x8.2), 0), ((Int.toNat x12.2), 0)] = some [.raw (.bool v16)] from ((gr0 rfl).trans ((grs (map_get (eO 4 eB) (idxO_some hv15).2) rfl).trans (gre (map_get eB (idxO_some hv16).2))))) (B6 ha3 ha3 ha3 (idxO_some hv15).1 (map_get (eO 4 eB) (idxO_some hv15).2) ha3 (B6 (show frR [.sl (some 4) (v15.map eB)] = false from rfl) (show getRow [[.sl (some 95) (x12.1.map (eO 4 eB))]] [(0, 0), ((Int.toNat x8.2), 0)] = some [.sl (some 4) (v15.map eB)] from ((gr0 rfl).trans (gre (map_get (eO 4 eB) (idxO_some hv15).2)))) ha3 ha3 (idxO_some hv17).1 (map_get eB (idxO_some hv17).2) (B6 (show getRow [[.sl (some 95) (x12.1.map (eO 4 eB))]] [(0, 0), ((Int.toNat x8.2), 0)] = some [.sl (some 4) (v15.map eB)] from ((gr0 rfl).trans (gre (map_get (eO 4 eB) (idxO_some hv15).2)))) ha3 (show getRow [[.sl (some 95) (x12.1.map (eO 4 eB))]] [(0, 0), ((Int.toNat x8.2), 0), ((Int.toNat x4.2), 0)] = some [.raw (.bool v17)] from ((gr0 rfl).trans ((grs (map_get (eO 4 eB) (idxO_some hv15).2) rfl).trans (gre (map_get eB (idxO_some hv17).2))))) ha3 ha4 ha4 (B6 ha4 ha4 ha4 ha4 ha4 ha3 (B6 ha4 ha3 (idxO_some hv16).1 (map_get eB (idxO_some hv16).2) (show getRow [[.sl (some 95) (x12.1.map (eO 4 eB))]] [(0, 0), ((Int.toNat x8.2), 0)] = some [.sl (some 4) (v15.map eB)] from ((gr0 rfl).trans (gre (map_get (eO 4 eB) (idxO_some hv15).2)))) (show getRow [[.sl (some 95) (x12.1.map (eO 4 eB))]] [(0, 0), ((Int.toNat x8.2), 0), ((Int.toNat x12.2), 0)] = some [.raw (.bool v16)] from ((gr0 rfl).trans ((grs (map_get (eO 4 eB) (idxO_some hv15).2) rfl).trans (gre (map_get eB (idxO_some hv16).2))))) (A1 (show (SV.ov false [.sl (some 95) (setL (x12.1.map (eO 4 eB)) [((Int.toNat x8.2), 0), ((Int.toNat x12.2), 0)] [.raw (.bool false)])] : SV) = .ov false [.sl (some 95) ((x12.1.set (Int.toNat x8.2) (v15.set (Int.toNat x12.2) false)).map (eO 4 eB))] from (congrArg (fun z => SV.ov false [.sl (some 95) z]) (set2 (f := (eO 4 eB)) (y := (v15.set (Int.toNat x12.2) false)) (idxO_some hv15).2 rfl (set1 (f := eB) (y := false) (idxO_some hv16).2 rfl) rfl))))))))))))
        ·refine b_n ?_
         refine q_n ?_
         refine k_reg (r_gq [(0, .d false [.sl none (a0.map (eF eI))]), (3, .ov false [.sl (some 95) (w20.map (eO 4 eB))]), (8, .p (iV x4.2)), (9, .p (iV x8.2)), (41, .p (iV (a0.length : Int))), (42, .p (iV x4.2)), (46, .p (iV (a0.length : Int))), (47, .p (iV x8.2)), (51, .p (iV (a0.length : Int))), (52, .p (iV (w64 (x12.2 + 1))))] [] trivial) ?_
         exact lqn (w20, (w64 (x12.2 + 1))) h
       ·replace h := ite_f hc13_13 h
        refine k_exit ?_
        refine q_x ?_
        refine lq_x ?_
        refine b_x ?_
        refine b_n ?_
        have hyy := hy_x12 _ (oi h).symm
        subst hyy
        have h := hk_x12
        refine q_n ?_
        exact jx x12.1 h
     ·replace h := ite_f hc9_9 h
      refine k_exit ?_
      refine q_x ?_
      refine lq_x ?_
      refine b_x ?_
      refine b_n ?_
      have hyy := hy_x8 _ (oi h).symm
      subst hyy
      have h := hk_x8
      refine q_n ?_
      exact jx x8.1 h
   ·replace h := ite_f hc5_5 h
    refine k_exit ?_
    refine q_x ?_
    refine lq_x ?_
    refine b_x ?_
    have hyy := hy_x4 _ (oi h).symm
    subst hyy
    have h := hk_x4
    refine q_n ?_
    exact jx x4.1 h
 ·refine k_sreg (r_gq [(0, .d false [.sl none (a0.map (eF eI))]), (3, .ov false [.sl (some 95) ((List.replicate (Int.toNat (a0.length : Int)) ([] : (List Bool))).map (eO 4 eB))]), (14, .d false [.sl none (a0.map (eF eI))]), (15, .p (iV (a0.length : Int))), (16, .p (iV 0))] [(1, {n := some a0.length})] (A1 (show (a0.map (eF eI)).length = a0.length from (List.length_map ..)))) ?_
  refine k_block ?_
  obtain ⟨y22, hl_x21, hk_x21⟩ := bs h
  clear h
  refine k_loop (J := fun (x : ((List (List Bool)) × Int)) => [(0, .d false [.sl none (a0.map (eF eI))]), (3, .ov false [.sl (some 95) (x.1.map (eO 4 eB))]), (14, .d false [.sl none (a0.map (eF eI))]), (15, .p (iV (a0.length : Int))), (16, .p (iV x.2))]) hl_x21 (wk_of (by kernel_rfl) (by kernel_rfl)) (fun x21 o_x21 h hy_x21 => ?_)
  unfold impl_reach_b4 at h
  refine k_sreg (r_gq [(0, .d false [.sl none (a0.map (eF eI))]), (3, .ov false [.sl (some 95) (x21.1.map (eO 4 eB))]), (14, .d false [.sl none (a0.map (eF eI))]), (15, .p (iV (a0.length : Int))), (16, .p (iV x21.2)), (17, .p (.bool (decide (x21.2 < (a0.length : Int)))))] [] trivial) ?_
  refine k_seq ?_
  refine kc (decide (x21.2 < (a0.length : Int))) (fun hc5_22 => ?_) (fun hc5_22 => ?_)
  ·replace h := ite_t hc5_22 h
   refine k_skip ?_
   refine q_n ?_
   refine k_join (J := fun (x : (List (List Bool))) => [(0, .d false [.sl none (a0.map (eF eI))]), (3, .ov false [.sl (some 95) (x.map (eO 4 eB))]), (14, .d false [.sl none (a0.map (eF eI))]), (15, .p (iV (a0.length : Int))), (16, .p (iV x21.2))]) (K := fun x => impl_reach_k5 x21 x = some o_x21) (fun x24 h => ?_) ?_
   ·unfold impl_reach_k5 at h
    refine k_reg (r_gq [(0, .d false [.sl none (a0.map (eF eI))]), (3, .ov false [.sl (some 95) (x24.map (eO 4 eB))]), (14, .d false [.sl none (a0.map (eF eI))]), (15, .p (iV (a0.length : Int))), (16, .p (iV (w64 (x21.2 + 1))))] [] trivial) ?_
    exact lqn (x24, (w64 (x21.2 + 1))) h
   ·refine k_block ?_
    replace h := bs h
    obtain ⟨v25, hv25, h⟩ := h
    refine k_sreg (r_gq [(0, .d false [.sl none (a0.map (eF eI))]), (3, .ov false [.sl (some 95) (x21.1.map (eO 4 eB))]), (4, .p (iV x21.2)), (5, .d false [.sl none (v25.map eI)]), (14, .d false [.sl none (a0.map (eF eI))]), (15, .p (iV (a0.length : Int))), (16, .p (iV x21.2))] [(1, {row := some [.sl none (v25.map eI)]})] (A2 (idxO_some hv25).1 (map_get (eF eI) (idxO_some hv25).2))) ?_
    refine k_sreg (r_gq [(0, .d false [.sl none (a0.map (eF eI))]), (3, .ov false [.sl (some 95) (x21.1.map (eO 4 eB))]), (4, .p (iV x21.2)), (14, .d false [.sl none (a0.map (eF eI))]), (15, .p (iV (a0.length : Int))), (16, .p (iV x21.2)), (21, .d false [.sl none (v25.map eI)]), (22, .p (iV (v25.length : Int))), (23, .p (iV 0))] [(1, {n := some v25.length})] (A1 (show (v25.map eI).length = v25.length from (List.length_map ..)))) ?_
    refine k_block ?_
    obtain ⟨y27, hl_x26, hk_x26⟩ := bs h
    clear h
    refine k_loop (J := fun (x : ((List (List Bool)) × Int)) => [(0, .d false [.sl none (a0.map (eF eI))]), (3, .ov false [.sl (some 95) (x.1.map (eO 4 eB))]), (4, .p (iV x21.2)), (14, .d false [.sl none (a0.map (eF eI))]), (15, .p (iV (a0.length : Int))), (16, .p (iV x21.2)), (21, .d false [.sl none (v25.map eI)]), (22, .p (iV (v25.length : Int))), (23, .p (iV x.2))]) hl_x26 (wk_of (by kernel_rfl) (by kernel_rfl)) (fun x26 o_x26 h hy_x26 => ?_)
    unfold impl_reach_b5 at h
    refine k_sreg (r_gq [(0, .d false [.sl none (a0.map (eF eI))]), (3, .ov false [.sl (some 95) (x26.1.map (eO 4 eB))]), (4, .p (iV x21.2)), (14, .d false [.sl none (a0.map (eF eI))]), (15, .p (iV (a0.length : Int))), (16, .p (iV x21.2)), (21, .d false [.sl none (v25.map eI)]), (22, .p (iV (v25.length : Int))), (23, .p (iV x26.2)), (24, .p (.bool (decide (x26.2 < (v25.length : Int)))))] [] trivial) ?_
    refine k_seq ?_
    refine kc (decide (x26.2 < (v25.length : Int))) (fun hc9_27 => ?_) (fun hc9_27 => ?_)
    ·replace h := ite_t hc9_27 h
     refine k_skip ?_
     refine q_n ?_
     refine k_seq ?_
     refine k_block ?_
     replace h := bs h
     obtain ⟨v29, hv29, h⟩ := h
     refine k_sreg (r_gq [(0, .d false [.sl none (a0.map (eF eI))]), (3, .ov false [.sl (some 95) (x26.1.map (eO 4 eB))]), (4, .p (iV x21.2)), (7, .p (iV v29)), (14, .d false [.sl none (a0.map (eF eI))]), (15, .p (iV (a0.length : Int))), (16, .p (iV x21.2)), (21, .d false [.sl none (v25.map eI)]), (22, .p (iV (v25.length : Int))), (23, .p (iV x26.2))] [(0, {row := some (eI v29)})] (A2 (idxO_some hv29).1 (map_get eI (idxO_some hv29).2))) ?_
     replace h := bs h
     obtain ⟨v30, hv30, h⟩ := h
     replace h := bs h
     obtain ⟨u31, hu31, h⟩ := h
     refine k_reg (r_gq [(0, .d false [.sl none (a0.map (eF eI))]), (3, .ov false [.sl (some 95) ((x26.1.set (Int.toNat x21.2) (v30 ++ [(decide (v29 > 0))])).map (eO 4 eB))]), (4, .p (iV x21.2)), (14, .d false [.sl none (a0.map (eF eI))]), (15, .p (iV (a0.length : Int))), (16, .p (iV x21.2)), (21, .d false [.sl none (v25.map eI)]), (22, .p (iV (v25.length : Int))), (23, .p (iV x26.2))] [(4, {row := some [.sl (some 4) (v30.map eB)]}), (5, {row := some [.sl (some 4) (v30.map eB)]}), (9, {take := some (32, [.sl (some 4) (v30.map eB)]), fix := some (36, .ov false [.sl (some 4) ((v30 ++ [(decide (v29 > 0))]).map eB)])}), (10, {row := some [.dead]}), (11, {row := some [.dead], fix := some (3, .ov false [.sl (some 95) ((x26.1.set (Int.toNat x21.2) (v30 ++ [(decide (v29 > 0))])).map (eO 4 eB))])})] (B6 (idxO_some hv30).1 (map_get (eO 4 eB) (idxO_some hv30).2) (show frR [.sl (some 4) (v30.map eB)] = false from rfl) (show getRow [[.sl (some 95) (x26.1.map (eO 4 eB))]] [(0, 0), ((Int.toNat x21.2), 0)] = some [.sl (some 4) (v30.map eB)] from ((gr0 rfl).trans (gre (map_get (eO 4 eB) (idxO_some hv30).2)))) (show getRow [[.sl (some 95) (x26.1.map (eO 4 eB))]] [(0, 0), ((Int.toNat x21.2), 0)] = some [.sl (some 4) (v30.map eB)] from ((gr0 rfl).trans (gre (map_get (eO 4 eB) (idxO_some hv30).2)))) (show List.length ((v30.map eB) : List (List C)) + List.length ((([(decide (v29 > 0))]).map eB) : List (List C)) ≤ 1099511627776 from (by have hg := (guardO_some hu31); simpa using hg)) (A6 (show ∀ row ∈ ((([(decide (v29 > 0))]).map eB) : List (List C)), row.length = 1 from (rows_len fun _ => rfl)) (show (SV.ov false [.sl (some 4) ((v30.map eB) ++ (([(decide (v29 > 0))]).map eB))] : SV) = .ov false [.sl (some 4) ((v30 ++ [(decide (v29 > 0))]).map eB)] from (congrArg (fun z => SV.ov false [.sl (some 4) z]) (List.map_append ..).symm)) (idxO_some hv30).1 (show (setL (x26.1.map (eO 4 eB)) [((Int.toNat x21.2), 0)] [.dead])[(Int.toNat x21.2)]? = some [.dead] from (get_dead1 (F := (eO 4 eB)) (idxO_some hv30).2 rfl)) (show getRow [[.sl (some 95) (setL (x26.1.map (eO 4 eB)) [((Int.toNat x21.2), 0)] [.dead])]] [(0, 0), ((Int.toNat x21.2), 0)] = some [.dead] from ((gr0 rfl).trans (get_dead (F := (eO 4 eB)) (idxO_some hv30).2 rfl))) (show (SV.ov false [.sl (some 95) (setL (setL (x26.1.map (eO 4 eB)) [((Int.toNat x21.2), 0)] [.dead]) [((Int.toNat x21.2), 0)] [.sl (some 4) ((v30 ++ [(decide (v29 > 0))]).map eB)])] : SV) = .ov false [.sl (some 95) ((x26.1.set (Int.toNat x21.2) (v30 ++ [(decide (v29 > 0))])).map (eO 4 eB))] from (congrArg (fun z => SV.ov false [.sl (some 95) z]) ((set_dead _ _ _).trans (set1 (f := (eO 4 eB)) (y := (v30 ++ [(decide (v29 > 0))])) (idxO_some hv30).2 rfl))))))) ?_
     refine b_n ?_
     refine q_n ?_
     refine k_reg (r_gq [(0, .d false [.sl none (a0.map (eF eI))]), (3, .ov false [.sl (some 95) ((x26.1.set (Int.toNat x21.2) (v30 ++ [(decide (v29 > 0))])).map (eO 4 eB))]), (4, .p (iV x21.2)), (14, .d false [.sl none (a0.map (eF eI))]), (15, .p (iV (a0.length : Int))), (16, .p (iV x21.2)), (21, .d false [.sl none (v25.map eI)]), (22, .p (iV (v25.length : Int))), (23, .p (iV (w64 (x26.2 + 1))))] [] trivial) ?_
     exact lqn ((x26.1.set (Int.toNat x21.2) (v30 ++ [(decide (v29 > 0))])), (w64 (x26.2 + 1))) h
    ·replace h := ite_f hc9_27 h
     refine k_exit ?_
     refine q_x ?_
     refine lq_x ?_
     refine b_x ?_
     refine b_n ?_
     have hyy := hy_x26 _ (oi h).symm
     subst hyy
     have h := hk_x26
     refine q_n ?_
     exact jx x26.1 h
  ·replace h := ite_f hc5_22 h
   refine k_exit ?_
   refine q_x ?_
   refine lq_x ?_
   refine b_x ?_
   have hyy := hy_x21 _ (oi h).symm
   subst hyy
   have h := hk_x21
   refine q_n ?_
   exact jx x21.1 h
theorem wk_impl_IsNilpotent {a0 : (List (List Int))}  {r : (Bool × Bool)} (h : impl_IsNilpotent a0 = some r) : Meets Try.prog 53 [.d false [.sl none (a0.map (eF eI))]] { vals := [.p (.bool r.1), .p (.bool r.2)] } := by
 refine mo Try.func53 [(0, .d false [.sl none (a0.map (eF eI))])] ?_
 unfold impl_IsNilpotent at h
 refine k_sreg (r_gq [(0, .d false [.sl none (a0.map (eF eI))])] [] trivial) ?_
 refine k_seq ?_
 replace h := bs h
 obtain ⟨v1, hv1, h⟩ := h
 refine k_sreg (r_gq [(0, .d false [.sl none (a0.map (eF eI))]), (8, .p (.bool (!v1)))] [(1, {call := some (none, [.p (.bool v1)], true)})] (A1 (wk_impl_isGraph hv1))) ?_
 refine kc (!v1) (fun hc2_1 => ?_) (fun hc2_1 => ?_)
 ·replace h := ite_t hc2_1 h
  refine k_sreg (r_gq [(2, .p (.bool false)), (3, .p (.bool false))] [] trivial) ?_
  refine k_ret ?_
  refine q_r ?_
  obtain rfl := oi h
  exact er [(.p (.bool false), 2), (.p (.bool false), 3)]
 ·replace h := ite_f hc2_1 h
  refine k_skip ?_
  refine q_n ?_
  refine k_join (J := fun (x : Unit) => []) (K := fun x => impl_IsNilpotent_k1 x = some r) (fun x3 h => ?_) ?_
  ·unfold impl_IsNilpotent_k1 at h
   refine k_sreg (r_gq [(2, .p (.bool true)), (3, .p (.bool true))] [] trivial) ?_
   refine k_ret ?_
   obtain rfl := oi h
   exact er [(.p (.bool true), 2), (.p (.bool true), 3)]
  ·replace h := bs h
   obtain ⟨v4, hv4, h⟩ := h
   refine k_sreg (r_gq [(10, .ov false [.sl (some 95) (v4.map (eO 4 eB))]), (11, .p (iV (v4.length : Int))), (12, .p (iV 0))] [(1, {call := some (none, [.ov false [.sl (some 95) (v4.map (eO 4 eB))]], true)}), (2, {n := some v4.length})] (A3 (wk_impl_reach hv4) (show List.all [.ov false [.sl (some 95) (v4.map (eO 4 eB))]] simpleR = true from (sa_o (wnR1 (wnL_enc (wn_O wn_B)) rfl) rfl)) (show (v4.map (eO 4 eB)).length = v4.length from (List.length_map ..)))) ?_
   refine k_block ?_
   obtain ⟨y6, hl_x5, hk_x5⟩ := bs h
   clear h
   refine k_loop (J := fun (x : Int) => [(10, .ov false [.sl (some 95) (v4.map (eO 4 eB))]), (11, .p (iV (v4.length : Int))), (12, .p (iV x))]) hl_x5 (wk_of (by kernel_rfl) (by kernel_rfl)) (fun x5 o_x5 h hy_x5 => ?_)
   unfold impl_IsNilpotent_b1 at h
   refine k_sreg (r_gq [(10, .ov false [.sl (some 95) (v4.map (eO 4 eB))]), (11, .p (iV (v4.length : Int))), (12, .p (iV x5)), (13, .p (.bool (decide (x5 < (v4.length : Int)))))] [] trivial) ?_
   refine k_seq ?_
   refine kc (decide (x5 < (v4.length : Int))) (fun hc5_6 => ?_) (fun hc5_6 => ?_)
   ·replace h := ite_t hc5_6 h
    refine k_skip ?_
    refine q_n ?_
    refine k_seq ?_
    refine k_block ?_
    replace h := bs h
    obtain ⟨v8, hv8, h⟩ := h
    refine k_sreg (r_gq [(4, .p (iV x5)), (5, .ref 10 [(0, 0), ((Int.toNat x5), 0)] none), (10, .ov false [.sl (some 95) (v4.map (eO 4 eB))]), (11, .p (iV (v4.length : Int))), (12, .p (iV x5))] [(1, {row := some [.sl (some 4) (v8.map eB)]}), (2, {row := some [.sl (some 4) (v8.map eB)]})] (A4 (idxO_some hv8).1 (map_get (eO 4 eB) (idxO_some hv8).2) (show frR [.sl (some 4) (v8.map eB)] = false from rfl) (show getRow [[.sl (some 95) (v4.map (eO 4 eB))]] [(0, 0), ((Int.toNat x5), 0)] = some [.sl (some 4) (v8.map eB)] from ((gr0 rfl).trans (gre (map_get (eO 4 eB) (idxO_some hv8).2)))))) ?_
    replace h := bs h
    obtain ⟨v9, hv9, h⟩ := h
    refine k_sreg (r_gq [(10, .ov false [.sl (some 95) (v4.map (eO 4 eB))]), (11, .p (iV (v4.length : Int))), (12, .p (iV x5)), (20, .p (.bool v9))] [(2, {deep := some [.sl (some 4) (v8.map eB)], row := some [.raw (.bool v9)]}), (3, {row := some [.raw (.bool v9)]})] (A4 (idxO_some hv9).1 (map_get eB (idxO_some hv9).2) (show getRow [[.sl (some 95) (v4.map (eO 4 eB))]] [(0, 0), ((Int.toNat x5), 0)] = some [.sl (some 4) (v8.map eB)] from ((gr0 rfl).trans (gre (map_get (eO 4 eB) (idxO_some hv8).2)))) (show getRow [[.sl (some 95) (v4.map (eO 4 eB))]] [(0, 0), ((Int.toNat x5), 0), ((Int.toNat x5), 0)] = some [.raw (.bool v9)] from ((gr0 rfl).trans ((grs (map_get (eO 4 eB) (idxO_some hv8).2) rfl).trans (gre (map_get eB (idxO_some hv9).2))))))) ?_
    refine kc v9 (fun hc6_9 => ?_) (fun hc6_9 => ?_)
    ·replace h := ite_t hc6_9 h
     refine k_sreg (r_gq [(2, .p (.bool false)), (3, .p (.bool true))] [] trivial) ?_
     refine k_ret ?_
     refine b_r ?_
     refine q_r ?_
     refine lq_r ?_
     refine b_r ?_
     refine q_r ?_
     have hyy := hy_x5 _ (oi h).symm
     subst hyy
     have h := hk_x5
     dsimp only [Sum.elim] at h
     obtain rfl := oi h
     exact er [(.p (.bool false), 2), (.p (.bool true), 3)]
    ·replace h := ite_f hc6_9 h
     refine k_skip ?_
     refine b_n ?_
     refine q_n ?_
     refine k_reg (r_gq [(10, .ov false [.sl (some 95) (v4.map (eO 4 eB))]), (11, .p (iV (v4.length : Int))), (12, .p (iV (w64 (x5 + 1))))] [] trivial) ?_
     exact lqn (w64 (x5 + 1)) h
   ·replace h := ite_f hc5_6 h
    refine k_exit ?_
    refine q_x ?_
    refine lq_x ?_
    refine b_x ?_
    have hyy := hy_x5 _ (oi h).symm
    subst hyy
    have h := hk_x5
    dsimp only [Sum.elim] at h
    refine q_n ?_
    exact jx () h
theorem wk_spec_l1Least {a0 : Int} {a1 : Int}  {r : Int} (h : spec_l1Least a0 a1 = some r) : Meets Try.prog 154 [wI a0, wI a1] { vals := [.p (iV r)] } := by
 refine mo Try.func154 [(0, .p (iV a0)), (1, .p (iV a1))] ?_
 unfold spec_l1Least at h
 refine k_sreg (r_gq [(0, .p (iV a0)), (1, .p (iV a1))] [] trivial) ?_
 refine k_seq ?_
 refine k_sreg (r_gq [(0, .p (iV a0)), (1, .p (iV a1)), (7, .p (.bool (decide (a0 < a1))))] [] trivial) ?_
 refine kc (decide (a0 < a1)) (fun hc2_0 => ?_) (fun hc2_0 => ?_)
 ·replace h := ite_t hc2_0 h
  refine k_sreg (r_gq [(4, .p (iV a0))] [] trivial) ?_
  refine k_ret ?_
  refine q_r ?_
  obtain rfl := oi h
  exact er [(.p (iV a0), 4)]
 ·replace h := ite_f hc2_0 h
  refine k_skip ?_
  refine q_n ?_
  refine k_sreg (r_gq [(4, .p (iV a1))] [] trivial) ?_
  refine k_ret ?_
  obtain rfl := oi h
  exact er [(.p (iV a1), 4)]
theorem wk_spec_grCap {a0 : Int}  {r : Int} (h : spec_grCap a0 = some r) : Meets Try.prog 131 [wI a0] { vals := [.p (iV r)] } := by
 refine mo Try.func131 [(0, .p (iV a0))] ?_
 unfold spec_grCap at h
 refine k_sreg (r_gq [(0, .p (iV a0))] [] trivial) ?_
 replace h := bs h
 obtain ⟨v1, hv1, h⟩ := h
 refine k_sreg (r_gq [(2, .p (iV v1))] [(1, {call := some (none, [.p (iV v1)], true)})] (A1 (wk_spec_l1Least hv1))) ?_
 refine k_ret ?_
 obtain rfl := oi h
 exact er [(.p (iV v1), 2)]
theorem wk_spec_grPower {a0 : (List (List Int))} {a1 : Int}  {r : (List (List Int))} (h : spec_grPower a0 a1 = some r) : Meets Try.prog 130 [.d false [.sl none (a0.map (eF eI))], wI a1] { vals := [.ov false [.sl (some 26) (r.map (eO 3 eI))]] } := by
 refine mo Try.func130 [(0, .d false [.sl none (a0.map (eF eI))]), (1, .p (iV a1))] ?_
 unfold spec_grPower at h
 refine k_sreg (r_gq [(0, .d false [.sl none (a0.map (eF eI))]), (1, .p (iV a1))] [] trivial) ?_
 refine k_sreg (r_gq [(0, .d false [.sl none (a0.map (eF eI))]), (1, .p (iV a1)), (5, .ov false [.sl (some 26) []])] [] trivial) ?_
 refine k_join (J := fun (x : (List (List Int))) => [(0, .d false [.sl none (a0.map (eF eI))]), (1, .p (iV a1)), (5, .ov false [.sl (some 26) (x.map (eO 3 eI))])]) (K := fun x => spec_grPower_k1 a0 a1 x = some r) (fun x1 h => ?_) ?_
 ·unfold spec_grPower_k1 at h
  refine k_join (J := fun (x : (List (List Int))) => [(5, .ov false [.sl (some 26) (x.map (eO 3 eI))])]) (K := fun x => spec_grPower_k2 x = some r) (fun x2 h => ?_) ?_
  ·unfold spec_grPower_k2 at h
   refine k_sreg (r_gq [(4, .ov false [.sl (some 26) (x2.map (eO 3 eI))])] [] trivial) ?_
   refine k_ret ?_
   obtain rfl := oi h
   exact er [(.ov false [.sl (some 26) (x2.map (eO 3 eI))], 4)]
  ·refine k_block ?_
   obtain ⟨y4, hl_x3, hk_x3⟩ := bs h
   clear h
   refine k_loop (J := fun (x : (Int × (List (List Int)))) => [(0, .d false [.sl none (a0.map (eF eI))]), (1, .p (iV x.1)), (5, .ov false [.sl (some 26) (x.2.map (eO 3 eI))])]) hl_x3 (wk_of (by kernel_rfl) (by kernel_rfl)) (fun x3 o_x3 h hy_x3 => ?_)
   unfold spec_grPower_b1 at h
   refine k_seq ?_
   refine k_sreg (r_gq [(0, .d false [.sl none (a0.map (eF eI))]), (1, .p (iV x3.1)), (5, .ov false [.sl (some 26) (x3.2.map (eO 3 eI))]), (31, .p (.bool (decide (x3.1 > 0))))] [] trivial) ?_
   refine kc (decide (x3.1 > 0)) (fun hc5_4 => ?_) (fun hc5_4 => ?_)
   ·replace h := ite_t hc5_4 h
    refine k_skip ?_
    refine q_n ?_
    refine k_join (J := fun (x : (List (List Int))) => [(0, .d false [.sl none (a0.map (eF eI))]), (1, .p (iV x3.1)), (5, .ov false [.sl (some 26) (x.map (eO 3 eI))])]) (K := fun x => spec_grPower_k3 x3 x = some o_x3) (fun x6 h => ?_) ?_
    ·unfold spec_grPower_k3 at h
     refine k_reg (r_gq [(0, .d false [.sl none (a0.map (eF eI))]), (1, .p (iV (w64 (x3.1 - 1)))), (5, .ov false [.sl (some 26) (x6.map (eO 3 eI))])] [] trivial) ?_
     exact lqn ((w64 (x3.1 - 1)), x6) h
    ·refine k_block ?_
     refine k_sreg (r_gq [(0, .d false [.sl none (a0.map (eF eI))]), (1, .p (iV x3.1)), (5, .ov false [.sl (some 26) (x3.2.map (eO 3 eI))]), (7, .ov false [.sl (some 26) []])] [] trivial) ?_
     refine k_join (J := fun (x : (List (List Int))) => [(0, .d false [.sl none (a0.map (eF eI))]), (1, .p (iV x3.1)), (7, .ov false [.sl (some 26) (x.map (eO 3 eI))])]) (K := fun x => spec_grPower_k4 x3 x = some o_x3) (fun x7 h => ?_) ?_
     ·unfold spec_grPower_k4 at h
      refine k_reg (r_gq [(0, .d false [.sl none (a0.map (eF eI))]), (1, .p (iV x3.1)), (5, .ov false [.sl (some 26) (x7.map (eO 3 eI))])] [] trivial) ?_
      refine b_n ?_
      refine q_n ?_
      exact jx x7 h
     ·refine k_sreg (r_gq [(0, .d false [.sl none (a0.map (eF eI))]), (1, .p (iV x3.1)), (5, .ov false [.sl (some 26) (x3.2.map (eO 3 eI))]), (7, .ov false [.sl (some 26) []]), (35, .p (iV (a0.length : Int))), (36, .p (iV 0))] [(1, {n := some a0.length})] (A1 (show (a0.map (eF eI)).length = a0.length from (List.length_map ..)))) ?_
      refine k_block ?_
      obtain ⟨y9, hl_x8, hk_x8⟩ := bs h
      clear h
      refine k_loop (J := fun (x : ((List (List Int)) × Int)) => [(0, .d false [.sl none (a0.map (eF eI))]), (1, .p (iV x3.1)), (5, .ov false [.sl (some 26) (x3.2.map (eO 3 eI))]), (7, .ov false [.sl (some 26) (x.1.map (eO 3 eI))]), (35, .p (iV (a0.length : Int))), (36, .p (iV x.2))]) hl_x8 (wk_of (by kernel_rfl) (by kernel_rfl)) (fun x8 o_x8 h hy_x8 => ?_)
      unfold spec_grPower_b2 at h
      refine k_sreg (r_gq [(0, .d false [.sl none (a0.map (eF eI))]), (1, .p (iV x3.1)), (5, .ov false [.sl (some 26) (x3.2.map (eO 3 eI))]), (7, .ov false [.sl (some 26) (x8.1.map (eO 3 eI))]), (35, .p (iV (a0.length : Int))), (36, .p (iV x8.2)), (37, .p (.bool (decide (x8.2 < (a0.length : Int)))))] [] trivial) ?_
      refine k_seq ?_
      refine kc (decide (x8.2 < (a0.length : Int))) (fun hc10_9 => ?_) (fun hc10_9 => ?_)
      ·replace h := ite_t hc10_9 h
       refine k_skip ?_
       refine q_n ?_
       refine k_join (J := fun (x : (List (List Int))) => [(0, .d false [.sl none (a0.map (eF eI))]), (1, .p (iV x3.1)), (5, .ov false [.sl (some 26) (x3.2.map (eO 3 eI))]), (7, .ov false [.sl (some 26) (x.map (eO 3 eI))]), (35, .p (iV (a0.length : Int))), (36, .p (iV x8.2))]) (K := fun x => spec_grPower_k5 x8 x = some o_x8) (fun x11 h => ?_) ?_
       ·unfold spec_grPower_k5 at h
        refine k_reg (r_gq [(0, .d false [.sl none (a0.map (eF eI))]), (1, .p (iV x3.1)), (5, .ov false [.sl (some 26) (x3.2.map (eO 3 eI))]), (7, .ov false [.sl (some 26) (x11.map (eO 3 eI))]), (35, .p (iV (a0.length : Int))), (36, .p (iV (w64 (x8.2 + 1))))] [] trivial) ?_
        exact lqn (x11, (w64 (x8.2 + 1))) h
       ·refine k_block ?_
        refine k_sreg (r_gq [(0, .d false [.sl none (a0.map (eF eI))]), (1, .p (iV x3.1)), (5, .ov false [.sl (some 26) (x3.2.map (eO 3 eI))]), (7, .ov false [.sl (some 26) (x8.1.map (eO 3 eI))]), (8, .p (iV x8.2)), (35, .p (iV (a0.length : Int))), (36, .p (iV x8.2))] [] trivial) ?_
        replace h := bs h
        obtain ⟨u12, hu12, h⟩ := h
        refine k_sreg (r_gq [(0, .d false [.sl none (a0.map (eF eI))]), (1, .p (iV x3.1)), (5, .ov false [.sl (some 26) (x3.2.map (eO 3 eI))]), (7, .ov false [.sl (some 26) (x8.1.map (eO 3 eI))]), (8, .p (iV x8.2)), (9, .ov false [.sl (some 3) ((List.replicate (Int.toNat (a0.length : Int)) (0 : Int)).map eI)]), (35, .p (iV (a0.length : Int))), (36, .p (iV x8.2))] [(1, {n := some a0.length}), (2, {fix := some (41, .ov false [.sl (some 3) ((List.replicate (Int.toNat (a0.length : Int)) (0 : Int)).map eI)])})] (A5 (show (a0.map (eF eI)).length = a0.length from (List.length_map ..)) (show (a0.length : Int) = (a0.length : Int) from rfl) (guardO_some hu12).1 (guardO_some hu12).2 (show (SV.ov false [.sl (some 3) (List.replicate (Int.toNat (a0.length : Int)) [rI 0])] : SV) = .ov false [.sl (some 3) ((List.replicate (Int.toNat (a0.length : Int)) (0 : Int)).map eI)] from (congrArg (fun z => SV.ov false [.sl (some 3) z]) (rep_fix eI (0 : Int)))))) ?_
        refine k_join (J := fun (x : (List Int)) => [(0, .d false [.sl none (a0.map (eF eI))]), (1, .p (iV x3.1)), (5, .ov false [.sl (some 26) (x3.2.map (eO 3 eI))]), (7, .ov false [.sl (some 26) (x8.1.map (eO 3 eI))]), (9, .ov false [.sl (some 3) (x.map eI)]), (35, .p (iV (a0.length : Int))), (36, .p (iV x8.2))]) (K := fun x => spec_grPower_k6 x8 x = some o_x8) (fun x13 h => ?_) ?_
        ·unfold spec_grPower_k6 at h
         replace h := bs h
         obtain ⟨u14, hu14, h⟩ := h
         refine k_reg (r_gq [(0, .d false [.sl none (a0.map (eF eI))]), (1, .p (iV x3.1)), (5, .ov false [.sl (some 26) (x3.2.map (eO 3 eI))]), (7, .ov false [.sl (some 26) ((x8.1 ++ [x13]).map (eO 3 eI))]), (35, .p (iV (a0.length : Int))), (36, .p (iV x8.2))] [(3, {fix := some (81, .ov false [.sl (some 26) ((x8.1 ++ [x13]).map (eO 3 eI))])})] (A3 (show List.length ((x8.1.map (eO 3 eI)) : List (List C)) + List.length ((([x13]).map (eO 3 eI)) : List (List C)) ≤ 1099511627776 from (by have hg := (guardO_some hu14); simpa using hg)) (show ∀ row ∈ ((([x13]).map (eO 3 eI)) : List (List C)), row.length = 1 from (rows_len fun _ => rfl)) (show (SV.ov false [.sl (some 26) ((x8.1.map (eO 3 eI)) ++ (([x13]).map (eO 3 eI)))] : SV) = .ov false [.sl (some 26) ((x8.1 ++ [x13]).map (eO 3 eI))] from (congrArg (fun z => SV.ov false [.sl (some 26) z]) (List.map_append ..).symm)))) ?_
         refine b_n ?_
         refine q_n ?_
         exact jx (x8.1 ++ [x13]) h
        ·refine k_sreg (r_gq [(0, .d false [.sl none (a0.map (eF eI))]), (1, .p (iV x3.1)), (5, .ov false [.sl (some 26) (x3.2.map (eO 3 eI))]), (7, .ov false [.sl (some 26) (x8.1.map (eO 3 eI))]), (8, .p (iV x8.2)), (9, .ov false [.sl (some 3) ((List.replicate (Int.toNat (a0.length : Int)) (0 : Int)).map eI)]), (35, .p (iV (a0.length : Int))), (36, .p (iV x8.2)), (43, .p (iV (a0.length : Int))), (44, .p (iV 0))] [(1, {n := some a0.length})] (A1 (show (a0.map (eF eI)).length = a0.length from (List.length_map ..)))) ?_
         refine k_block ?_
         obtain ⟨y16, hl_x15, hk_x15⟩ := bs h
         clear h
         refine k_loop (J := fun (x : ((List Int) × Int)) => [(0, .d false [.sl none (a0.map (eF eI))]), (1, .p (iV x3.1)), (5, .ov false [.sl (some 26) (x3.2.map (eO 3 eI))]), (7, .ov false [.sl (some 26) (x8.1.map (eO 3 eI))]), (8, .p (iV x8.2)), (9, .ov false [.sl (some 3) (x.1.map eI)]), (35, .p (iV (a0.length : Int))), (36, .p (iV x8.2)), (43, .p (iV (a0.length : Int))), (44, .p (iV x.2))]) hl_x15 (wk_of (by kernel_rfl) (by kernel_rfl)) (fun x15 o_x15 h hy_x15 => ?_)
         unfold spec_grPower_b3 at h
         refine k_sreg (r_gq [(0, .d false [.sl none (a0.map (eF eI))]), (1, .p (iV x3.1)), (5, .ov false [.sl (some 26) (x3.2.map (eO 3 eI))]), (7, .ov false [.sl (some 26) (x8.1.map (eO 3 eI))]), (8, .p (iV x8.2)), (9, .ov false [.sl (some 3) (x15.1.map eI)]), (35, .p (iV (a0.length : Int))), (36, .p (iV x8.2)), (43, .p (iV (a0.length : Int))), (44, .p (iV x15.2)), (45, .p (.bool (decide (x15.2 < (a0.length : Int)))))] [] trivial) ?_
         refine k_seq ?_
         refine kc (decide (x15.2 < (a0.length : Int))) (fun hc15_16 => ?_) (fun hc15_16 => ?_)
         ·replace h := ite_t hc15_16 h
          refine k_skip ?_
          refine q_n ?_
          refine k_join (J := fun (x : (List Int)) => [(0, .d false [.sl none (a0.map (eF eI))]), (1, .p (iV x3.1)), (5, .ov false [.sl (some 26) (x3.2.map (eO 3 eI))]), (7, .ov false [.sl (some 26) (x8.1.map (eO 3 eI))]), (8, .p (iV x8.2)), (9, .ov false [.sl (some 3) (x.map eI)]), (35, .p (iV (a0.length : Int))), (36, .p (iV x8.2)), (43, .p (iV (a0.length : Int))), (44, .p (iV x15.2))]) (K := fun x => spec_grPower_k7 x15 x = some o_x15) (fun x18 h => ?_) ?_
          ·unfold spec_grPower_k7 at h
           refine k_reg (r_gq [(0, .d false [.sl none (a0.map (eF eI))]), (1, .p (iV x3.1)), (5, .ov false [.sl (some 26) (x3.2.map (eO 3 eI))]), (7, .ov false [.sl (some 26) (x8.1.map (eO 3 eI))]), (8, .p (iV x8.2)), (9, .ov false [.sl (some 3) (x18.map eI)]), (35, .p (iV (a0.length : Int))), (36, .p (iV x8.2)), (43, .p (iV (a0.length : Int))), (44, .p (iV (w64 (x15.2 + 1))))] [] trivial) ?_
           exact lqn (x18, (w64 (x15.2 + 1))) h
          ·refine k_block ?_
           refine k_sreg (r_gq [(0, .d false [.sl none (a0.map (eF eI))]), (1, .p (iV x3.1)), (5, .ov false [.sl (some 26) (x3.2.map (eO 3 eI))]), (7, .ov false [.sl (some 26) (x8.1.map (eO 3 eI))]), (8, .p (iV x8.2)), (9, .ov false [.sl (some 3) (x15.1.map eI)]), (10, .p (iV x15.2)), (35, .p (iV (a0.length : Int))), (36, .p (iV x8.2)), (43, .p (iV (a0.length : Int))), (44, .p (iV x15.2))] [] trivial) ?_
           refine k_sreg (r_gq [(0, .d false [.sl none (a0.map (eF eI))]), (1, .p (iV x3.1)), (5, .ov false [.sl (some 26) (x3.2.map (eO 3 eI))]), (7, .ov false [.sl (some 26) (x8.1.map (eO 3 eI))]), (8, .p (iV x8.2)), (9, .ov false [.sl (some 3) (x15.1.map eI)]), (10, .p (iV x15.2)), (35, .p (iV (a0.length : Int))), (36, .p (iV x8.2)), (43, .p (iV (a0.length : Int))), (44, .p (iV x15.2)), (48, .p (iV (a0.length : Int))), (49, .p (iV 0))] [(1, {n := some a0.length})] (A1 (show (a0.map (eF eI)).length = a0.length from (List.length_map ..)))) ?_
           refine k_block ?_
           obtain ⟨y20, hl_x19, hk_x19⟩ := bs h
           clear h
           refine k_loop (J := fun (x : ((List Int) × Int)) => [(0, .d false [.sl none (a0.map (eF eI))]), (1, .p (iV x3.1)), (5, .ov false [.sl (some 26) (x3.2.map (eO 3 eI))]), (7, .ov false [.sl (some 26) (x8.1.map (eO 3 eI))]), (8, .p (iV x8.2)), (9, .ov false [.sl (some 3) (x.1.map eI)]), (10, .p (iV x15.2)), (35, .p (iV (a0.length : Int))), (36, .p (iV x8.2)), (43, .p (iV (a0.length : Int))), (44, .p (iV x15.2)), (48, .p (iV (a0.length : Int))), (49, .p (iV x.2))]) hl_x19 (wk_of (by kernel_rfl) (by kernel_rfl)) (fun x19 o_x19 h hy_x19 => ?_)
           unfold spec_grPower_b4 at h
           refine k_sreg (r_gq [(0, .d false [.sl none (a0.map (eF eI))]), (1, .p (iV x3.1)), (5, .ov false [.sl (some 26) (x3.2.map (eO 3 eI))]), (7, .ov false [.sl (some 26) (x8.1.map (eO 3 eI))]), (8, .p (iV x8.2)), (9, .ov false [.sl (some 3) (x19.1.map eI)]), (10, .p (iV x15.2)), (35, .p (iV (a0.length : Int))), (36, .p (iV x8.2)), (43, .p (iV (a0.length : Int))), (44, .p (iV x15.2)), (48, .p (iV (a0.length : Int))), (49, .p (iV x19.2)), (50, .p (.bool (decide (x19.2 < (a0.length : Int)))))] [] trivial) ?_
           refine k_seq ?_
           refine kc (decide (x19.2 < (a0.length : Int))) (fun hc19_20 => ?_) (fun hc19_20 => ?_)
           ·replace h := ite_t hc19_20 h
            refine k_skip ?_
            refine q_n ?_
            refine k_seq ?_
            refine k_block ?_
            refine k_sreg (r_gq [(0, .d false [.sl none (a0.map (eF eI))]), (1, .p (iV x3.1)), (5, .ov false [.sl (some 26) (x3.2.map (eO 3 eI))]), (7, .ov false [.sl (some 26) (x8.1.map (eO 3 eI))]), (8, .p (iV x8.2)), (9, .ov false [.sl (some 3) (x19.1.map eI)]), (10, .p (iV x15.2)), (11, .p (iV x19.2)), (35, .p (iV (a0.length : Int))), (36, .p (iV x8.2)), (43, .p (iV (a0.length : Int))), (44, .p (iV x15.2)), (48, .p (iV (a0.length : Int))), (49, .p (iV x19.2))] [] trivial) ?_
            replace h := bs h
            obtain ⟨v22, hv22, h⟩ := h
            replace h := bs h
            obtain ⟨v23, hv23, h⟩ := h
            replace h := bs h
            obtain ⟨v24, hv24, h⟩ := h
            replace h := bs h
            obtain ⟨v25, hv25, h⟩ := h
            replace h := bs h
            obtain ⟨v26, hv26, h⟩ := h
            replace h := bs h
            obtain ⟨v27, hv27, h⟩ := h
            refine k_reg (r_dq Try_mixed 23 [] [(0, .d false [.sl none (a0.map (eF eI))]), (1, .p (iV x3.1)), (5, .ov false [.sl (some 26) (x3.2.map (eO 3 eI))]), (7, .ov false [.sl (some 26) (x8.1.map (eO 3 eI))]), (8, .p (iV x8.2)), (9, .ov false [.sl (some 3) ((x19.1.set (Int.toNat x15.2) v27).map eI)]), (10, .p (iV x15.2)), (35, .p (iV (a0.length : Int))), (36, .p (iV x8.2)), (43, .p (iV (a0.length : Int))), (44, .p (iV x15.2)), (48, .p (iV (a0.length : Int))), (49, .p (iV x19.2))] [(4, {row := some (eI v22)}), (5, {row := some (eI v22)}), (8, {row := some [.sl (some 3) (v23.map eI)]}), (9, {row := some [.sl (some 3) (v23.map eI)]}), (11, {deep := some [.sl (some 3) (v23.map eI)], row := some (eI v24)}), (12, {row := some (eI v24)}), (15, {row := some [.sl none (v25.map eI)]}), (18, {row := some (eI v26)}), (22, {call := some (none, [.p (iV v27)], true)}), (23, {row := some (eI v22)}), (24, {row := some (eI v22), fix := some (9, .ov false [.sl (some 3) ((x19.1.set (Int.toNat x15.2) v27).map eI)])})] (B6 (idxO_some hv22).1 (map_get eI (idxO_some hv22).2) (show getRow [[.sl (some 3) (x19.1.map eI)]] [(0, 0), ((Int.toNat x15.2), 0)] = some (eI v22) from ((gr0 rfl).trans (gre (map_get eI (idxO_some hv22).2)))) (idxO_some hv23).1 (map_get (eO 3 eI) (idxO_some hv23).2) (show frR [.sl (some 3) (v23.map eI)] = false from rfl) (B6 (show getRow [[.sl (some 26) (x3.2.map (eO 3 eI))]] [(0, 0), ((Int.toNat x8.2), 0)] = some [.sl (some 3) (v23.map eI)] from ((gr0 rfl).trans (gre (map_get (eO 3 eI) (idxO_some hv23).2)))) (idxO_some hv24).1 (map_get eI (idxO_some hv24).2) (show getRow [[.sl (some 26) (x3.2.map (eO 3 eI))]] [(0, 0), ((Int.toNat x8.2), 0)] = some [.sl (some 3) (v23.map eI)] from ((gr0 rfl).trans (gre (map_get (eO 3 eI) (idxO_some hv23).2)))) (show getRow [[.sl (some 26) (x3.2.map (eO 3 eI))]] [(0, 0), ((Int.toNat x8.2), 0), ((Int.toNat x19.2), 0)] = some (eI v24) from ((gr0 rfl).trans ((grs (map_get (eO 3 eI) (idxO_some hv23).2) rfl).trans (gre (map_get eI (idxO_some hv24).2))))) (idxO_some hv25).1 (B6 (map_get (eF eI) (idxO_some hv25).2) (idxO_some hv26).1 (map_get eI (idxO_some hv26).2) (wk_spec_grCap hv27) (idxO_some hv22).1 (map_get eI (idxO_some hv22).2) (A2 (show getRow [[.sl (some 3) (x19.1.map eI)]] [(0, 0), ((Int.toNat x15.2), 0)] = some (eI v22) from ((gr0 rfl).trans (gre (map_get eI (idxO_some hv22).2)))) (show (SV.ov false [.sl (some 3) (setL (x19.1.map eI) [((Int.toNat x15.2), 0)] (eI v27))] : SV) = .ov false [.sl (some 3) ((x19.1.set (Int.toNat x15.2) v27).map eI)] from (congrArg (fun z => SV.ov false [.sl (some 3) z]) (set1 (f := eI) (y := v27) (idxO_some hv22).2 rfl)))))))) ?_
            refine b_n ?_
            refine q_n ?_
            refine k_reg (r_gq [(0, .d false [.sl none (a0.map (eF eI))]), (1, .p (iV x3.1)), (5, .ov false [.sl (some 26) (x3.2.map (eO 3 eI))]), (7, .ov false [.sl (some 26) (x8.1.map (eO 3 eI))]), (8, .p (iV x8.2)), (9, .ov false [.sl (some 3) ((x19.1.set (Int.toNat x15.2) v27).map eI)]), (10, .p (iV x15.2)), (35, .p (iV (a0.length : Int))), (36, .p (iV x8.2)), (43, .p (iV (a0.length : Int))), (44, .p (iV x15.2)), (48, .p (iV (a0.length : Int))), (49, .p (iV (w64 (x19.2 + 1))))] [] trivial) ?_
            exact lqn ((x19.1.set (Int.toNat x15.2) v27), (w64 (x19.2 + 1))) h
           ·replace h := ite_f hc19_20 h
            refine k_exit ?_
            refine q_x ?_
            refine lq_x ?_
            refine b_x ?_
            refine b_n ?_
            have hyy := hy_x19 _ (oi h).symm
            subst hyy
            have h := hk_x19
            refine q_n ?_
            exact jx x19.1 h
         ·replace h := ite_f hc15_16 h
          refine k_exit ?_
          refine q_x ?_
          refine lq_x ?_
          refine b_x ?_
          have hyy := hy_x15 _ (oi h).symm
          subst hyy
          have h := hk_x15
          refine q_n ?_
          exact jx x15.1 h
      ·replace h := ite_f hc10_9 h
       refine k_exit ?_
       refine q_x ?_
       refine lq_x ?_
       refine b_x ?_
       have hyy := hy_x8 _ (oi h).symm
       subst hyy
       have h := hk_x8
       refine q_n ?_
       exact jx x8.1 h
   ·replace h := ite_f hc5_4 h
    refine k_exit ?_
    refine q_x ?_
    refine lq_x ?_
    refine b_x ?_
    have hyy := hy_x3 _ (oi h).symm
    subst hyy
    have h := hk_x3
    refine q_n ?_
    exact jx x3.2 h
 ·refine k_sreg (r_gq [(0, .d false [.sl none (a0.map (eF eI))]), (1, .p (iV a1)), (5, .ov false [.sl (some 26) []]), (13, .p (iV (a0.length : Int))), (14, .p (iV 0))] [(1, {n := some a0.length})] (A1 (show (a0.map (eF eI)).length = a0.length from (List.length_map ..)))) ?_
  refine k_block ?_
  obtain ⟨y29, hl_x28, hk_x28⟩ := bs h
  clear h
  refine k_loop (J := fun (x : ((List (List Int)) × Int)) => [(0, .d false [.sl none (a0.map (eF eI))]), (1, .p (iV a1)), (5, .ov false [.sl (some 26) (x.1.map (eO 3 eI))]), (13, .p (iV (a0.length : Int))), (14, .p (iV x.2))]) hl_x28 (wk_of (by kernel_rfl) (by kernel_rfl)) (fun x28 o_x28 h hy_x28 => ?_)
  unfold spec_grPower_b5 at h
  refine k_sreg (r_gq [(0, .d false [.sl none (a0.map (eF eI))]), (1, .p (iV a1)), (5, .ov false [.sl (some 26) (x28.1.map (eO 3 eI))]), (13, .p (iV (a0.length : Int))), (14, .p (iV x28.2)), (15, .p (.bool (decide (x28.2 < (a0.length : Int)))))] [] trivial) ?_
  refine k_seq ?_
  refine kc (decide (x28.2 < (a0.length : Int))) (fun hc5_29 => ?_) (fun hc5_29 => ?_)
  ·replace h := ite_t hc5_29 h
   refine k_skip ?_
   refine q_n ?_
   refine k_seq ?_
   refine k_block ?_
   refine k_sreg (r_gq [(0, .d false [.sl none (a0.map (eF eI))]), (1, .p (iV a1)), (5, .ov false [.sl (some 26) (x28.1.map (eO 3 eI))]), (6, .p (iV x28.2)), (13, .p (iV (a0.length : Int))), (14, .p (iV x28.2))] [] trivial) ?_
   replace h := bs h
   obtain ⟨u31, hu31, h⟩ := h
   replace h := bs h
   obtain ⟨u32, hu32, h⟩ := h
   refine k_sreg (r_gq [(0, .d false [.sl none (a0.map (eF eI))]), (1, .p (iV a1)), (5, .ov false [.sl (some 26) ((x28.1 ++ [(List.replicate (Int.toNat (a0.length : Int)) (0 : Int))]).map (eO 3 eI))]), (6, .p (iV x28.2)), (13, .p (iV (a0.length : Int))), (14, .p (iV x28.2))] [(2, {n := some a0.length}), (3, {fix := some (20, .ov false [.sl (some 3) ((List.replicate (Int.toNat (a0.length : Int)) (0 : Int)).map eI)])}), (5, {fix := some (22, .ov false [.sl (some 26) ((x28.1 ++ [(List.replicate (Int.toNat (a0.length : Int)) (0 : Int))]).map (eO 3 eI))])})] (B6 (show (a0.map (eF eI)).length = a0.length from (List.length_map ..)) (show (a0.length : Int) = (a0.length : Int) from rfl) (guardO_some hu31).1 (guardO_some hu31).2 (show (SV.ov false [.sl (some 3) (List.replicate (Int.toNat (a0.length : Int)) [rI 0])] : SV) = .ov false [.sl (some 3) ((List.replicate (Int.toNat (a0.length : Int)) (0 : Int)).map eI)] from (congrArg (fun z => SV.ov false [.sl (some 3) z]) (rep_fix eI (0 : Int)))) (show List.length ((x28.1.map (eO 3 eI)) : List (List C)) + List.length ((([(List.replicate (Int.toNat (a0.length : Int)) (0 : Int))]).map (eO 3 eI)) : List (List C)) ≤ 1099511627776 from (by have hg := (guardO_some hu32); simpa using hg)) (A2 (show ∀ row ∈ ((([(List.replicate (Int.toNat (a0.length : Int)) (0 : Int))]).map (eO 3 eI)) : List (List C)), row.length = 1 from (rows_len fun _ => rfl)) (show (SV.ov false [.sl (some 26) ((x28.1.map (eO 3 eI)) ++ (([(List.replicate (Int.toNat (a0.length : Int)) (0 : Int))]).map (eO 3 eI)))] : SV) = .ov false [.sl (some 26) ((x28.1 ++ [(List.replicate (Int.toNat (a0.length : Int)) (0 : Int))]).map (eO 3 eI))] from (congrArg (fun z => SV.ov false [.sl (some 26) z]) (List.map_append ..).symm))))) ?_
   replace h := bs h
   obtain ⟨v33, hv33, h⟩ := h
   replace h := bs h
   obtain ⟨v34, hv34, h⟩ := h
   refine k_reg (r_gq [(0, .d false [.sl none (a0.map (eF eI))]), (1, .p (iV a1)), (5, .ov false [.sl (some 26) (((x28.1 ++ [(List.replicate (Int.toNat (a0.length : Int)) (0 : Int))]).set (Int.toNat x28.2) (v33.set (Int.toNat x28.2) 1)).map (eO 3 eI))]), (13, .p (iV (a0.length : Int))), (14, .p (iV x28.2))] [(2, {row := some [.sl (some 3) (v33.map eI)]}), (3, {row := some [.sl (some 3) (v33.map eI)]}), (5, {deep := some [.sl (some 3) (v33.map eI)], row := some (eI v34)}), (6, {row := some (eI v34), fix := some (5, .ov false [.sl (some 26) (((x28.1 ++ [(List.replicate (Int.toNat (a0.length : Int)) (0 : Int))]).set (Int.toNat x28.2) (v33.set (Int.toNat x28.2) 1)).map (eO 3 eI))])})] (B6 (idxO_some hv33).1 (map_get (eO 3 eI) (idxO_some hv33).2) (show frR [.sl (some 3) (v33.map eI)] = false from rfl) (show getRow [[.sl (some 26) ((x28.1 ++ [(List.replicate (Int.toNat (a0.length : Int)) (0 : Int))]).map (eO 3 eI))]] [(0, 0), ((Int.toNat x28.2), 0)] = some [.sl (some 3) (v33.map eI)] from ((gr0 rfl).trans (gre (map_get (eO 3 eI) (idxO_some hv33).2)))) (idxO_some hv34).1 (map_get eI (idxO_some hv34).2) (A3 (show getRow [[.sl (some 26) ((x28.1 ++ [(List.replicate (Int.toNat (a0.length : Int)) (0 : Int))]).map (eO 3 eI))]] [(0, 0), ((Int.toNat x28.2), 0)] = some [.sl (some 3) (v33.map eI)] from ((gr0 rfl).trans (gre (map_get (eO 3 eI) (idxO_some hv33).2)))) (show getRow [[.sl (some 26) ((x28.1 ++ [(List.replicate (Int.toNat (a0.length : Int)) (0 : Int))]).map (eO 3 eI))]] [(0, 0), ((Int.toNat x28.2), 0), ((Int.toNat x28.2), 0)] = some (eI v34) from ((gr0 rfl).trans ((grs (map_get (eO 3 eI) (idxO_some hv33).2) rfl).trans (gre (map_get eI (idxO_some hv34).2))))) (show (SV.ov false [.sl (some 26) (setL ((x28.1 ++ [(List.replicate (Int.toNat (a0.length : Int)) (0 : Int))]).map (eO 3 eI)) [((Int.toNat x28.2), 0), ((Int.toNat x28.2), 0)] [rI 1])] : SV) = .ov false [.sl (some 26) (((x28.1 ++ [(List.replicate (Int.toNat (a0.length : Int)) (0 : Int))]).set (Int.toNat x28.2) (v33.set (Int.toNat x28.2) 1)).map (eO 3 eI))] from (congrArg (fun z => SV.ov false [.sl (some 26) z]) (set2 (f := (eO 3 eI)) (y := (v33.set (Int.toNat x28.2) 1)) (idxO_some hv33).2 rfl (set1 (f := eI) (y := 1) (idxO_some hv34).2 rfl) rfl)))))) ?_
   refine b_n ?_
   refine q_n ?_
   refine k_reg (r_gq [(0, .d false [.sl none (a0.map (eF eI))]), (1, .p (iV a1)), (5, .ov false [.sl (some 26) (((x28.1 ++ [(List.replicate (Int.toNat (a0.length : Int)) (0 : Int))]).set (Int.toNat x28.2) (v33.set (Int.toNat x28.2) 1)).map (eO 3 eI))]), (13, .p (iV (a0.length : Int))), (14, .p (iV (w64 (x28.2 + 1))))] [] trivial) ?_
   exact lqn (((x28.1 ++ [(List.replicate (Int.toNat (a0.length : Int)) (0 : Int))]).set (Int.toNat x28.2) (v33.set (Int.toNat x28.2) 1)), (w64 (x28.2 + 1))) h
  ·replace h := ite_f hc5_29 h
   refine k_exit ?_
   refine q_x ?_
   refine lq_x ?_
   refine b_x ?_
   have hyy := hy_x28 _ (oi h).symm
   subst hyy
   have h := hk_x28
   refine q_n ?_
   exact jx x28.1 h
theorem wk_spec_gwTotal {a0 : (List (List Int))} {a1 : Int}  {r : Int} (h : spec_gwTotal a0 a1 = some r) : Meets Try.prog 119 [.d false [.sl none (a0.map (eF eI))], wI a1] { vals := [.p (iV r)] } := by
 refine mo Try.func119 [(0, .d false [.sl none (a0.map (eF eI))]), (1, .p (iV a1))] ?_
 unfold spec_gwTotal at h
 refine k_sreg (r_gq [(0, .d false [.sl none (a0.map (eF eI))]), (1, .p (iV a1))] [] trivial) ?_
 refine k_sreg (r_gq [(0, .d false [.sl none (a0.map (eF eI))]), (1, .p (iV a1)), (5, .p (iV 0))] [] trivial) ?_
 refine k_join (J := fun (x : Int) => [(5, .p (iV x))]) (K := fun x => spec_gwTotal_k1 x = some r) (fun x1 h => ?_) ?_
 ·unfold spec_gwTotal_k1 at h
  refine k_sreg (r_gq [(4, .p (iV x1))] [] trivial) ?_
  refine k_ret ?_
  obtain rfl := oi h
  exact er [(.p (iV x1), 4)]
 ·replace h := bs h
  obtain ⟨v2, hv2, h⟩ := h
  refine k_sreg (r_gq [(5, .p (iV 0)), (12, .ov false [.sl (some 26) (v2.map (eO 3 eI))]), (13, .p (iV (v2.length : Int))), (14, .p (iV 0))] [(2, {call := some (none, [.ov false [.sl (some 26) (v2.map (eO 3 eI))]], true)}), (3, {n := some v2.length})] (A3 (wk_spec_grPower hv2) (show List.all [.ov false [.sl (some 26) (v2.map (eO 3 eI))]] simpleR = true from (sa_o (wnR1 (wnL_enc (wn_O wn_I)) rfl) rfl)) (show (v2.map (eO 3 eI)).length = v2.length from (List.length_map ..)))) ?_
  refine k_block ?_
  obtain ⟨y4, hl_x3, hk_x3⟩ := bs h
  clear h
  refine k_loop (J := fun (x : Qr) => [(5, .p (iV x.1)), (12, .ov false [.sl (some 26) (v2.map (eO 3 eI))]), (13, .p (iV (v2.length : Int))), (14, .p (iV x.2))]) hl_x3 (wk_of (by kernel_rfl) (by kernel_rfl)) (fun x3 o_x3 h hy_x3 => ?_)
  unfold spec_gwTotal_b1 at h
  refine k_sreg (r_gq [(5, .p (iV x3.1)), (12, .ov false [.sl (some 26) (v2.map (eO 3 eI))]), (13, .p (iV (v2.length : Int))), (14, .p (iV x3.2)), (15, .p (.bool (decide (x3.2 < (v2.length : Int)))))] [] trivial) ?_
  refine k_seq ?_
  refine kc (decide (x3.2 < (v2.length : Int))) (fun hc5_4 => ?_) (fun hc5_4 => ?_)
  ·replace h := ite_t hc5_4 h
   refine k_skip ?_
   refine q_n ?_
   refine k_join (J := fun (x : Int) => [(5, .p (iV x)), (12, .ov false [.sl (some 26) (v2.map (eO 3 eI))]), (13, .p (iV (v2.length : Int))), (14, .p (iV x3.2))]) (K := fun x => spec_gwTotal_k2 x3 x = some o_x3) (fun x6 h => ?_) ?_
   ·unfold spec_gwTotal_k2 at h
    refine k_reg (r_gq [(5, .p (iV x6)), (12, .ov false [.sl (some 26) (v2.map (eO 3 eI))]), (13, .p (iV (v2.length : Int))), (14, .p (iV (w64 (x3.2 + 1))))] [] trivial) ?_
    exact lqn (x6, (w64 (x3.2 + 1))) h
   ·refine k_block ?_
    replace h := bs h
    obtain ⟨v7, hv7, h⟩ := h
    refine k_sreg (r_gq [(5, .p (iV x3.1)), (7, .ref 12 [(0, 0), ((Int.toNat x3.2), 0)] none), (12, .ov false [.sl (some 26) (v2.map (eO 3 eI))]), (13, .p (iV (v2.length : Int))), (14, .p (iV x3.2))] [(0, {row := some [.sl (some 3) (v7.map eI)]}), (1, {row := some [.sl (some 3) (v7.map eI)]})] (A4 (idxO_some hv7).1 (map_get (eO 3 eI) (idxO_some hv7).2) (show frR [.sl (some 3) (v7.map eI)] = false from rfl) (show getRow [[.sl (some 26) (v2.map (eO 3 eI))]] [(0, 0), ((Int.toNat x3.2), 0)] = some [.sl (some 3) (v7.map eI)] from ((gr0 rfl).trans (gre (map_get (eO 3 eI) (idxO_some hv7).2)))))) ?_
    refine k_sreg (r_gq [(5, .p (iV x3.1)), (12, .ov false [.sl (some 26) (v2.map (eO 3 eI))]), (13, .p (iV (v2.length : Int))), (14, .p (iV x3.2)), (18, .ref 12 [(0, 0), ((Int.toNat x3.2), 0)] none), (19, .p (iV (v7.length : Int))), (20, .p (iV 0))] [(1, {deep := some [.sl (some 3) (v7.map eI)], n := some v7.length})] (A2 (show (v7.map eI).length = v7.length from (List.length_map ..)) (show getRow [[.sl (some 26) (v2.map (eO 3 eI))]] [(0, 0), ((Int.toNat x3.2), 0)] = some [.sl (some 3) (v7.map eI)] from ((gr0 rfl).trans (gre (map_get (eO 3 eI) (idxO_some hv7).2)))))) ?_
    refine k_block ?_
    obtain ⟨y9, hl_x8, hk_x8⟩ := bs h
    clear h
    refine k_loop (J := fun (x : Qr) => [(5, .p (iV x.1)), (12, .ov false [.sl (some 26) (v2.map (eO 3 eI))]), (13, .p (iV (v2.length : Int))), (14, .p (iV x3.2)), (18, .ref 12 [(0, 0), ((Int.toNat x3.2), 0)] none), (19, .p (iV (v7.length : Int))), (20, .p (iV x.2))]) hl_x8 (wk_of (by kernel_rfl) (by kernel_rfl)) (fun x8 o_x8 h hy_x8 => ?_)
    unfold spec_gwTotal_b2 at h
    refine k_sreg (r_gq [(5, .p (iV x8.1)), (12, .ov false [.sl (some 26) (v2.map (eO 3 eI))]), (13, .p (iV (v2.length : Int))), (14, .p (iV x3.2)), (18, .ref 12 [(0, 0), ((Int.toNat x3.2), 0)] none), (19, .p (iV (v7.length : Int))), (20, .p (iV x8.2)), (21, .p (.bool (decide (x8.2 < (v7.length : Int)))))] [] trivial) ?_
    refine k_seq ?_
    refine kc (decide (x8.2 < (v7.length : Int))) (fun hc9_9 => ?_) (fun hc9_9 => ?_)
    ·replace h := ite_t hc9_9 h
     refine k_skip ?_
     refine q_n ?_
     refine k_seq ?_
     refine k_block ?_
     replace h := bs h
     obtain ⟨v11, hv11, h⟩ := h
     refine k_sreg (r_gq [(5, .p (iV x8.1)), (9, .p (iV v11)), (12, .ov false [.sl (some 26) (v2.map (eO 3 eI))]), (13, .p (iV (v2.length : Int))), (14, .p (iV x3.2)), (18, .ref 12 [(0, 0), ((Int.toNat x3.2), 0)] none), (19, .p (iV (v7.length : Int))), (20, .p (iV x8.2))] [(0, {deep := some [.sl (some 3) (v7.map eI)], row := some (eI v11)}), (1, {row := some (eI v11)})] (A4 (idxO_some hv11).1 (map_get eI (idxO_some hv11).2) (show getRow [[.sl (some 26) (v2.map (eO 3 eI))]] [(0, 0), ((Int.toNat x3.2), 0)] = some [.sl (some 3) (v7.map eI)] from ((gr0 rfl).trans (gre (map_get (eO 3 eI) (idxO_some hv7).2)))) (show getRow [[.sl (some 26) (v2.map (eO 3 eI))]] [(0, 0), ((Int.toNat x3.2), 0), ((Int.toNat x8.2), 0)] = some (eI v11) from ((gr0 rfl).trans ((grs (map_get (eO 3 eI) (idxO_some hv7).2) rfl).trans (gre (map_get eI (idxO_some hv11).2))))))) ?_
     replace h := bs h
     obtain ⟨v12, hv12, h⟩ := h
     refine k_reg (r_gq [(5, .p (iV v12)), (12, .ov false [.sl (some 26) (v2.map (eO 3 eI))]), (13, .p (iV (v2.length : Int))), (14, .p (iV x3.2)), (18, .ref 12 [(0, 0), ((Int.toNat x3.2), 0)] none), (19, .p (iV (v7.length : Int))), (20, .p (iV x8.2))] [(3, {call := some (none, [.p (iV v12)], true)})] (A1 (wk_spec_grCap hv12))) ?_
     refine b_n ?_
     refine q_n ?_
     refine k_reg (r_gq [(5, .p (iV v12)), (12, .ov false [.sl (some 26) (v2.map (eO 3 eI))]), (13, .p (iV (v2.length : Int))), (14, .p (iV x3.2)), (18, .ref 12 [(0, 0), ((Int.toNat x3.2), 0)] none), (19, .p (iV (v7.length : Int))), (20, .p (iV (w64 (x8.2 + 1))))] [] trivial) ?_
     exact lqn (v12, (w64 (x8.2 + 1))) h
    ·replace h := ite_f hc9_9 h
     refine k_exit ?_
     refine q_x ?_
     refine lq_x ?_
     refine b_x ?_
     refine b_n ?_
     have hyy := hy_x8 _ (oi h).symm
     subst hyy
     have h := hk_x8
     refine q_n ?_
     exact jx x8.1 h
  ·replace h := ite_f hc5_4 h
   refine k_exit ?_
   refine q_x ?_
   refine lq_x ?_
   refine b_x ?_
   have hyy := hy_x3 _ (oi h).symm
   subst hyy
   have h := hk_x3
   refine q_n ?_
   exact jx x3.1 h
theorem wk_spec_IsNilpotent {a0 : (List (List Int))}  {r : (Bool × Bool)} (h : spec_IsNilpotent a0 = some r) : Meets Try.prog 54 [.d false [.sl none (a0.map (eF eI))]] { vals := [.p (.bool r.1), .p (.bool r.2)] } := by
 refine mo Try.func54 [(0, .d false [.sl none (a0.map (eF eI))])] ?_
 unfold spec_IsNilpotent at h
 refine k_sreg (r_gq [(0, .d false [.sl none (a0.map (eF eI))])] [] trivial) ?_
 refine k_seq ?_
 replace h := bs h
 obtain ⟨v1, hv1, h⟩ := h
 refine k_sreg (r_gq [(0, .d false [.sl none (a0.map (eF eI))]), (6, .p (.bool (!v1)))] [(1, {call := some (none, [.p (.bool v1)], true)})] (A1 (wk_spec_grGood hv1))) ?_
 refine kc (!v1) (fun hc2_1 => ?_) (fun hc2_1 => ?_)
 ·replace h := ite_t hc2_1 h
  refine k_sreg (r_gq [(2, .p (.bool false)), (3, .p (.bool false))] [] trivial) ?_
  refine k_ret ?_
  refine q_r ?_
  obtain rfl := oi h
  exact er [(.p (.bool false), 2), (.p (.bool false), 3)]
 ·replace h := ite_f hc2_1 h
  refine k_skip ?_
  refine q_n ?_
  replace h := bs h
  obtain ⟨v3, hv3, h⟩ := h
  refine k_sreg (r_gq [(2, .p (.bool (v3 == 0))), (3, .p (.bool true))] [(2, {n := some a0.length}), (3, {call := some (none, [.p (iV v3)], true)})] (A2 (show (a0.map (eF eI)).length = a0.length from (List.length_map ..)) (wk_spec_gwTotal hv3))) ?_
  refine k_ret ?_
  obtain rfl := oi h
  exact er [(.p (.bool (v3 == 0)), 2), (.p (.bool true), 3)]
theorem wk_impl_isWalk {a0 : (List (List Int))} {a1 : Int}  {r : Bool} (h : impl_isWalk a0 a1 = some r) : Meets Try.prog 79 [.d false [.sl none (a0.map (eF eI))], wI a1] { vals := [.p (.bool r)] } := by
 refine mo Try.func79 [(0, .d false [.sl none (a0.map (eF eI))]), (1, .p (iV a1))] ?_
 unfold impl_isWalk at h
 refine k_sreg (r_gq [(0, .d false [.sl none (a0.map (eF eI))]), (1, .p (iV a1))] [] trivial) ?_
 replace h := bs h
 obtain ⟨v1, hv1, h⟩ := h
 replace h := bs h
 obtain ⟨w3, hw3, h⟩ := h
 refine k_sreg (l1 := [(4, .p (.bool w3))]) ?_ ?_
 ·clear h
  rcases ft v1 with ha0 | ha0
  ·replace hw3 := ite_t ha0 hw3
   replace hw3 := bs hw3
   obtain ⟨v2, hv2, hw3⟩ := hw3
   have hw3 := oi hw3
   subst hw3
   exact (r_gq [(4, .p (.bool v2))] [(1, {call := some (none, [.p (.bool v1)], true)}), (3, gT), (4, {g := some true, call := some (none, [.p (.bool v2)], true)}), (5, bT)] (A5 (wk_impl_isGraph hv1) ha0 ha0 (wk_impl_within hv2) ha0))
  ·replace hw3 := ite_f ha0 hw3
   have hw3 := oi hw3
   subst hw3
   exact (r_gq [(4, .p (.bool false))] [(1, {call := some (none, [.p (.bool v1)], true)}), (3, gF), (4, gF), (5, bF)] (A4 (wk_impl_isGraph hv1) ha0 ha0 ha0))
 ·refine k_ret ?_
  obtain rfl := oi h
  exact er [(.p (.bool w3), 4)]
theorem wk_impl_powerUpTo {a0 : (List (List Int))} {a1 : Int} {a2 : Int}  {r : (List (List Int))} (h : impl_powerUpTo a0 a1 a2 = some r) : Meets Try.prog 151 [.d false [.sl none (a0.map (eF eI))], wI a1, wI a2] { vals := [.ov false [.sl (some 26) (r.map (eO 3 eI))]] } := by
 refine mo Try.func151 [(0, .d false [.sl none (a0.map (eF eI))]), (1, .p (iV a1)), (2, .p (iV a2))] ?_
 unfold impl_powerUpTo at h
 refine k_sreg (r_gq [(0, .d false [.sl none (a0.map (eF eI))]), (1, .p (iV a1)), (2, .p (iV a2))] [] trivial) ?_
 replace h := bs h
 obtain ⟨v1, hv1, h⟩ := h
 refine k_sreg (r_gq [(0, .d false [.sl none (a0.map (eF eI))]), (1, .p (iV a1)), (2, .p (iV a2)), (7, .ov false [.sl (some 26) (v1.map (eO 3 eI))])] [(1, {n := some a0.length}), (2, {call := some (none, [.ov false [.sl (some 26) (v1.map (eO 3 eI))]], true)})] (A3 (show (a0.map (eF eI)).length = a0.length from (List.length_map ..)) (wk_impl_emptyGraph hv1) (show List.all [.ov false [.sl (some 26) (v1.map (eO 3 eI))]] simpleR = true from (sa_o (wnR1 (wnL_enc (wn_O wn_I)) rfl) rfl)))) ?_
 refine k_join (J := fun (x : (List (List Int))) => [(0, .d false [.sl none (a0.map (eF eI))]), (1, .p (iV a1)), (2, .p (iV a2)), (7, .ov false [.sl (some 26) (x.map (eO 3 eI))])]) (K := fun x => impl_powerUpTo_k1 a0 a1 a2 x = some r) (fun x2 h => ?_) ?_
 ·unfold impl_powerUpTo_k1 at h
  refine k_join (J := fun (x : (List (List Int))) => [(7, .ov false [.sl (some 26) (x.map (eO 3 eI))])]) (K := fun x => impl_powerUpTo_k2 x = some r) (fun x3 h => ?_) ?_
  ·unfold impl_powerUpTo_k2 at h
   refine k_sreg (r_gq [(6, .ov false [.sl (some 26) (x3.map (eO 3 eI))])] [] trivial) ?_
   refine k_ret ?_
   obtain rfl := oi h
   exact er [(.ov false [.sl (some 26) (x3.map (eO 3 eI))], 6)]
  ·refine k_sreg (r_gq [(0, .d false [.sl none (a0.map (eF eI))]), (2, .p (iV a2)), (7, .ov false [.sl (some 26) (x2.map (eO 3 eI))]), (31, .p (iV a1)), (32, .p (iV 0))] [] trivial) ?_
   refine k_block ?_
   obtain ⟨y5, hl_x4, hk_x4⟩ := bs h
   clear h
   refine k_loop (J := fun (x : ((List (List Int)) × Int)) => [(0, .d false [.sl none (a0.map (eF eI))]), (2, .p (iV a2)), (7, .ov false [.sl (some 26) (x.1.map (eO 3 eI))]), (31, .p (iV a1)), (32, .p (iV x.2))]) hl_x4 (wk_of (by kernel_rfl) (by kernel_rfl)) (fun x4 o_x4 h hy_x4 => ?_)
   unfold impl_powerUpTo_b1 at h
   refine k_sreg (r_gq [(0, .d false [.sl none (a0.map (eF eI))]), (2, .p (iV a2)), (7, .ov false [.sl (some 26) (x4.1.map (eO 3 eI))]), (31, .p (iV a1)), (32, .p (iV x4.2)), (33, .p (.bool (decide (x4.2 < a1))))] [] trivial) ?_
   refine k_seq ?_
   refine kc (decide (x4.2 < a1)) (fun hc5_5 => ?_) (fun hc5_5 => ?_)
   ·replace h := ite_t hc5_5 h
    refine k_skip ?_
    refine q_n ?_
    refine k_join (J := fun (x : (List (List Int))) => [(0, .d false [.sl none (a0.map (eF eI))]), (2, .p (iV a2)), (7, .ov false [.sl (some 26) (x.map (eO 3 eI))]), (31, .p (iV a1)), (32, .p (iV x4.2))]) (K := fun x => impl_powerUpTo_k3 x4 x = some o_x4) (fun x7 h => ?_) ?_
    ·unfold impl_powerUpTo_k3 at h
     refine k_reg (r_gq [(0, .d false [.sl none (a0.map (eF eI))]), (2, .p (iV a2)), (7, .ov false [.sl (some 26) (x7.map (eO 3 eI))]), (31, .p (iV a1)), (32, .p (iV (w64 (x4.2 + 1))))] [] trivial) ?_
     exact lqn (x7, (w64 (x4.2 + 1))) h
    ·refine k_block ?_
     replace h := bs h
     obtain ⟨v8, hv8, h⟩ := h
     refine k_sreg (r_gq [(0, .d false [.sl none (a0.map (eF eI))]), (2, .p (iV a2)), (7, .ov false [.sl (some 26) (x4.1.map (eO 3 eI))]), (9, .ov false [.sl (some 26) (v8.map (eO 3 eI))]), (31, .p (iV a1)), (32, .p (iV x4.2))] [(1, {n := some a0.length}), (2, {call := some (none, [.ov false [.sl (some 26) (v8.map (eO 3 eI))]], true)})] (A3 (show (a0.map (eF eI)).length = a0.length from (List.length_map ..)) (wk_impl_emptyGraph hv8) (show List.all [.ov false [.sl (some 26) (v8.map (eO 3 eI))]] simpleR = true from (sa_o (wnR1 (wnL_enc (wn_O wn_I)) rfl) rfl)))) ?_
     refine k_join (J := fun (x : (List (List Int))) => [(0, .d false [.sl none (a0.map (eF eI))]), (2, .p (iV a2)), (9, .ov false [.sl (some 26) (x.map (eO 3 eI))]), (31, .p (iV a1)), (32, .p (iV x4.2))]) (K := fun x => impl_powerUpTo_k4 x4 x = some o_x4) (fun x9 h => ?_) ?_
     ·unfold impl_powerUpTo_k4 at h
      refine k_reg (r_gq [(0, .d false [.sl none (a0.map (eF eI))]), (2, .p (iV a2)), (7, .ov false [.sl (some 26) (x9.map (eO 3 eI))]), (31, .p (iV a1)), (32, .p (iV x4.2))] [] trivial) ?_
      refine b_n ?_
      refine q_n ?_
      exact jx x9 h
     ·refine k_sreg (r_gq [(0, .d false [.sl none (a0.map (eF eI))]), (2, .p (iV a2)), (7, .ov false [.sl (some 26) (x4.1.map (eO 3 eI))]), (9, .ov false [.sl (some 26) (v8.map (eO 3 eI))]), (31, .p (iV a1)), (32, .p (iV x4.2)), (37, .ref 7 [(0, 0)] none), (38, .p (iV (x4.1.length : Int))), (39, .p (iV 0))] [(1, {n := some x4.1.length})] (A1 (show (x4.1.map (eO 3 eI)).length = x4.1.length from (List.length_map ..)))) ?_
      refine k_block ?_
      obtain ⟨y11, hl_x10, hk_x10⟩ := bs h
      clear h
      refine k_loop (J := fun (x : ((List (List Int)) × Int)) => [(0, .d false [.sl none (a0.map (eF eI))]), (2, .p (iV a2)), (7, .ov false [.sl (some 26) (x4.1.map (eO 3 eI))]), (9, .ov false [.sl (some 26) (x.1.map (eO 3 eI))]), (31, .p (iV a1)), (32, .p (iV x4.2)), (37, .ref 7 [(0, 0)] none), (38, .p (iV (x4.1.length : Int))), (39, .p (iV x.2))]) hl_x10 (wk_of (by kernel_rfl) (by kernel_rfl)) (fun x10 o_x10 h hy_x10 => ?_)
      unfold impl_powerUpTo_b2 at h
      refine k_sreg (r_gq [(0, .d false [.sl none (a0.map (eF eI))]), (2, .p (iV a2)), (7, .ov false [.sl (some 26) (x4.1.map (eO 3 eI))]), (9, .ov false [.sl (some 26) (x10.1.map (eO 3 eI))]), (31, .p (iV a1)), (32, .p (iV x4.2)), (37, .ref 7 [(0, 0)] none), (38, .p (iV (x4.1.length : Int))), (39, .p (iV x10.2)), (40, .p (.bool (decide (x10.2 < (x4.1.length : Int)))))] [] trivial) ?_
      refine k_seq ?_
      refine kc (decide (x10.2 < (x4.1.length : Int))) (fun hc10_11 => ?_) (fun hc10_11 => ?_)
      ·replace h := ite_t hc10_11 h
       refine k_skip ?_
       refine q_n ?_
       refine k_join (J := fun (x : (List (List Int))) => [(0, .d false [.sl none (a0.map (eF eI))]), (2, .p (iV a2)), (7, .ov false [.sl (some 26) (x4.1.map (eO 3 eI))]), (9, .ov false [.sl (some 26) (x.map (eO 3 eI))]), (31, .p (iV a1)), (32, .p (iV x4.2)), (37, .ref 7 [(0, 0)] none), (38, .p (iV (x4.1.length : Int))), (39, .p (iV x10.2))]) (K := fun x => impl_powerUpTo_k5 x10 x = some o_x10) (fun x13 h => ?_) ?_
       ·unfold impl_powerUpTo_k5 at h
        refine k_reg (r_gq [(0, .d false [.sl none (a0.map (eF eI))]), (2, .p (iV a2)), (7, .ov false [.sl (some 26) (x4.1.map (eO 3 eI))]), (9, .ov false [.sl (some 26) (x13.map (eO 3 eI))]), (31, .p (iV a1)), (32, .p (iV x4.2)), (37, .ref 7 [(0, 0)] none), (38, .p (iV (x4.1.length : Int))), (39, .p (iV (w64 (x10.2 + 1))))] [] trivial) ?_
        exact lqn (x13, (w64 (x10.2 + 1))) h
       ·refine k_block ?_
        replace h := bs h
        obtain ⟨v14, hv14, h⟩ := h
        refine k_sreg (r_gq [(0, .d false [.sl none (a0.map (eF eI))]), (2, .p (iV a2)), (7, .ov false [.sl (some 26) (x4.1.map (eO 3 eI))]), (9, .ov false [.sl (some 26) (x10.1.map (eO 3 eI))]), (10, .p (iV x10.2)), (11, .ref 7 [(0, 0), ((Int.toNat x10.2), 0)] none), (31, .p (iV a1)), (32, .p (iV x4.2)), (37, .ref 7 [(0, 0)] none), (38, .p (iV (x4.1.length : Int))), (39, .p (iV x10.2))] [(1, {row := some [.sl (some 3) (v14.map eI)]}), (2, {row := some [.sl (some 3) (v14.map eI)]})] (A4 (idxO_some hv14).1 (map_get (eO 3 eI) (idxO_some hv14).2) (show frR [.sl (some 3) (v14.map eI)] = false from rfl) (show getRow [[.sl (some 26) (x4.1.map (eO 3 eI))]] [(0, 0), ((Int.toNat x10.2), 0)] = some [.sl (some 3) (v14.map eI)] from ((gr0 rfl).trans (gre (map_get (eO 3 eI) (idxO_some hv14).2)))))) ?_
        refine k_sreg (r_gq [(0, .d false [.sl none (a0.map (eF eI))]), (2, .p (iV a2)), (7, .ov false [.sl (some 26) (x4.1.map (eO 3 eI))]), (9, .ov false [.sl (some 26) (x10.1.map (eO 3 eI))]), (10, .p (iV x10.2)), (31, .p (iV a1)), (32, .p (iV x4.2)), (37, .ref 7 [(0, 0)] none), (38, .p (iV (x4.1.length : Int))), (39, .p (iV x10.2)), (44, .ref 7 [(0, 0), ((Int.toNat x10.2), 0)] none), (45, .p (iV (v14.length : Int))), (46, .p (iV 0))] [(1, {deep := some [.sl (some 3) (v14.map eI)], n := some v14.length})] (A2 (show (v14.map eI).length = v14.length from (List.length_map ..)) (show getRow [[.sl (some 26) (x4.1.map (eO 3 eI))]] [(0, 0), ((Int.toNat x10.2), 0)] = some [.sl (some 3) (v14.map eI)] from ((gr0 rfl).trans (gre (map_get (eO 3 eI) (idxO_some hv14).2)))))) ?_
        refine k_block ?_
        obtain ⟨y16, hl_x15, hk_x15⟩ := bs h
        clear h
        refine k_loop (J := fun (x : ((List (List Int)) × Int)) => [(0, .d false [.sl none (a0.map (eF eI))]), (2, .p (iV a2)), (7, .ov false [.sl (some 26) (x4.1.map (eO 3 eI))]), (9, .ov false [.sl (some 26) (x.1.map (eO 3 eI))]), (10, .p (iV x10.2)), (31, .p (iV a1)), (32, .p (iV x4.2)), (37, .ref 7 [(0, 0)] none), (38, .p (iV (x4.1.length : Int))), (39, .p (iV x10.2)), (44, .ref 7 [(0, 0), ((Int.toNat x10.2), 0)] none), (45, .p (iV (v14.length : Int))), (46, .p (iV x.2))]) hl_x15 (wk_of (by kernel_rfl) (by kernel_rfl)) (fun x15 o_x15 h hy_x15 => ?_)
        unfold impl_powerUpTo_b3 at h
        refine k_sreg (r_gq [(0, .d false [.sl none (a0.map (eF eI))]), (2, .p (iV a2)), (7, .ov false [.sl (some 26) (x4.1.map (eO 3 eI))]), (9, .ov false [.sl (some 26) (x15.1.map (eO 3 eI))]), (10, .p (iV x10.2)), (31, .p (iV a1)), (32, .p (iV x4.2)), (37, .ref 7 [(0, 0)] none), (38, .p (iV (x4.1.length : Int))), (39, .p (iV x10.2)), (44, .ref 7 [(0, 0), ((Int.toNat x10.2), 0)] none), (45, .p (iV (v14.length : Int))), (46, .p (iV x15.2)), (47, .p (.bool (decide (x15.2 < (v14.length : Int)))))] [] trivial) ?_
        refine k_seq ?_
        refine kc (decide (x15.2 < (v14.length : Int))) (fun hc14_16 => ?_) (fun hc14_16 => ?_)
        ·replace h := ite_t hc14_16 h
         refine k_skip ?_
         refine q_n ?_
         refine k_join (J := fun (x : (List (List Int))) => [(0, .d false [.sl none (a0.map (eF eI))]), (2, .p (iV a2)), (7, .ov false [.sl (some 26) (x4.1.map (eO 3 eI))]), (9, .ov false [.sl (some 26) (x.map (eO 3 eI))]), (10, .p (iV x10.2)), (31, .p (iV a1)), (32, .p (iV x4.2)), (37, .ref 7 [(0, 0)] none), (38, .p (iV (x4.1.length : Int))), (39, .p (iV x10.2)), (44, .ref 7 [(0, 0), ((Int.toNat x10.2), 0)] none), (45, .p (iV (v14.length : Int))), (46, .p (iV x15.2))]) (K := fun x => impl_powerUpTo_k6 x15 x = some o_x15) (fun x18 h => ?_) ?_
         ·unfold impl_powerUpTo_k6 at h
          refine k_reg (r_gq [(0, .d false [.sl none (a0.map (eF eI))]), (2, .p (iV a2)), (7, .ov false [.sl (some 26) (x4.1.map (eO 3 eI))]), (9, .ov false [.sl (some 26) (x18.map (eO 3 eI))]), (10, .p (iV x10.2)), (31, .p (iV a1)), (32, .p (iV x4.2)), (37, .ref 7 [(0, 0)] none), (38, .p (iV (x4.1.length : Int))), (39, .p (iV x10.2)), (44, .ref 7 [(0, 0), ((Int.toNat x10.2), 0)] none), (45, .p (iV (v14.length : Int))), (46, .p (iV (w64 (x15.2 + 1))))] [] trivial) ?_
          exact lqn (x18, (w64 (x15.2 + 1))) h
         ·refine k_block ?_
          replace h := bs h
          obtain ⟨v19, hv19, h⟩ := h
          refine k_sreg (r_gq [(0, .d false [.sl none (a0.map (eF eI))]), (2, .p (iV a2)), (7, .ov false [.sl (some 26) (x4.1.map (eO 3 eI))]), (9, .ov false [.sl (some 26) (x15.1.map (eO 3 eI))]), (10, .p (iV x10.2)), (12, .p (iV x15.2)), (13, .p (iV v19)), (31, .p (iV a1)), (32, .p (iV x4.2)), (37, .ref 7 [(0, 0)] none), (38, .p (iV (x4.1.length : Int))), (39, .p (iV x10.2)), (44, .ref 7 [(0, 0), ((Int.toNat x10.2), 0)] none), (45, .p (iV (v14.length : Int))), (46, .p (iV x15.2))] [(1, {deep := some [.sl (some 3) (v14.map eI)], row := some (eI v19)}), (2, {row := some (eI v19)})] (A4 (idxO_some hv19).1 (map_get eI (idxO_some hv19).2) (show getRow [[.sl (some 26) (x4.1.map (eO 3 eI))]] [(0, 0), ((Int.toNat x10.2), 0)] = some [.sl (some 3) (v14.map eI)] from ((gr0 rfl).trans (gre (map_get (eO 3 eI) (idxO_some hv14).2)))) (show getRow [[.sl (some 26) (x4.1.map (eO 3 eI))]] [(0, 0), ((Int.toNat x10.2), 0), ((Int.toNat x15.2), 0)] = some (eI v19) from ((gr0 rfl).trans ((grs (map_get (eO 3 eI) (idxO_some hv14).2) rfl).trans (gre (map_get eI (idxO_some hv19).2))))))) ?_
          replace h := bs h
          obtain ⟨v20, hv20, h⟩ := h
          refine k_sreg (r_gq [(0, .d false [.sl none (a0.map (eF eI))]), (2, .p (iV a2)), (7, .ov false [.sl (some 26) (x4.1.map (eO 3 eI))]), (9, .ov false [.sl (some 26) (x15.1.map (eO 3 eI))]), (10, .p (iV x10.2)), (13, .p (iV v19)), (31, .p (iV a1)), (32, .p (iV x4.2)), (37, .ref 7 [(0, 0)] none), (38, .p (iV (x4.1.length : Int))), (39, .p (iV x10.2)), (44, .ref 7 [(0, 0), ((Int.toNat x10.2), 0)] none), (45, .p (iV (v14.length : Int))), (46, .p (iV x15.2)), (54, .d false [.sl none (v20.map eI)]), (55, .p (iV (v20.length : Int))), (56, .p (iV 0))] [(2, {row := some [.sl none (v20.map eI)]}), (4, {n := some v20.length})] (A3 (idxO_some hv20).1 (map_get (eF eI) (idxO_some hv20).2) (show (v20.map eI).length = v20.length from (List.length_map ..)))) ?_
          refine k_block ?_
          obtain ⟨y22, hl_x21, hk_x21⟩ := bs h
          clear h
          refine k_loop (J := fun (x : ((List (List Int)) × Int)) => [(0, .d false [.sl none (a0.map (eF eI))]), (2, .p (iV a2)), (7, .ov false [.sl (some 26) (x4.1.map (eO 3 eI))]), (9, .ov false [.sl (some 26) (x.1.map (eO 3 eI))]), (10, .p (iV x10.2)), (13, .p (iV v19)), (31, .p (iV a1)), (32, .p (iV x4.2)), (37, .ref 7 [(0, 0)] none), (38, .p (iV (x4.1.length : Int))), (39, .p (iV x10.2)), (44, .ref 7 [(0, 0), ((Int.toNat x10.2), 0)] none), (45, .p (iV (v14.length : Int))), (46, .p (iV x15.2)), (54, .d false [.sl none (v20.map eI)]), (55, .p (iV (v20.length : Int))), (56, .p (iV x.2))]) hl_x21 (wk_of (by kernel_rfl) (by kernel_rfl)) (fun x21 o_x21 h hy_x21 => ?_)
          unfold impl_powerUpTo_b4 at h
          refine k_sreg (r_gq [(0, .d false [.sl none (a0.map (eF eI))]), (2, .p (iV a2)), (7, .ov false [.sl (some 26) (x4.1.map (eO 3 eI))]), (9, .ov false [.sl (some 26) (x21.1.map (eO 3 eI))]), (10, .p (iV x10.2)), (13, .p (iV v19)), (31, .p (iV a1)), (32, .p (iV x4.2)), (37, .ref 7 [(0, 0)] none), (38, .p (iV (x4.1.length : Int))), (39, .p (iV x10.2)), (44, .ref 7 [(0, 0), ((Int.toNat x10.2), 0)] none), (45, .p (iV (v14.length : Int))), (46, .p (iV x15.2)), (54, .d false [.sl none (v20.map eI)]), (55, .p (iV (v20.length : Int))), (56, .p (iV x21.2)), (57, .p (.bool (decide (x21.2 < (v20.length : Int)))))] [] trivial) ?_
          refine k_seq ?_
          refine kc (decide (x21.2 < (v20.length : Int))) (fun hc18_22 => ?_) (fun hc18_22 => ?_)
          ·replace h := ite_t hc18_22 h
           refine k_skip ?_
           refine q_n ?_
           refine k_seq ?_
           refine k_block ?_
           replace h := bs h
           obtain ⟨v24, hv24, h⟩ := h
           refine k_sreg (r_gq [(0, .d false [.sl none (a0.map (eF eI))]), (2, .p (iV a2)), (7, .ov false [.sl (some 26) (x4.1.map (eO 3 eI))]), (9, .ov false [.sl (some 26) (x21.1.map (eO 3 eI))]), (10, .p (iV x10.2)), (13, .p (iV v19)), (14, .p (iV x21.2)), (15, .p (iV v24)), (31, .p (iV a1)), (32, .p (iV x4.2)), (37, .ref 7 [(0, 0)] none), (38, .p (iV (x4.1.length : Int))), (39, .p (iV x10.2)), (44, .ref 7 [(0, 0), ((Int.toNat x10.2), 0)] none), (45, .p (iV (v14.length : Int))), (46, .p (iV x15.2)), (54, .d false [.sl none (v20.map eI)]), (55, .p (iV (v20.length : Int))), (56, .p (iV x21.2))] [(1, {row := some (eI v24)})] (A2 (idxO_some hv24).1 (map_get eI (idxO_some hv24).2))) ?_
           replace h := bs h
           obtain ⟨v25, hv25, h⟩ := h
           replace h := bs h
           obtain ⟨v26, hv26, h⟩ := h
           refine k_reg (r_dq Try_mixed 18 [] [(0, .d false [.sl none (a0.map (eF eI))]), (2, .p (iV a2)), (7, .ov false [.sl (some 26) (x4.1.map (eO 3 eI))]), (9, .ov false [.sl (some 26) ((x21.1.set (Int.toNat x10.2) (v25.set (Int.toNat x21.2) (if a2 < (w64 (v26 + (w64 (v19 * v24)))) then a2 else (w64 (v26 + (w64 (v19 * v24))))))).map (eO 3 eI))]), (10, .p (iV x10.2)), (13, .p (iV v19)), (31, .p (iV a1)), (32, .p (iV x4.2)), (37, .ref 7 [(0, 0)] none), (38, .p (iV (x4.1.length : Int))), (39, .p (iV x10.2)), (44, .ref 7 [(0, 0), ((Int.toNat x10.2), 0)] none), (45, .p (iV (v14.length : Int))), (46, .p (iV x15.2)), (54, .d false [.sl none (v20.map eI)]), (55, .p (iV (v20.length : Int))), (56, .p (iV x21.2))] [(2, {row := some [.sl (some 3) (v25.map eI)]}), (3, {row := some [.sl (some 3) (v25.map eI)]}), (7, {row := some [.sl (some 3) (v25.map eI)]}), (8, {row := some [.sl (some 3) (v25.map eI)]}), (10, {deep := some [.sl (some 3) (v25.map eI)], row := some (eI v26)}), (11, {row := some (eI v26)}), (18, {deep := some [.sl (some 3) (v25.map eI)], row := some (eI v26)}), (19, {row := some (eI v26), fix := some (9, .ov false [.sl (some 26) ((x21.1.set (Int.toNat x10.2) (v25.set (Int.toNat x21.2) (if a2 < (w64 (v26 + (w64 (v19 * v24)))) then a2 else (w64 (v26 + (w64 (v19 * v24))))))).map (eO 3 eI))])})] (B6 (idxO_some hv25).1 (map_get (eO 3 eI) (idxO_some hv25).2) (show frR [.sl (some 3) (v25.map eI)] = false from rfl) (show getRow [[.sl (some 26) (x21.1.map (eO 3 eI))]] [(0, 0), ((Int.toNat x10.2), 0)] = some [.sl (some 3) (v25.map eI)] from ((gr0 rfl).trans (gre (map_get (eO 3 eI) (idxO_some hv25).2)))) (idxO_some hv25).1 (map_get (eO 3 eI) (idxO_some hv25).2) (B6 (show frR [.sl (some 3) (v25.map eI)] = false from rfl) (show getRow [[.sl (some 26) (x21.1.map (eO 3 eI))]] [(0, 0), ((Int.toNat x10.2), 0)] = some [.sl (some 3) (v25.map eI)] from ((gr0 rfl).trans (gre (map_get (eO 3 eI) (idxO_some hv25).2)))) (idxO_some hv26).1 (map_get eI (idxO_some hv26).2) (show getRow [[.sl (some 26) (x21.1.map (eO 3 eI))]] [(0, 0), ((Int.toNat x10.2), 0)] = some [.sl (some 3) (v25.map eI)] from ((gr0 rfl).trans (gre (map_get (eO 3 eI) (idxO_some hv25).2)))) (show getRow [[.sl (some 26) (x21.1.map (eO 3 eI))]] [(0, 0), ((Int.toNat x10.2), 0), ((Int.toNat x21.2), 0)] = some (eI v26) from ((gr0 rfl).trans ((grs (map_get (eO 3 eI) (idxO_some hv25).2) rfl).trans (gre (map_get eI (idxO_some hv26).2))))) (A5 (idxO_some hv26).1 (map_get eI (idxO_some hv26).2) (show getRow [[.sl (some 26) (x21.1.map (eO 3 eI))]] [(0, 0), ((Int.toNat x10.2), 0)] = some [.sl (some 3) (v25.map eI)] from ((gr0 rfl).trans (gre (map_get (eO 3 eI) (idxO_some hv25).2)))) (show getRow [[.sl (some 26) (x21.1.map (eO 3 eI))]] [(0, 0), ((Int.toNat x10.2), 0), ((Int.toNat x21.2), 0)] = some (eI v26) from ((gr0 rfl).trans ((grs (map_get (eO 3 eI) (idxO_some hv25).2) rfl).trans (gre (map_get eI (idxO_some hv26).2))))) (show (SV.ov false [.sl (some 26) (setL (x21.1.map (eO 3 eI)) [((Int.toNat x10.2), 0), ((Int.toNat x21.2), 0)] [rI (if a2 < (w64 (v26 + (w64 (v19 * v24)))) then a2 else (w64 (v26 + (w64 (v19 * v24)))))])] : SV) = .ov false [.sl (some 26) ((x21.1.set (Int.toNat x10.2) (v25.set (Int.toNat x21.2) (if a2 < (w64 (v26 + (w64 (v19 * v24)))) then a2 else (w64 (v26 + (w64 (v19 * v24))))))).map (eO 3 eI))] from (congrArg (fun z => SV.ov false [.sl (some 26) z]) (set2 (f := (eO 3 eI)) (y := (v25.set (Int.toNat x21.2) (if a2 < (w64 (v26 + (w64 (v19 * v24)))) then a2 else (w64 (v26 + (w64 (v19 * v24))))))) (idxO_some hv25).2 rfl (set1 (f := eI) (y := (if a2 < (w64 (v26 + (w64 (v19 * v24)))) then a2 else (w64 (v26 + (w64 (v19 * v24)))))) (idxO_some hv26).2 rfl) rfl))))))) ?_
           refine b_n ?_
           refine q_n ?_
           refine k_reg (r_gq [(0, .d false [.sl none (a0.map (eF eI))]), (2, .p (iV a2)), (7, .ov false [.sl (some 26) (x4.1.map (eO 3 eI))]), (9, .ov false [.sl (some 26) ((x21.1.set (Int.toNat x10.2) (v25.set (Int.toNat x21.2) (if a2 < (w64 (v26 + (w64 (v19 * v24)))) then a2 else (w64 (v26 + (w64 (v19 * v24))))))).map (eO 3 eI))]), (10, .p (iV x10.2)), (13, .p (iV v19)), (31, .p (iV a1)), (32, .p (iV x4.2)), (37, .ref 7 [(0, 0)] none), (38, .p (iV (x4.1.length : Int))), (39, .p (iV x10.2)), (44, .ref 7 [(0, 0), ((Int.toNat x10.2), 0)] none), (45, .p (iV (v14.length : Int))), (46, .p (iV x15.2)), (54, .d false [.sl none (v20.map eI)]), (55, .p (iV (v20.length : Int))), (56, .p (iV (w64 (x21.2 + 1))))] [] trivial) ?_
           exact lqn ((x21.1.set (Int.toNat x10.2) (v25.set (Int.toNat x21.2) (if a2 < (w64 (v26 + (w64 (v19 * v24)))) then a2 else (w64 (v26 + (w64 (v19 * v24))))))), (w64 (x21.2 + 1))) h
          ·replace h := ite_f hc18_22 h
           refine k_exit ?_
           refine q_x ?_
           refine lq_x ?_
           refine b_x ?_
           refine b_n ?_
           have hyy := hy_x21 _ (oi h).symm
           subst hyy
           have h := hk_x21
           refine q_n ?_
           exact jx x21.1 h
        ·replace h := ite_f hc14_16 h
         refine k_exit ?_
         refine q_x ?_
         refine lq_x ?_
         refine b_x ?_
         refine b_n ?_
         have hyy := hy_x15 _ (oi h).symm
         subst hyy
         have h := hk_x15
         refine q_n ?_
         exact jx x15.1 h
      ·replace h := ite_f hc10_11 h
       refine k_exit ?_
       refine q_x ?_
       refine lq_x ?_
       refine b_x ?_
       have hyy := hy_x10 _ (oi h).symm
       subst hyy
       have h := hk_x10
       refine q_n ?_
       exact jx x10.1 h
   ·replace h := ite_f hc5_5 h
    refine k_exit ?_
    refine q_x ?_
    refine lq_x ?_
    refine b_x ?_
    have hyy := hy_x4 _ (oi h).symm
    subst hyy
    have h := hk_x4
    refine q_n ?_
    exact jx x4.1 h
 ·refine k_sreg (r_gq [(0, .d false [.sl none (a0.map (eF eI))]), (1, .p (iV a1)), (2, .p (iV a2)), (7, .ov false [.sl (some 26) (v1.map (eO 3 eI))]), (20, .p (iV (v1.length : Int))), (21, .p (iV 0))] [(1, {n := some v1.length})] (A1 (show (v1.map (eO 3 eI)).length = v1.length from (List.length_map ..)))) ?_
  refine k_block ?_
  obtain ⟨y28, hl_x27, hk_x27⟩ := bs h
  clear h
  refine k_loop (J := fun (x : ((List (List Int)) × Int)) => [(0, .d false [.sl none (a0.map (eF eI))]), (1, .p (iV a1)), (2, .p (iV a2)), (7, .ov false [.sl (some 26) (x.1.map (eO 3 eI))]), (20, .p (iV (v1.length : Int))), (21, .p (iV x.2))]) hl_x27 (wk_of (by kernel_rfl) (by kernel_rfl)) (fun x27 o_x27 h hy_x27 => ?_)
  unfold impl_powerUpTo_b5 at h
  refine k_sreg (r_gq [(0, .d false [.sl none (a0.map (eF eI))]), (1, .p (iV a1)), (2, .p (iV a2)), (7, .ov false [.sl (some 26) (x27.1.map (eO 3 eI))]), (20, .p (iV (v1.length : Int))), (21, .p (iV x27.2)), (22, .p (.bool (decide (x27.2 < (v1.length : Int)))))] [] trivial) ?_
  refine k_seq ?_
  refine kc (decide (x27.2 < (v1.length : Int))) (fun hc5_28 => ?_) (fun hc5_28 => ?_)
  ·replace h := ite_t hc5_28 h
   refine k_skip ?_
   refine q_n ?_
   refine k_seq ?_
   refine k_block ?_
   refine k_sreg (r_gq [(0, .d false [.sl none (a0.map (eF eI))]), (1, .p (iV a1)), (2, .p (iV a2)), (7, .ov false [.sl (some 26) (x27.1.map (eO 3 eI))]), (8, .p (iV x27.2)), (20, .p (iV (v1.length : Int))), (21, .p (iV x27.2))] [] trivial) ?_
   replace h := bs h
   obtain ⟨v30, hv30, h⟩ := h
   replace h := bs h
   obtain ⟨v31, hv31, h⟩ := h
   refine k_reg (r_gq [(0, .d false [.sl none (a0.map (eF eI))]), (1, .p (iV a1)), (2, .p (iV a2)), (7, .ov false [.sl (some 26) ((x27.1.set (Int.toNat x27.2) (v30.set (Int.toNat x27.2) 1)).map (eO 3 eI))]), (20, .p (iV (v1.length : Int))), (21, .p (iV x27.2))] [(2, {row := some [.sl (some 3) (v30.map eI)]}), (3, {row := some [.sl (some 3) (v30.map eI)]}), (5, {deep := some [.sl (some 3) (v30.map eI)], row := some (eI v31)}), (6, {row := some (eI v31), fix := some (7, .ov false [.sl (some 26) ((x27.1.set (Int.toNat x27.2) (v30.set (Int.toNat x27.2) 1)).map (eO 3 eI))])})] (B6 (idxO_some hv30).1 (map_get (eO 3 eI) (idxO_some hv30).2) (show frR [.sl (some 3) (v30.map eI)] = false from rfl) (show getRow [[.sl (some 26) (x27.1.map (eO 3 eI))]] [(0, 0), ((Int.toNat x27.2), 0)] = some [.sl (some 3) (v30.map eI)] from ((gr0 rfl).trans (gre (map_get (eO 3 eI) (idxO_some hv30).2)))) (idxO_some hv31).1 (map_get eI (idxO_some hv31).2) (A3 (show getRow [[.sl (some 26) (x27.1.map (eO 3 eI))]] [(0, 0), ((Int.toNat x27.2), 0)] = some [.sl (some 3) (v30.map eI)] from ((gr0 rfl).trans (gre (map_get (eO 3 eI) (idxO_some hv30).2)))) (show getRow [[.sl (some 26) (x27.1.map (eO 3 eI))]] [(0, 0), ((Int.toNat x27.2), 0), ((Int.toNat x27.2), 0)] = some (eI v31) from ((gr0 rfl).trans ((grs (map_get (eO 3 eI) (idxO_some hv30).2) rfl).trans (gre (map_get eI (idxO_some hv31).2))))) (show (SV.ov false [.sl (some 26) (setL (x27.1.map (eO 3 eI)) [((Int.toNat x27.2), 0), ((Int.toNat x27.2), 0)] [rI 1])] : SV) = .ov false [.sl (some 26) ((x27.1.set (Int.toNat x27.2) (v30.set (Int.toNat x27.2) 1)).map (eO 3 eI))] from (congrArg (fun z => SV.ov false [.sl (some 26) z]) (set2 (f := (eO 3 eI)) (y := (v30.set (Int.toNat x27.2) 1)) (idxO_some hv30).2 rfl (set1 (f := eI) (y := 1) (idxO_some hv31).2 rfl) rfl)))))) ?_
   refine b_n ?_
   refine q_n ?_
   refine k_reg (r_gq [(0, .d false [.sl none (a0.map (eF eI))]), (1, .p (iV a1)), (2, .p (iV a2)), (7, .ov false [.sl (some 26) ((x27.1.set (Int.toNat x27.2) (v30.set (Int.toNat x27.2) 1)).map (eO 3 eI))]), (20, .p (iV (v1.length : Int))), (21, .p (iV (w64 (x27.2 + 1))))] [] trivial) ?_
   exact lqn ((x27.1.set (Int.toNat x27.2) (v30.set (Int.toNat x27.2) 1)), (w64 (x27.2 + 1))) h
  ·replace h := ite_f hc5_28 h
   refine k_exit ?_
   refine q_x ?_
   refine lq_x ?_
   refine b_x ?_
   have hyy := hy_x27 _ (oi h).symm
   subst hyy
   have h := hk_x27
   refine q_n ?_
   exact jx x27.1 h
theorem wk_impl_power {a0 : (List (List Int))} {a1 : Int}  {r : (List (List Int))} (h : impl_power a0 a1 = some r) : Meets Try.prog 120 [.d false [.sl none (a0.map (eF eI))], wI a1] { vals := [.ov false [.sl (some 26) (r.map (eO 3 eI))]] } := by
 refine mo Try.func120 [(0, .d false [.sl none (a0.map (eF eI))]), (1, .p (iV a1))] ?_
 unfold impl_power at h
 refine k_sreg (r_gq [(0, .d false [.sl none (a0.map (eF eI))]), (1, .p (iV a1))] [] trivial) ?_
 replace h := bs h
 obtain ⟨v1, hv1, h⟩ := h
 refine k_sreg (r_gq [(4, .ov false [.sl (some 26) (v1.map (eO 3 eI))])] [(2, {call := some (none, [.ov false [.sl (some 26) (v1.map (eO 3 eI))]], true)})] (A2 (wk_impl_powerUpTo hv1) (show List.all [.ov false [.sl (some 26) (v1.map (eO 3 eI))]] simpleR = true from (sa_o (wnR1 (wnL_enc (wn_O wn_I)) rfl) rfl)))) ?_
 refine k_ret ?_
 obtain rfl := oi h
 exact er [(.ov false [.sl (some 26) (v1.map (eO 3 eI))], 4)]
theorem wk_impl_TotalWalks {a0 : (List (List Int))} {a1 : Int}  {r : (Int × Bool)} (h : impl_TotalWalks a0 a1 = some r) : Meets Try.prog 55 [.d false [.sl none (a0.map (eF eI))], wI a1] { vals := [.p (iV r.1), .p (.bool r.2)] } := by
 refine mo Try.func55 [(0, .d false [.sl none (a0.map (eF eI))]), (1, .p (iV a1))] ?_
 unfold impl_TotalWalks at h
 refine k_sreg (r_gq [(0, .d false [.sl none (a0.map (eF eI))]), (1, .p (iV a1))] [] trivial) ?_
 refine k_seq ?_
 replace h := bs h
 obtain ⟨v1, hv1, h⟩ := h
 refine k_sreg (r_gq [(0, .d false [.sl none (a0.map (eF eI))]), (1, .p (iV a1)), (14, .p (.bool (!v1)))] [(2, {call := some (none, [.p (.bool v1)], true)})] (A1 (wk_impl_isWalk hv1))) ?_
 refine kc (!v1) (fun hc2_1 => ?_) (fun hc2_1 => ?_)
 ·replace h := ite_t hc2_1 h
  refine k_sreg (r_gq [(4, .p (iV 0)), (5, .p (.bool false))] [] trivial) ?_
  refine k_ret ?_
  refine q_r ?_
  obtain rfl := oi h
  exact er [(.p (iV 0), 4), (.p (.bool false), 5)]
 ·replace h := ite_f hc2_1 h
  refine k_skip ?_
  refine q_n ?_
  refine k_sreg (r_gq [(0, .d false [.sl none (a0.map (eF eI))]), (1, .p (iV a1)), (6, .p (iV 0))] [] trivial) ?_
  refine k_join (J := fun (x : Int) => [(6, .p (iV x))]) (K := fun x => impl_TotalWalks_k1 x = some r) (fun x3 h => ?_) ?_
  ·unfold impl_TotalWalks_k1 at h
   refine k_seq ?_
   refine k_sreg (r_gq [(6, .p (iV x3)), (35, .p (.bool (decide (x3 > 1000000000))))] [] trivial) ?_
   refine kc (decide (x3 > 1000000000)) (fun hc2_3 => ?_) (fun hc2_3 => ?_)
   ·replace h := ite_t hc2_3 h
    refine k_sreg (r_gq [(4, .p (iV 0)), (5, .p (.bool false))] [] trivial) ?_
    refine k_ret ?_
    refine q_r ?_
    obtain rfl := oi h
    exact er [(.p (iV 0), 4), (.p (.bool false), 5)]
   ·replace h := ite_f hc2_3 h
    refine k_skip ?_
    refine q_n ?_
    refine k_sreg (r_gq [(4, .p (iV x3)), (5, .p (.bool true))] [] trivial) ?_
    refine k_ret ?_
    obtain rfl := oi h
    exact er [(.p (iV x3), 4), (.p (.bool true), 5)]
  ·replace h := bs h
   obtain ⟨v5, hv5, h⟩ := h
   refine k_sreg (r_gq [(6, .p (iV 0)), (17, .ov false [.sl (some 26) (v5.map (eO 3 eI))]), (18, .p (iV (v5.length : Int))), (19, .p (iV 0))] [(2, {call := some (none, [.ov false [.sl (some 26) (v5.map (eO 3 eI))]], true)}), (3, {n := some v5.length})] (A3 (wk_impl_power hv5) (show List.all [.ov false [.sl (some 26) (v5.map (eO 3 eI))]] simpleR = true from (sa_o (wnR1 (wnL_enc (wn_O wn_I)) rfl) rfl)) (show (v5.map (eO 3 eI)).length = v5.length from (List.length_map ..)))) ?_
   refine k_block ?_
   obtain ⟨y7, hl_x6, hk_x6⟩ := bs h
   clear h
   refine k_loop (J := fun (x : Qr) => [(6, .p (iV x.1)), (17, .ov false [.sl (some 26) (v5.map (eO 3 eI))]), (18, .p (iV (v5.length : Int))), (19, .p (iV x.2))]) hl_x6 (wk_of (by kernel_rfl) (by kernel_rfl)) (fun x6 o_x6 h hy_x6 => ?_)
   unfold impl_TotalWalks_b1 at h
   refine k_sreg (r_gq [(6, .p (iV x6.1)), (17, .ov false [.sl (some 26) (v5.map (eO 3 eI))]), (18, .p (iV (v5.length : Int))), (19, .p (iV x6.2)), (20, .p (.bool (decide (x6.2 < (v5.length : Int)))))] [] trivial) ?_
   refine k_seq ?_
   refine kc (decide (x6.2 < (v5.length : Int))) (fun hc5_7 => ?_) (fun hc5_7 => ?_)
   ·replace h := ite_t hc5_7 h
    refine k_skip ?_
    refine q_n ?_
    refine k_join (J := fun (x : Int) => [(6, .p (iV x)), (17, .ov false [.sl (some 26) (v5.map (eO 3 eI))]), (18, .p (iV (v5.length : Int))), (19, .p (iV x6.2))]) (K := fun x => impl_TotalWalks_k2 x6 x = some o_x6) (fun x9 h => ?_) ?_
    ·unfold impl_TotalWalks_k2 at h
     refine k_reg (r_gq [(6, .p (iV x9)), (17, .ov false [.sl (some 26) (v5.map (eO 3 eI))]), (18, .p (iV (v5.length : Int))), (19, .p (iV (w64 (x6.2 + 1))))] [] trivial) ?_
     exact lqn (x9, (w64 (x6.2 + 1))) h
    ·refine k_block ?_
     replace h := bs h
     obtain ⟨v10, hv10, h⟩ := h
     refine k_sreg (r_gq [(6, .p (iV x6.1)), (8, .ref 17 [(0, 0), ((Int.toNat x6.2), 0)] none), (17, .ov false [.sl (some 26) (v5.map (eO 3 eI))]), (18, .p (iV (v5.length : Int))), (19, .p (iV x6.2))] [(0, {row := some [.sl (some 3) (v10.map eI)]}), (1, {row := some [.sl (some 3) (v10.map eI)]})] (A4 (idxO_some hv10).1 (map_get (eO 3 eI) (idxO_some hv10).2) (show frR [.sl (some 3) (v10.map eI)] = false from rfl) (show getRow [[.sl (some 26) (v5.map (eO 3 eI))]] [(0, 0), ((Int.toNat x6.2), 0)] = some [.sl (some 3) (v10.map eI)] from ((gr0 rfl).trans (gre (map_get (eO 3 eI) (idxO_some hv10).2)))))) ?_
     refine k_sreg (r_gq [(6, .p (iV x6.1)), (17, .ov false [.sl (some 26) (v5.map (eO 3 eI))]), (18, .p (iV (v5.length : Int))), (19, .p (iV x6.2)), (23, .ref 17 [(0, 0), ((Int.toNat x6.2), 0)] none), (24, .p (iV (v10.length : Int))), (25, .p (iV 0))] [(1, {deep := some [.sl (some 3) (v10.map eI)], n := some v10.length})] (A2 (show (v10.map eI).length = v10.length from (List.length_map ..)) (show getRow [[.sl (some 26) (v5.map (eO 3 eI))]] [(0, 0), ((Int.toNat x6.2), 0)] = some [.sl (some 3) (v10.map eI)] from ((gr0 rfl).trans (gre (map_get (eO 3 eI) (idxO_some hv10).2)))))) ?_
     refine k_block ?_
     obtain ⟨y12, hl_x11, hk_x11⟩ := bs h
     clear h
     refine k_loop (J := fun (x : Qr) => [(6, .p (iV x.1)), (17, .ov false [.sl (some 26) (v5.map (eO 3 eI))]), (18, .p (iV (v5.length : Int))), (19, .p (iV x6.2)), (23, .ref 17 [(0, 0), ((Int.toNat x6.2), 0)] none), (24, .p (iV (v10.length : Int))), (25, .p (iV x.2))]) hl_x11 (wk_of (by kernel_rfl) (by kernel_rfl)) (fun x11 o_x11 h hy_x11 => ?_)
     unfold impl_TotalWalks_b2 at h
     refine k_sreg (r_gq [(6, .p (iV x11.1)), (17, .ov false [.sl (some 26) (v5.map (eO 3 eI))]), (18, .p (iV (v5.length : Int))), (19, .p (iV x6.2)), (23, .ref 17 [(0, 0), ((Int.toNat x6.2), 0)] none), (24, .p (iV (v10.length : Int))), (25, .p (iV x11.2)), (26, .p (.bool (decide (x11.2 < (v10.length : Int)))))] [] trivial) ?_
     refine k_seq ?_
     refine kc (decide (x11.2 < (v10.length : Int))) (fun hc9_12 => ?_) (fun hc9_12 => ?_)
     ·replace h := ite_t hc9_12 h
      refine k_skip ?_
      refine q_n ?_
      refine k_seq ?_
      refine k_block ?_
      replace h := bs h
      obtain ⟨v14, hv14, h⟩ := h
      refine k_sreg (r_gq [(6, .p (iV x11.1)), (10, .p (iV v14)), (17, .ov false [.sl (some 26) (v5.map (eO 3 eI))]), (18, .p (iV (v5.length : Int))), (19, .p (iV x6.2)), (23, .ref 17 [(0, 0), ((Int.toNat x6.2), 0)] none), (24, .p (iV (v10.length : Int))), (25, .p (iV x11.2))] [(0, {deep := some [.sl (some 3) (v10.map eI)], row := some (eI v14)}), (1, {row := some (eI v14)})] (A4 (idxO_some hv14).1 (map_get eI (idxO_some hv14).2) (show getRow [[.sl (some 26) (v5.map (eO 3 eI))]] [(0, 0), ((Int.toNat x6.2), 0)] = some [.sl (some 3) (v10.map eI)] from ((gr0 rfl).trans (gre (map_get (eO 3 eI) (idxO_some hv10).2)))) (show getRow [[.sl (some 26) (v5.map (eO 3 eI))]] [(0, 0), ((Int.toNat x6.2), 0), ((Int.toNat x11.2), 0)] = some (eI v14) from ((gr0 rfl).trans ((grs (map_get (eO 3 eI) (idxO_some hv10).2) rfl).trans (gre (map_get eI (idxO_some hv14).2))))))) ?_
      refine k_reg (r_gq [(6, .p (iV (w64 (x11.1 + v14)))), (17, .ov false [.sl (some 26) (v5.map (eO 3 eI))]), (18, .p (iV (v5.length : Int))), (19, .p (iV x6.2)), (23, .ref 17 [(0, 0), ((Int.toNat x6.2), 0)] none), (24, .p (iV (v10.length : Int))), (25, .p (iV x11.2))] [] trivial) ?_
      refine b_n ?_
      refine q_n ?_
      refine k_reg (r_gq [(6, .p (iV (w64 (x11.1 + v14)))), (17, .ov false [.sl (some 26) (v5.map (eO 3 eI))]), (18, .p (iV (v5.length : Int))), (19, .p (iV x6.2)), (23, .ref 17 [(0, 0), ((Int.toNat x6.2), 0)] none), (24, .p (iV (v10.length : Int))), (25, .p (iV (w64 (x11.2 + 1))))] [] trivial) ?_
      exact lqn ((w64 (x11.1 + v14)), (w64 (x11.2 + 1))) h
     ·replace h := ite_f hc9_12 h
      refine k_exit ?_
      refine q_x ?_
      refine lq_x ?_
      refine b_x ?_
      refine b_n ?_
      have hyy := hy_x11 _ (oi h).symm
      subst hyy
      have h := hk_x11
      refine q_n ?_
      exact jx x11.1 h
   ·replace h := ite_f hc5_7 h
    refine k_exit ?_
    refine q_x ?_
    refine lq_x ?_
    refine b_x ?_
    have hyy := hy_x6 _ (oi h).symm
    subst hyy
    have h := hk_x6
    refine q_n ?_
    exact jx x6.1 h
theorem wk_spec_grSteps {a0 : Int}  {r : Bool} (h : spec_grSteps a0 = some r) : Meets Try.prog 80 [wI a0] { vals := [.p (.bool r)] } := by
 refine mo Try.func80 [(0, .p (iV a0))] ?_
 unfold spec_grSteps at h
 refine k_sreg (r_gq [(0, .p (iV a0))] [] trivial) ?_
 replace h := bs h
 obtain ⟨v1, hv1, h⟩ := h
 refine k_sreg (r_gq [(2, .p (.bool v1))] [(1, {call := some (none, [.p (.bool v1)], true)})] (A1 (wk_spec_l1In hv1))) ?_
 refine k_ret ?_
 obtain rfl := oi h
 exact er [(.p (.bool v1), 2)]
theorem wk_spec_TotalWalks {a0 : (List (List Int))} {a1 : Int}  {r : (Int × Bool)} (h : spec_TotalWalks a0 a1 = some r) : Meets Try.prog 56 [.d false [.sl none (a0.map (eF eI))], wI a1] { vals := [.p (iV r.1), .p (.bool r.2)] } := by
 refine mo Try.func56 [(0, .d false [.sl none (a0.map (eF eI))]), (1, .p (iV a1))] ?_
 unfold spec_TotalWalks at h
 refine k_sreg (r_gq [(0, .d false [.sl none (a0.map (eF eI))]), (1, .p (iV a1))] [] trivial) ?_
 refine k_seq ?_
 replace h := bs h
 obtain ⟨v1, hv1, h⟩ := h
 replace h := bs h
 obtain ⟨w4, hw4, h⟩ := h
 refine k_sreg (l1 := [(0, .d false [.sl none (a0.map (eF eI))]), (1, .p (iV a1)), (19, .p (.bool w4))]) ?_ ?_
 ·clear h
  rcases ft (!v1) with ha0 | ha0
  ·replace hw4 := ite_t ha0 hw4
   have hw4 := oi hw4
   subst hw4
   exact (r_gq [(0, .d false [.sl none (a0.map (eF eI))]), (1, .p (iV a1)), (19, .p (.bool true))] [(1, {call := some (none, [.p (.bool v1)], true)}), (4, gT), (5, gT), (6, gT), (7, bT), (9, gT), (10, gT), (11, gT), (12, gT), (13, bT)] (B6 (wk_spec_grGood hv1) ha0 ha0 ha0 ha0 (show true = true from rfl) (A4 (show true = true from rfl) (show true = true from rfl) (show true = true from rfl) (show true = true from rfl))))
  ·replace hw4 := ite_f ha0 hw4
   replace hw4 := bs hw4
   obtain ⟨v2, hv2, hw4⟩ := hw4
   rcases ft (!v2) with ha1 | ha1
   ·replace hw4 := ite_t ha1 hw4
    have hw4 := oi hw4
    subst hw4
    exact (r_gq [(0, .d false [.sl none (a0.map (eF eI))]), (1, .p (iV a1)), (19, .p (.bool true))] [(1, {call := some (none, [.p (.bool v1)], true)}), (4, gF), (5, {g := some false, call := some (none, [.p (.bool v2)], true)}), (6, gF), (7, bF), (9, gT), (10, gT), (11, gT), (12, gT), (13, bT)] (B6 (wk_spec_grGood hv1) ha0 ha0 (wk_spec_grSteps hv2) ha0 ha0 (A5 ha1 ha1 ha1 ha1 ha1)))
   ·replace hw4 := ite_f ha1 hw4
    replace hw4 := bs hw4
    obtain ⟨v3, hv3, hw4⟩ := hw4
    have hw4 := oi hw4
    subst hw4
    exact (r_gq [(0, .d false [.sl none (a0.map (eF eI))]), (1, .p (iV a1)), (19, .p (.bool (decide (v3 > 1000000000))))] [(1, {call := some (none, [.p (.bool v1)], true)}), (4, gF), (5, {g := some false, call := some (none, [.p (.bool v2)], true)}), (6, gF), (7, bF), (9, gF), (10, gF), (11, {g := some false, call := some (none, [.p (iV v3)], true)}), (12, gF), (13, bF)] (B6 (wk_spec_grGood hv1) ha0 ha0 (wk_spec_grSteps hv2) ha0 ha0 (A6 ha1 ha1 ha1 (wk_spec_gwTotal hv3) ha1 ha1)))
 ·refine kc w4 (fun hc2_4 => ?_) (fun hc2_4 => ?_)
  ·replace h := ite_t hc2_4 h
   refine k_sreg (r_gq [(4, .p (iV 0)), (5, .p (.bool false))] [] trivial) ?_
   refine k_ret ?_
   refine q_r ?_
   obtain rfl := oi h
   exact er [(.p (iV 0), 4), (.p (.bool false), 5)]
  ·replace h := ite_f hc2_4 h
   refine k_skip ?_
   refine q_n ?_
   replace h := bs h
   obtain ⟨v6, hv6, h⟩ := h
   refine k_sreg (r_gq [(4, .p (iV v6)), (5, .p (.bool true))] [(2, {call := some (none, [.p (iV v6)], true)})] (A1 (wk_spec_gwTotal hv6))) ?_
   refine k_ret ?_
   obtain rfl := oi h
   exact er [(.p (iV v6), 4), (.p (.bool true), 5)]
theorem wk_impl_closedWalks {a0 : (List (List Int))} {a1 : Int}  {r : (Int × Bool)} (h : impl_closedWalks a0 a1 = some r) : Meets Try.prog 70 [.d false [.sl none (a0.map (eF eI))], wI a1] { vals := [.p (iV r.1), .p (.bool r.2)] } := by
 refine mo Try.func70 [(0, .d false [.sl none (a0.map (eF eI))]), (1, .p (iV a1))] ?_
 unfold impl_closedWalks at h
 refine k_sreg (r_gq [(0, .d false [.sl none (a0.map (eF eI))]), (1, .p (iV a1))] [] trivial) ?_
 refine k_sreg (r_gq [(0, .d false [.sl none (a0.map (eF eI))]), (1, .p (iV a1)), (6, .p (iV 0))] [] trivial) ?_
 refine k_join (J := fun (x : Int) => [(6, .p (iV x))]) (K := fun x => impl_closedWalks_k1 x = some r) (fun x1 h => ?_) ?_
 ·unfold impl_closedWalks_k1 at h
  refine k_seq ?_
  refine k_sreg (r_gq [(6, .p (iV x1)), (26, .p (.bool (decide (x1 > 1000000000))))] [] trivial) ?_
  refine kc (decide (x1 > 1000000000)) (fun hc2_1 => ?_) (fun hc2_1 => ?_)
  ·replace h := ite_t hc2_1 h
   refine k_sreg (r_gq [(4, .p (iV 0)), (5, .p (.bool false))] [] trivial) ?_
   refine k_ret ?_
   refine q_r ?_
   obtain rfl := oi h
   exact er [(.p (iV 0), 4), (.p (.bool false), 5)]
  ·replace h := ite_f hc2_1 h
   refine k_skip ?_
   refine q_n ?_
   refine k_sreg (r_gq [(4, .p (iV x1)), (5, .p (.bool true))] [] trivial) ?_
   refine k_ret ?_
   obtain rfl := oi h
   exact er [(.p (iV x1), 4), (.p (.bool true), 5)]
 ·replace h := bs h
  obtain ⟨v3, hv3, h⟩ := h
  refine k_sreg (r_gq [(6, .p (iV 0)), (11, .ov false [.sl (some 26) (v3.map (eO 3 eI))]), (12, .p (iV (v3.length : Int))), (13, .p (iV 0))] [(2, {call := some (none, [.ov false [.sl (some 26) (v3.map (eO 3 eI))]], true)}), (3, {n := some v3.length})] (A3 (wk_impl_power hv3) (show List.all [.ov false [.sl (some 26) (v3.map (eO 3 eI))]] simpleR = true from (sa_o (wnR1 (wnL_enc (wn_O wn_I)) rfl) rfl)) (show (v3.map (eO 3 eI)).length = v3.length from (List.length_map ..)))) ?_
  refine k_block ?_
  obtain ⟨y5, hl_x4, hk_x4⟩ := bs h
  clear h
  refine k_loop (J := fun (x : Qr) => [(6, .p (iV x.1)), (11, .ov false [.sl (some 26) (v3.map (eO 3 eI))]), (12, .p (iV (v3.length : Int))), (13, .p (iV x.2))]) hl_x4 (wk_of (by kernel_rfl) (by kernel_rfl)) (fun x4 o_x4 h hy_x4 => ?_)
  unfold impl_closedWalks_b1 at h
  refine k_sreg (r_gq [(6, .p (iV x4.1)), (11, .ov false [.sl (some 26) (v3.map (eO 3 eI))]), (12, .p (iV (v3.length : Int))), (13, .p (iV x4.2)), (14, .p (.bool (decide (x4.2 < (v3.length : Int)))))] [] trivial) ?_
  refine k_seq ?_
  refine kc (decide (x4.2 < (v3.length : Int))) (fun hc5_5 => ?_) (fun hc5_5 => ?_)
  ·replace h := ite_t hc5_5 h
   refine k_skip ?_
   refine q_n ?_
   refine k_seq ?_
   refine k_block ?_
   replace h := bs h
   obtain ⟨v7, hv7, h⟩ := h
   refine k_sreg (r_gq [(6, .p (iV x4.1)), (7, .p (iV x4.2)), (8, .ref 11 [(0, 0), ((Int.toNat x4.2), 0)] none), (11, .ov false [.sl (some 26) (v3.map (eO 3 eI))]), (12, .p (iV (v3.length : Int))), (13, .p (iV x4.2))] [(1, {row := some [.sl (some 3) (v7.map eI)]}), (2, {row := some [.sl (some 3) (v7.map eI)]})] (A4 (idxO_some hv7).1 (map_get (eO 3 eI) (idxO_some hv7).2) (show frR [.sl (some 3) (v7.map eI)] = false from rfl) (show getRow [[.sl (some 26) (v3.map (eO 3 eI))]] [(0, 0), ((Int.toNat x4.2), 0)] = some [.sl (some 3) (v7.map eI)] from ((gr0 rfl).trans (gre (map_get (eO 3 eI) (idxO_some hv7).2)))))) ?_
   replace h := bs h
   obtain ⟨v8, hv8, h⟩ := h
   refine k_reg (r_gq [(6, .p (iV (w64 (x4.1 + v8)))), (11, .ov false [.sl (some 26) (v3.map (eO 3 eI))]), (12, .p (iV (v3.length : Int))), (13, .p (iV x4.2))] [(3, {deep := some [.sl (some 3) (v7.map eI)], row := some (eI v8)}), (4, {row := some (eI v8)})] (A4 (idxO_some hv8).1 (map_get eI (idxO_some hv8).2) (show getRow [[.sl (some 26) (v3.map (eO 3 eI))]] [(0, 0), ((Int.toNat x4.2), 0)] = some [.sl (some 3) (v7.map eI)] from ((gr0 rfl).trans (gre (map_get (eO 3 eI) (idxO_some hv7).2)))) (show getRow [[.sl (some 26) (v3.map (eO 3 eI))]] [(0, 0), ((Int.toNat x4.2), 0), ((Int.toNat x4.2), 0)] = some (eI v8) from ((gr0 rfl).trans ((grs (map_get (eO 3 eI) (idxO_some hv7).2) rfl).trans (gre (map_get eI (idxO_some hv8).2))))))) ?_
   refine b_n ?_
   refine q_n ?_
   refine k_reg (r_gq [(6, .p (iV (w64 (x4.1 + v8)))), (11, .ov false [.sl (some 26) (v3.map (eO 3 eI))]), (12, .p (iV (v3.length : Int))), (13, .p (iV (w64 (x4.2 + 1))))] [] trivial) ?_
   exact lqn ((w64 (x4.1 + v8)), (w64 (x4.2 + 1))) h
  ·replace h := ite_f hc5_5 h
   refine k_exit ?_
   refine q_x ?_
   refine lq_x ?_
   refine b_x ?_
   have hyy := hy_x4 _ (oi h).symm
   subst hyy
   have h := hk_x4
   refine q_n ?_
   exact jx x4.1 h
theorem wk_impl_TraceOf {a0 : (List (List Int))}  {r : (Int × Bool)} (h : impl_TraceOf a0 = some r) : Meets Try.prog 14 [.d false [.sl none (a0.map (eF eI))]] { vals := [.p (iV r.1), .p (.bool r.2)] } := by
 refine mo Try.func14 [(0, .d false [.sl none (a0.map (eF eI))])] ?_
 unfold impl_TraceOf at h
 refine k_sreg (r_gq [(0, .d false [.sl none (a0.map (eF eI))])] [] trivial) ?_
 refine k_seq ?_
 replace h := bs h
 obtain ⟨v1, hv1, h⟩ := h
 refine k_sreg (r_gq [(0, .d false [.sl none (a0.map (eF eI))]), (6, .p (.bool (!v1)))] [(1, {call := some (none, [.p (.bool v1)], true)})] (A1 (wk_impl_isGraph hv1))) ?_
 refine kc (!v1) (fun hc2_1 => ?_) (fun hc2_1 => ?_)
 ·replace h := ite_t hc2_1 h
  refine k_sreg (r_gq [(2, .p (iV 0)), (3, .p (.bool false))] [] trivial) ?_
  refine k_ret ?_
  refine q_r ?_
  obtain rfl := oi h
  exact er [(.p (iV 0), 2), (.p (.bool false), 3)]
 ·replace h := ite_f hc2_1 h
  refine k_skip ?_
  refine q_n ?_
  replace h := bs h
  obtain ⟨v3, hv3, h⟩ := h
  refine k_sreg (r_gq [(2, .p (iV v3.1)), (3, .p (.bool v3.2))] [(1, {call := some (none, [.p (iV v3.1), .p (.bool v3.2)], true)})] (A1 (wk_impl_closedWalks hv3))) ?_
  refine k_ret ?_
  obtain rfl := oi h
  exact er [(.p (iV v3.1), 2), (.p (.bool v3.2), 3)]
theorem wk_slices_Reverse_Lint_int {a0 : (List Int)}  {r : (List Int)} (h : slices_Reverse_Lint_int a0 = some r) : MeetsB Try.prog 68 (.ov false [.sl (some 3) (a0.map eI)]) [] [] (.ov false [.sl (some 3) (r.map eI)]) := by
 refine mob Try.func68 [(0, .ov false [.sl (some 3) (a0.map eI)])] ?_
 unfold slices_Reverse_Lint_int at h
 refine k_sreg (r_gq [(0, .ov false [.sl (some 3) (a0.map eI)]), (2, .p (iV 0)), (3, .p (iV (w64 ((a0.length : Int) - 1))))] [(1, {n := some a0.length})] (A1 (show (a0.map eI).length = a0.length from (List.length_map ..)))) ?_
 refine k_block ?_
 obtain ⟨y2, hl_x1, hk_x1⟩ := bs h
 clear h
 refine k_loop (J := fun (x : Cu) => [(0, .ov false [.sl (some 3) (x.1.map eI)]), (2, .p (iV x.2.1)), (3, .p (iV x.2.2))]) hl_x1 (wk_of (by kernel_rfl) (by kernel_rfl)) (fun x1 o_x1 h hy_x1 => ?_)
 unfold slices_Reverse_Lint_int_b1 at h
 refine k_seq ?_
 refine k_sreg (r_gq [(0, .ov false [.sl (some 3) (x1.1.map eI)]), (2, .p (iV x1.2.1)), (3, .p (iV x1.2.2)), (9, .p (.bool (decide (x1.2.1 < x1.2.2))))] [] trivial) ?_
 refine kc (decide (x1.2.1 < x1.2.2)) (fun hc4_2 => ?_) (fun hc4_2 => ?_)
 ·replace h := ite_t hc4_2 h
  refine k_skip ?_
  refine q_n ?_
  refine k_seq ?_
  refine k_block ?_
  replace h := bs h
  obtain ⟨v4, hv4, h⟩ := h
  replace h := bs h
  obtain ⟨v5, hv5, h⟩ := h
  replace h := bs h
  obtain ⟨u6, hu6, h⟩ := h
  refine k_reg (r_swap (t := 26) (e := 3) (g := false) (sz := 1) (rows := (x1.1.map eI)) (rows' := (((x1.1.set (Int.toNat x1.2.1) v5).set (Int.toNat x1.2.2) v4).map eI)) (i := x1.2.1) (j := x1.2.2) (ri := eI v4) (rj := eI v5) [(0, .ov false [.sl (some 3) (((x1.1.set (Int.toNat x1.2.1) v5).set (Int.toNat x1.2.2) v4).map eI)]), (2, .p (iV x1.2.1)), (3, .p (iV x1.2.2))] Try_mixed ⟨rfl, rfl⟩ ⟨rfl, rfl⟩ ⟨rfl, rfl⟩ ⟨rfl, rfl⟩ ⟨rfl, rfl⟩ ⟨rfl, rfl⟩ ⟨rfl, rfl⟩ ⟨rfl, rfl⟩ ⟨rfl, rfl⟩ ⟨rfl, rfl⟩ ⟨rfl, rfl⟩ ⟨rfl, rfl⟩ ⟨rfl, rfl⟩ ⟨rfl, rfl⟩ ⟨rfl, rfl⟩ ⟨rfl, rfl⟩ (by kernel_rfl) (by kernel_rfl) (by kernel_rfl) (by decide) (by kernel_rfl) (by kernel_rfl) (by kernel_rfl) (by kernel_rfl) (by kernel_rfl) (raw_map fun _ => rfl) (idxO_some hv4).1 (idxO_some hv5).1 (map_get eI (idxO_some hv4).2) (map_get eI (idxO_some hv5).2) (guardO_some hu6) (by simp only [List.map_set])) ?_
  refine b_n ?_
  refine q_n ?_
  refine k_reg (r_gq [(0, .ov false [.sl (some 3) (((x1.1.set (Int.toNat x1.2.1) v5).set (Int.toNat x1.2.2) v4).map eI)]), (2, .p (iV (w64 (x1.2.1 + 1)))), (3, .p (iV (w64 (x1.2.2 - 1))))] [] trivial) ?_
  exact lqn (((x1.1.set (Int.toNat x1.2.1) v5).set (Int.toNat x1.2.2) v4), (w64 (x1.2.1 + 1)), (w64 (x1.2.2 - 1))) h
 ·replace h := ite_f hc4_2 h
  refine k_exit ?_
  refine q_x ?_
  refine lq_x ?_
  refine b_x ?_
  have hyy := hy_x1 _ (oi h).symm
  subst hyy
  have h := hk_x1
  obtain rfl := oi h
  exact ebe []
theorem wk_impl_ZetaDenominator {a0 : (List (List Int))}  {r : ((List Int) × Bool)} (h : impl_ZetaDenominator a0 = some r) : Meets Try.prog 10 [.d false [.sl none (a0.map (eF eI))]] { vals := [.ov false [.sl (some 3) (r.1.map eI)], .p (.bool r.2)] } := by
 refine mo Try.func10 [(0, .d false [.sl none (a0.map (eF eI))])] ?_
 unfold impl_ZetaDenominator at h
 refine k_sreg (r_gq [(0, .d false [.sl none (a0.map (eF eI))])] [] trivial) ?_
 refine k_seq ?_
 replace h := bs h
 obtain ⟨v1, hv1, h⟩ := h
 refine k_sreg (r_gq [(0, .d false [.sl none (a0.map (eF eI))]), (7, .p (.bool (!v1)))] [(1, {call := some (none, [.p (.bool v1)], true)})] (A1 (wk_impl_isGraph hv1))) ?_
 refine kc (!v1) (fun hc2_1 => ?_) (fun hc2_1 => ?_)
 ·replace h := ite_t hc2_1 h
  refine k_sreg (r_gq [(2, .ov false [.sl (some 3) []]), (3, .p (.bool false))] [] trivial) ?_
  refine k_ret ?_
  refine q_r ?_
  obtain rfl := oi h
  exact er [(.ov false [.sl (some 3) []], 2), (.p (.bool false), 3)]
 ·replace h := ite_f hc2_1 h
  refine k_skip ?_
  refine q_n ?_
  replace h := bs h
  obtain ⟨v3, hv3, h⟩ := h
  refine k_sreg (r_gq [(4, .ov false [.sl (some 3) (v3.map eI)])] [(1, {call := some (none, [.ov false [.sl (some 3) (v3.map eI)]], true)})] (A2 (wk_impl_characteristic hv3) (show List.all [.ov false [.sl (some 3) (v3.map eI)]] simpleR = true from (sa_o (wnR1 (wnL_enc wn_I) rfl) rfl)))) ?_
  replace h := bs h
  obtain ⟨v4, hv4, h⟩ := h
  refine k_sreg (r_gq [(4, .ov false [.sl (some 3) (v4.map eI)])] [(1, {lend := some (none, [], .ov false [.sl (some 3) (v4.map eI)], true)})] (A2 (wk_slices_Reverse_Lint_int hv4) (show (List.all [] simpleR && wnS (.ov false [.sl (some 3) (v4.map eI)])) = true from (ls_t rfl (wnR1 (wnL_enc wn_I) rfl))))) ?_
  replace h := bs h
  obtain ⟨v5, hv5, h⟩ := h
  refine k_sreg (r_gq [(2, .ov false [.sl (some 3) (v5.1.map eI)]), (3, .p (.bool v5.2))] [(1, {call := some (some [.d false [.sl none (v4.map eI)]], [.ov false [.sl (some 3) (v5.1.map eI)], .p (.bool v5.2)], true)})] (A3 (show ([.d false [.sl none (eraL (v4.map eI))]] : List Arg) = [.d false [.sl none (v4.map eI)]] from (by simp only [eraL_enc (h := eI) er_I])) (wk_impl_polynomial hv5) (show List.all [.ov false [.sl (some 3) (v5.1.map eI)], .p (.bool v5.2)] simpleR = true from (sa_o (wnR1 (wnL_enc wn_I) rfl) (sa_p rfl))))) ?_
  refine k_ret ?_
  obtain rfl := oi h
  exact er [(.ov false [.sl (some 3) (v5.1.map eI)], 2), (.p (.bool v5.2), 3)]
theorem wk_spec_DrawPowerSums {a0 : (List Int)}  {r : ((List Int) × Int)} (h : spec_DrawPowerSums a0 = some r) : Meets Try.prog 57 [.d false [.sl none (a0.map (eU .u8))]] { vals := [.ov false [.sl (some 3) (r.1.map eI)], .p (iV r.2)] } := by
 refine mo Try.func57 [(0, .d false [.sl none (a0.map (eU .u8))])] ?_
 unfold spec_DrawPowerSums at h
 refine k_sreg (r_gq [(0, .d false [.sl none (a0.map (eU .u8))])] [] trivial) ?_
 refine k_sreg (r_gq [(4, .addr 7 [(0, 0)]), (7, .box (eCu (a0, 0, 0)))] [] trivial) ?_
 replace h := bs h
 obtain ⟨v1, hv1, h⟩ := h
 replace h := bs h
 obtain ⟨v2, hv2, h⟩ := h
 replace h := bs h
 obtain ⟨v3, hv3, h⟩ := h
 refine k_sreg (r_gq [(2, .ov false [.sl (some 3) (v1.1.map eI)]), (3, .p (iV v3.1))] [(1, {lend := some (none, [.ov false [.sl (some 3) (v1.1.map eI)]], .box (eCu v1.2), false)}), (5, {lend := some (some [.d false [.sl none (([0, 13]).map eI)]], [.p (iV v2.1)], .box (eCu v2.2), false), fix := some (12, .d false [.sl none (([0, 13]).map eI)])}), (7, {lend := some (some [.d false [.sl none (([1, 2, 3, 5, 8, 12, v2.1]).map eI)]], [.p (iV v3.1)], .box (eCu v3.2), false), fix := some (14, .d false [.sl none (([1, 2, 3, 5, 8, 12, v2.1]).map eI)])})] (B6 (wk_spec_l1Cur_monicPoly hv1) (show ([.d false [.sl none (eraL (([0, 13]).map eI))]] : List Arg) = [.d false [.sl none (([0, 13]).map eI)]] from (by simp only [eraL_enc (h := eI) er_I])) (wk_spec_l1Cur_among hv2) (show (SV.d false (eraR [.sl (some 3) (([0, 13]).map eI)]) : SV) = .d false [.sl none (([0, 13]).map eI)] from (congrArg (fun z => SV.d false z) (erc_sl (eraL_enc er_I) rfl))) (show ([.d false [.sl none (eraL (([1, 2, 3, 5, 8, 12, v2.1]).map eI))]] : List Arg) = [.d false [.sl none (([1, 2, 3, 5, 8, 12, v2.1]).map eI)]] from (by simp only [eraL_enc (h := eI) er_I])) (wk_spec_l1Cur_among hv3) (A1 (show (SV.d false (eraR [.sl (some 3) (([1, 2, 3, 5, 8, 12, v2.1]).map eI)]) : SV) = .d false [.sl none (([1, 2, 3, 5, 8, 12, v2.1]).map eI)] from (congrArg (fun z => SV.d false z) (erc_sl (eraL_enc er_I) rfl)))))) ?_
 refine k_ret ?_
 obtain rfl := oi h
 exact er [(.ov false [.sl (some 3) (v1.1.map eI)], 2), (.p (iV v3.1), 3)]
theorem wk_impl_PowerSums {a0 : (List Int)} {a1 : Int}  {r : ((List Int) × Bool)} (h : impl_PowerSums a0 a1 = some r) : Meets Try.prog 17 [.d false [.sl none (a0.map eI)], wI a1] { vals := [.ov false [.sl (some 3) (r.1.map eI)], .p (.bool r.2)] } := by
 refine mo Try.func17 [(0, .d false [.sl none (a0.map eI)]), (1, .p (iV a1))] ?_
 unfold impl_PowerSums at h
 refine k_sreg (r_gq [(0, .d false [.sl none (a0.map eI)]), (1, .p (iV a1))] [] trivial) ?_
 refine k_sreg (r_gq [(0, .d false [.sl none (a0.map eI)]), (1, .p (iV a1)), (6, .p (iV (w64 ((a0.length : Int) - 1))))] [(1, {n := some a0.length})] (A1 (show (a0.map eI).length = a0.length from (List.length_map ..)))) ?_
 refine k_seq ?_
 replace h := bs h
 obtain ⟨v1, hv1, h⟩ := h
 replace h := bs h
 obtain ⟨w4, hw4, h⟩ := h
 refine k_sreg (l1 := [(0, .d false [.sl none (a0.map eI)]), (1, .p (iV a1)), (6, .p (iV (w64 ((a0.length : Int) - 1)))), (30, .p (.bool w4))]) ?_ ?_
 ·clear h
  rcases ft (!v1) with ha0 | ha0
  ·replace hw4 := ite_t ha0 hw4
   have hw4 := oi hw4
   subst hw4
   exact (r_gq [(0, .d false [.sl none (a0.map eI)]), (1, .p (iV a1)), (6, .p (iV (w64 ((a0.length : Int) - 1)))), (30, .p (.bool true))] [(1, {call := some (none, [.p (.bool v1)], true)}), (4, gT), (5, gT), (6, gT), (7, bT), (9, gT), (10, gT), (11, bT), (13, gT), (14, gT), (15, gT), (16, bT)] (B6 (wk_impl_isPolynomial hv1) ha0 ha0 ha0 ha0 (show true = true from rfl) (A6 (show true = true from rfl) (show true = true from rfl) (show true = true from rfl) (show true = true from rfl) (show true = true from rfl) (show true = true from rfl))))
  ·replace hw4 := ite_f ha0 hw4
   replace hw4 := bs hw4
   obtain ⟨v2, hv2, hw4⟩ := hw4
   rcases ft (!v2) with ha1 | ha1
   ·replace hw4 := ite_t ha1 hw4
    have hw4 := oi hw4
    subst hw4
    exact (r_gq [(0, .d false [.sl none (a0.map eI)]), (1, .p (iV a1)), (6, .p (iV (w64 ((a0.length : Int) - 1)))), (30, .p (.bool true))] [(1, {call := some (none, [.p (.bool v1)], true)}), (4, gF), (5, {g := some false, call := some (none, [.p (.bool v2)], true)}), (6, gF), (7, bF), (9, gT), (10, gT), (11, bT), (13, gT), (14, gT), (15, gT), (16, bT)] (B6 (wk_impl_isPolynomial hv1) ha0 ha0 (wk_impl_isMonic hv2) ha0 ha0 (B6 ha1 ha1 ha1 (show true = true from rfl) (show true = true from rfl) (show true = true from rfl) (A1 (show true = true from rfl)))))
   ·replace hw4 := ite_f ha1 hw4
    rcases ft (decide ((w64 ((a0.length : Int) - 1)) < 1)) with ha2 | ha2
    ·replace hw4 := ite_t ha2 hw4
     have hw4 := oi hw4
     subst hw4
     exact (r_gq [(0, .d false [.sl none (a0.map eI)]), (1, .p (iV a1)), (6, .p (iV (w64 ((a0.length : Int) - 1)))), (30, .p (.bool true))] [(1, {call := some (none, [.p (.bool v1)], true)}), (4, gF), (5, {g := some false, call := some (none, [.p (.bool v2)], true)}), (6, gF), (7, bF), (9, gF), (10, gF), (11, bF), (13, gT), (14, gT), (15, gT), (16, bT)] (B6 (wk_impl_isPolynomial hv1) ha0 ha0 (wk_impl_isMonic hv2) ha0 ha0 (B6 ha1 ha1 ha1 ha2 ha2 ha2 (A1 ha2))))
    ·replace hw4 := ite_f ha2 hw4
     replace hw4 := bs hw4
     obtain ⟨v3, hv3, hw4⟩ := hw4
     have hw4 := oi hw4
     subst hw4
     exact (r_gq [(0, .d false [.sl none (a0.map eI)]), (1, .p (iV a1)), (6, .p (iV (w64 ((a0.length : Int) - 1)))), (30, .p (.bool (!v3)))] [(1, {call := some (none, [.p (.bool v1)], true)}), (4, gF), (5, {g := some false, call := some (none, [.p (.bool v2)], true)}), (6, gF), (7, bF), (9, gF), (10, gF), (11, bF), (13, gF), (14, {g := some false, call := some (none, [.p (.bool v3)], true)}), (15, gF), (16, bF)] (B6 (wk_impl_isPolynomial hv1) ha0 ha0 (wk_impl_isMonic hv2) ha0 ha0 (B6 ha1 ha1 ha1 ha2 ha2 (wk_impl_within hv3) (A2 ha2 ha2))))
 ·refine kc w4 (fun hc2_4 => ?_) (fun hc2_4 => ?_)
  ·replace h := ite_t hc2_4 h
   refine k_sreg (r_gq [(4, .ov false [.sl (some 3) []]), (5, .p (.bool false))] [] trivial) ?_
   refine k_ret ?_
   refine q_r ?_
   obtain rfl := oi h
   exact er [(.ov false [.sl (some 3) []], 4), (.p (.bool false), 5)]
  ·replace h := ite_f hc2_4 h
   refine k_skip ?_
   refine q_n ?_
   refine k_sreg (r_gq [(0, .d false [.sl none (a0.map eI)]), (1, .p (iV a1)), (6, .p (iV (w64 ((a0.length : Int) - 1)))), (7, .ov false [.sl (some 3) []])] [] trivial) ?_
   refine k_join (J := fun (x : (List Int)) => [(7, .ov false [.sl (some 3) (x.map eI)])]) (K := fun x => impl_PowerSums_k1 x = some r) (fun x6 h => ?_) ?_
   ·unfold impl_PowerSums_k1 at h
    refine k_sreg (r_gq [(4, .ov false [.sl (some 3) (x6.map eI)]), (5, .p (.bool true))] [] trivial) ?_
    refine k_ret ?_
    obtain rfl := oi h
    exact er [(.ov false [.sl (some 3) (x6.map eI)], 4), (.p (.bool true), 5)]
   ·refine k_sreg (r_gq [(0, .d false [.sl none (a0.map eI)]), (1, .p (iV a1)), (6, .p (iV (w64 ((a0.length : Int) - 1)))), (7, .ov false [.sl (some 3) []]), (8, .p (iV 1))] [] trivial) ?_
    refine k_block ?_
    obtain ⟨y8, hl_x7, hk_x7⟩ := bs h
    clear h
    refine k_loop (J := fun (x : ((List Int) × Int)) => [(0, .d false [.sl none (a0.map eI)]), (1, .p (iV a1)), (6, .p (iV (w64 ((a0.length : Int) - 1)))), (7, .ov false [.sl (some 3) (x.1.map eI)]), (8, .p (iV x.2))]) hl_x7 (wk_of (by kernel_rfl) (by kernel_rfl)) (fun x7 o_x7 h hy_x7 => ?_)
    unfold impl_PowerSums_b1 at h
    refine k_seq ?_
    refine k_sreg (r_gq [(0, .d false [.sl none (a0.map eI)]), (1, .p (iV a1)), (6, .p (iV (w64 ((a0.length : Int) - 1)))), (7, .ov false [.sl (some 3) (x7.1.map eI)]), (8, .p (iV x7.2)), (33, .p (.bool (decide (x7.2 ≤ a1))))] [] trivial) ?_
    refine kc (decide (x7.2 ≤ a1)) (fun hc5_8 => ?_) (fun hc5_8 => ?_)
    ·replace h := ite_t hc5_8 h
     refine k_skip ?_
     refine q_n ?_
     refine k_join (J := fun (x : (List Int)) => [(0, .d false [.sl none (a0.map eI)]), (1, .p (iV a1)), (6, .p (iV (w64 ((a0.length : Int) - 1)))), (7, .ov false [.sl (some 3) (x.map eI)]), (8, .p (iV x7.2))]) (K := fun x => impl_PowerSums_k2 x7 x = some o_x7) (fun x10 h => ?_) ?_
     ·unfold impl_PowerSums_k2 at h
      refine k_reg (r_gq [(0, .d false [.sl none (a0.map eI)]), (1, .p (iV a1)), (6, .p (iV (w64 ((a0.length : Int) - 1)))), (7, .ov false [.sl (some 3) (x10.map eI)]), (8, .p (iV (w64 (x7.2 + 1))))] [] trivial) ?_
      exact lqn (x10, (w64 (x7.2 + 1))) h
     ·refine k_block ?_
      refine k_sreg (r_gq [(0, .d false [.sl none (a0.map eI)]), (1, .p (iV a1)), (6, .p (iV (w64 ((a0.length : Int) - 1)))), (7, .ov false [.sl (some 3) (x7.1.map eI)]), (8, .p (iV x7.2)), (9, .p (iV 0))] [] trivial) ?_
      refine k_join (J := fun (x : Int) => [(0, .d false [.sl none (a0.map eI)]), (1, .p (iV a1)), (6, .p (iV (w64 ((a0.length : Int) - 1)))), (7, .ov false [.sl (some 3) (x7.1.map eI)]), (8, .p (iV x7.2)), (9, .p (iV x))]) (K := fun x => impl_PowerSums_k3 a0 x7 x = some o_x7) (fun x11 h => ?_) ?_
      ·unfold impl_PowerSums_k3 at h
       refine k_join (J := fun (x : Int) => [(0, .d false [.sl none (a0.map eI)]), (1, .p (iV a1)), (6, .p (iV (w64 ((a0.length : Int) - 1)))), (7, .ov false [.sl (some 3) (x7.1.map eI)]), (8, .p (iV x7.2)), (9, .p (iV x))]) (K := fun x => impl_PowerSums_k4 x7 x = some o_x7) (fun x12 h => ?_) ?_
       ·unfold impl_PowerSums_k4 at h
        refine k_seq ?_
        replace h := bs h
        obtain ⟨v13, hv13, h⟩ := h
        refine k_sreg (r_gq [(0, .d false [.sl none (a0.map eI)]), (1, .p (iV a1)), (6, .p (iV (w64 ((a0.length : Int) - 1)))), (7, .ov false [.sl (some 3) (x7.1.map eI)]), (8, .p (iV x7.2)), (9, .p (iV x12)), (77, .p (.bool (!v13)))] [(1, {call := some (none, [.p (.bool v13)], true)})] (A1 (wk_impl_within hv13))) ?_
        refine kc (!v13) (fun hc7_13 => ?_) (fun hc7_13 => ?_)
        ·replace h := ite_t hc7_13 h
         refine k_sreg (r_gq [(4, .ov false [.sl (some 3) []]), (5, .p (.bool false))] [] trivial) ?_
         refine k_ret ?_
         refine q_r ?_
         refine b_r ?_
         refine q_r ?_
         refine lq_r ?_
         refine b_r ?_
         refine q_r ?_
         have hyy := hy_x7 _ (oi h).symm
         subst hyy
         have h := hk_x7
         dsimp only [Sum.elim] at h
         obtain rfl := oi h
         exact er [(.ov false [.sl (some 3) []], 4), (.p (.bool false), 5)]
        ·replace h := ite_f hc7_13 h
         refine k_skip ?_
         refine q_n ?_
         replace h := bs h
         obtain ⟨u15, hu15, h⟩ := h
         refine k_reg (r_gq [(0, .d false [.sl none (a0.map eI)]), (1, .p (iV a1)), (6, .p (iV (w64 ((a0.length : Int) - 1)))), (7, .ov false [.sl (some 3) ((x7.1 ++ [x12]).map eI)]), (8, .p (iV x7.2))] [(3, {fix := some (81, .ov false [.sl (some 3) ((x7.1 ++ [x12]).map eI)])})] (A3 (show List.length ((x7.1.map eI) : List (List C)) + List.length ((([x12]).map eI) : List (List C)) ≤ 1099511627776 from (by have hg := (guardO_some hu15); simpa using hg)) (show ∀ row ∈ ((([x12]).map eI) : List (List C)), row.length = 1 from (rows_len fun _ => rfl)) (show (SV.ov false [.sl (some 3) ((x7.1.map eI) ++ (([x12]).map eI))] : SV) = .ov false [.sl (some 3) ((x7.1 ++ [x12]).map eI)] from (congrArg (fun z => SV.ov false [.sl (some 3) z]) (List.map_append ..).symm)))) ?_
         refine b_n ?_
         refine q_n ?_
         exact jx (x7.1 ++ [x12]) h
       ·refine k_sreg (r_gq [(0, .d false [.sl none (a0.map eI)]), (1, .p (iV a1)), (6, .p (iV (w64 ((a0.length : Int) - 1)))), (7, .ov false [.sl (some 3) (x7.1.map eI)]), (8, .p (iV x7.2)), (9, .p (iV x11)), (64, .p (.bool (decide (x7.2 ≤ (w64 ((a0.length : Int) - 1))))))] [] trivial) ?_
        refine kc (decide (x7.2 ≤ (w64 ((a0.length : Int) - 1)))) (fun hc7_15 => ?_) (fun hc7_15 => ?_)
        ·replace h := ite_t hc7_15 h
         replace h := bs h
         obtain ⟨v17, hv17, h⟩ := h
         refine k_reg (r_gq [(0, .d false [.sl none (a0.map eI)]), (1, .p (iV a1)), (6, .p (iV (w64 ((a0.length : Int) - 1)))), (7, .ov false [.sl (some 3) (x7.1.map eI)]), (8, .p (iV x7.2)), (9, .p (iV (w64 (x11 - (w64 (x7.2 * v17))))))] [(6, {row := some (eI v17)})] (A2 (idxO_some hv17).1 (map_get eI (idxO_some hv17).2))) ?_
         refine q_n ?_
         exact jx (w64 (x11 - (w64 (x7.2 * v17)))) h
        ·replace h := ite_f hc7_15 h
         refine k_skip ?_
         refine q_n ?_
         exact jx x11 h
      ·refine k_sreg (r_gq [(0, .d false [.sl none (a0.map eI)]), (1, .p (iV a1)), (6, .p (iV (w64 ((a0.length : Int) - 1)))), (7, .ov false [.sl (some 3) (x7.1.map eI)]), (8, .p (iV x7.2)), (9, .p (iV 0)), (10, .p (iV 1))] [] trivial) ?_
       refine k_block ?_
       obtain ⟨y19, hl_x18, hk_x18⟩ := bs h
       clear h
       refine k_loop (J := fun (x : Qr) => [(0, .d false [.sl none (a0.map eI)]), (1, .p (iV a1)), (6, .p (iV (w64 ((a0.length : Int) - 1)))), (7, .ov false [.sl (some 3) (x7.1.map eI)]), (8, .p (iV x7.2)), (9, .p (iV x.1)), (10, .p (iV x.2))]) hl_x18 (wk_of (by kernel_rfl) (by kernel_rfl)) (fun x18 o_x18 h hy_x18 => ?_)
       unfold impl_PowerSums_b2 at h
       refine k_seq ?_
       refine k_sreg (l1 := [(0, .d false [.sl none (a0.map eI)]), (1, .p (iV a1)), (6, .p (iV (w64 ((a0.length : Int) - 1)))), (7, .ov false [.sl (some 3) (x7.1.map eI)]), (8, .p (iV x7.2)), (9, .p (iV x18.1)), (10, .p (iV x18.2)), (43, .p (.bool ((decide (x18.2 < x7.2)) && (decide (x18.2 ≤ (w64 ((a0.length : Int) - 1)))))))]) ?_ ?_
       ·rcases ft (decide (x18.2 < x7.2)) with ha2 | ha2
        ·exact RegOk.of_eq (l2 := [(0, .d false [.sl none (a0.map eI)]), (1, .p (iV a1)), (6, .p (iV (w64 ((a0.length : Int) - 1)))), (7, .ov false [.sl (some 3) (x7.1.map eI)]), (8, .p (iV x7.2)), (9, .p (iV x18.1)), (10, .p (iV x18.2)), (43, .p (.bool ((decide (x18.2 < x7.2)) && (decide (x18.2 ≤ (w64 ((a0.length : Int) - 1)))))))]) (r_gq [(0, .d false [.sl none (a0.map eI)]), (1, .p (iV a1)), (6, .p (iV (w64 ((a0.length : Int) - 1)))), (7, .ov false [.sl (some 3) (x7.1.map eI)]), (8, .p (iV x7.2)), (9, .p (iV x18.1)), (10, .p (iV x18.2)), (43, .p (.bool (decide (x18.2 ≤ (w64 ((a0.length : Int) - 1))))))] [(4, gT), (5, gT), (6, gT), (7, bT)] (A4 ha2 ha2 ha2 ha2)) (by simp [ha2])
        ·exact RegOk.of_eq (l2 := [(0, .d false [.sl none (a0.map eI)]), (1, .p (iV a1)), (6, .p (iV (w64 ((a0.length : Int) - 1)))), (7, .ov false [.sl (some 3) (x7.1.map eI)]), (8, .p (iV x7.2)), (9, .p (iV x18.1)), (10, .p (iV x18.2)), (43, .p (.bool ((decide (x18.2 < x7.2)) && (decide (x18.2 ≤ (w64 ((a0.length : Int) - 1)))))))]) (r_gq [(0, .d false [.sl none (a0.map eI)]), (1, .p (iV a1)), (6, .p (iV (w64 ((a0.length : Int) - 1)))), (7, .ov false [.sl (some 3) (x7.1.map eI)]), (8, .p (iV x7.2)), (9, .p (iV x18.1)), (10, .p (iV x18.2)), (43, .p (.bool false))] [(4, gF), (5, gF), (6, gF), (7, bF)] (A4 ha2 ha2 ha2 ha2)) (by simp [ha2])
       ·refine kc ((decide (x18.2 < x7.2)) && (decide (x18.2 ≤ (w64 ((a0.length : Int) - 1))))) (fun hc10_19 => ?_) (fun hc10_19 => ?_)
        ·replace h := ite_t hc10_19 h
         refine k_skip ?_
         refine q_n ?_
         refine k_seq ?_
         refine k_block ?_
         replace h := bs h
         obtain ⟨v21, hv21, h⟩ := h
         replace h := bs h
         obtain ⟨v22, hv22, h⟩ := h
         refine k_reg (r_dq Try_mixed 15 [] [(0, .d false [.sl none (a0.map eI)]), (1, .p (iV a1)), (6, .p (iV (w64 ((a0.length : Int) - 1)))), (7, .ov false [.sl (some 3) (x7.1.map eI)]), (8, .p (iV x7.2)), (9, .p (iV (w64 (x18.1 - (w64 (v21 * v22)))))), (10, .p (iV x18.2))] [(5, {row := some (eI v21)}), (12, {row := some (eI v22)}), (13, {row := some (eI v22)})] (A5 (idxO_some hv21).1 (map_get eI (idxO_some hv21).2) (idxO_some hv22).1 (map_get eI (idxO_some hv22).2) (show getRow [[.sl (some 3) (x7.1.map eI)]] [(0, 0), ((Int.toNat (w64 ((w64 (x7.2 - x18.2)) - 1))), 0)] = some (eI v22) from ((gr0 rfl).trans (gre (map_get eI (idxO_some hv22).2)))))) ?_
         refine b_n ?_
         refine q_n ?_
         refine k_reg (r_gq [(0, .d false [.sl none (a0.map eI)]), (1, .p (iV a1)), (6, .p (iV (w64 ((a0.length : Int) - 1)))), (7, .ov false [.sl (some 3) (x7.1.map eI)]), (8, .p (iV x7.2)), (9, .p (iV (w64 (x18.1 - (w64 (v21 * v22)))))), (10, .p (iV (w64 (x18.2 + 1))))] [] trivial) ?_
         exact lqn ((w64 (x18.1 - (w64 (v21 * v22)))), (w64 (x18.2 + 1))) h
        ·replace h := ite_f hc10_19 h
         refine k_exit ?_
         refine q_x ?_
         refine lq_x ?_
         refine b_x ?_
         have hyy := hy_x18 _ (oi h).symm
         subst hyy
         have h := hk_x18
         refine q_n ?_
         exact jx x18.1 h
    ·replace h := ite_f hc5_8 h
     refine k_exit ?_
     refine q_x ?_
     refine lq_x ?_
     refine b_x ?_
     have hyy := hy_x7 _ (oi h).symm
     subst hyy
     have h := hk_x7
     dsimp only [Sum.elim] at h
     refine q_n ?_
     exact jx x7.1 h
theorem wk_spec_zeLength {a0 : Int}  {r : Bool} (h : spec_zeLength a0 = some r) : Meets Try.prog 77 [wI a0] { vals := [.p (.bool r)] } := by
 refine mo Try.func77 [(0, .p (iV a0))] ?_
 unfold spec_zeLength at h
 refine k_sreg (r_gq [(0, .p (iV a0))] [] trivial) ?_
 replace h := bs h
 obtain ⟨v1, hv1, h⟩ := h
 refine k_sreg (r_gq [(2, .p (.bool v1))] [(1, {call := some (none, [.p (.bool v1)], true)})] (A1 (wk_spec_l1In hv1))) ?_
 refine k_ret ?_
 obtain rfl := oi h
 exact er [(.p (.bool v1), 2)]
theorem wk_spec_PowerSums {a0 : (List Int)} {a1 : Int}  {r : ((List Int) × Bool)} (h : spec_PowerSums a0 a1 = some r) : Meets Try.prog 18 [.d false [.sl none (a0.map eI)], wI a1] { vals := [.ov false [.sl (some 3) (r.1.map eI)], .p (.bool r.2)] } := by
 refine mo Try.func18 [(0, .d false [.sl none (a0.map eI)]), (1, .p (iV a1))] ?_
 unfold spec_PowerSums at h
 refine k_sreg (r_gq [(0, .d false [.sl none (a0.map eI)]), (1, .p (iV a1))] [] trivial) ?_
 refine k_seq ?_
 replace h := bs h
 obtain ⟨v1, hv1, h⟩ := h
 replace h := bs h
 obtain ⟨w4, hw4, h⟩ := h
 refine k_sreg (l1 := [(0, .d false [.sl none (a0.map eI)]), (1, .p (iV a1)), (28, .p (.bool w4))]) ?_ ?_
 ·clear h
  rcases ft (!v1) with ha0 | ha0
  ·replace hw4 := ite_t ha0 hw4
   have hw4 := oi hw4
   subst hw4
   exact (r_gq [(0, .d false [.sl none (a0.map eI)]), (1, .p (iV a1)), (28, .p (.bool true))] [(1, {call := some (none, [.p (.bool v1)], true)}), (4, gT), (5, gT), (6, gT), (7, bT), (9, gT), (10, gT), (11, gT), (12, bT), (14, gT), (15, gT), (16, gT), (17, bT)] (B6 (wk_spec_poGood hv1) ha0 ha0 ha0 ha0 (show true = true from rfl) (B6 (show true = true from rfl) (show true = true from rfl) (show true = true from rfl) (show true = true from rfl) (show true = true from rfl) (show true = true from rfl) (A1 (show true = true from rfl)))))
  ·replace hw4 := ite_f ha0 hw4
   replace hw4 := bs hw4
   obtain ⟨v2, hv2, hw4⟩ := hw4
   rcases ft (!v2) with ha1 | ha1
   ·replace hw4 := ite_t ha1 hw4
    have hw4 := oi hw4
    subst hw4
    exact (r_gq [(0, .d false [.sl none (a0.map eI)]), (1, .p (iV a1)), (28, .p (.bool true))] [(1, {call := some (none, [.p (.bool v1)], true)}), (4, gF), (5, {g := some false, call := some (none, [.p (.bool v2)], true)}), (6, gF), (7, bF), (9, gT), (10, gT), (11, gT), (12, bT), (14, gT), (15, gT), (16, gT), (17, bT)] (B6 (wk_spec_poGood hv1) ha0 ha0 (wk_spec_poMonic hv2) ha0 ha0 (B6 ha1 ha1 ha1 ha1 (show true = true from rfl) (show true = true from rfl) (A2 (show true = true from rfl) (show true = true from rfl)))))
   ·replace hw4 := ite_f ha1 hw4
    rcases ft (decide ((a0.length : Int) < 2)) with ha2 | ha2
    ·replace hw4 := ite_t ha2 hw4
     have hw4 := oi hw4
     subst hw4
     exact (r_gq [(0, .d false [.sl none (a0.map eI)]), (1, .p (iV a1)), (28, .p (.bool true))] [(1, {call := some (none, [.p (.bool v1)], true)}), (4, gF), (5, {g := some false, call := some (none, [.p (.bool v2)], true)}), (6, gF), (7, bF), (9, gF), (10, {g := some false, n := some a0.length}), (11, gF), (12, bF), (14, gT), (15, gT), (16, gT), (17, bT)] (B6 (wk_spec_poGood hv1) ha0 ha0 (wk_spec_poMonic hv2) ha0 ha0 (B6 ha1 ha1 (show (a0.map eI).length = a0.length from (List.length_map ..)) ha1 ha1 ha2 (A3 ha2 ha2 ha2))))
    ·replace hw4 := ite_f ha2 hw4
     replace hw4 := bs hw4
     obtain ⟨v3, hv3, hw4⟩ := hw4
     have hw4 := oi hw4
     subst hw4
     exact (r_gq [(0, .d false [.sl none (a0.map eI)]), (1, .p (iV a1)), (28, .p (.bool (!v3)))] [(1, {call := some (none, [.p (.bool v1)], true)}), (4, gF), (5, {g := some false, call := some (none, [.p (.bool v2)], true)}), (6, gF), (7, bF), (9, gF), (10, {g := some false, n := some a0.length}), (11, gF), (12, bF), (14, gF), (15, {g := some false, call := some (none, [.p (.bool v3)], true)}), (16, gF), (17, bF)] (B6 (wk_spec_poGood hv1) ha0 ha0 (wk_spec_poMonic hv2) ha0 ha0 (B6 ha1 ha1 (show (a0.map eI).length = a0.length from (List.length_map ..)) ha1 ha1 ha2 (A4 ha2 (wk_spec_zeLength hv3) ha2 ha2))))
 ·refine kc w4 (fun hc2_4 => ?_) (fun hc2_4 => ?_)
  ·replace h := ite_t hc2_4 h
   refine k_sreg (r_gq [(4, .ov false [.sl (some 3) []]), (5, .p (.bool false))] [] trivial) ?_
   refine k_ret ?_
   refine q_r ?_
   obtain rfl := oi h
   exact er [(.ov false [.sl (some 3) []], 4), (.p (.bool false), 5)]
  ·replace h := ite_f hc2_4 h
   refine k_skip ?_
   refine q_n ?_
   refine k_sreg (r_gq [(0, .d false [.sl none (a0.map eI)]), (1, .p (iV a1)), (6, .p (iV (w64 ((a0.length : Int) - 1))))] [(1, {n := some a0.length})] (A1 (show (a0.map eI).length = a0.length from (List.length_map ..)))) ?_
   refine k_sreg (r_gq [(0, .d false [.sl none (a0.map eI)]), (1, .p (iV a1)), (6, .p (iV (w64 ((a0.length : Int) - 1)))), (7, .ov false [.sl (some 3) []])] [] trivial) ?_
   refine k_join (J := fun (x : (List Int)) => [(7, .ov false [.sl (some 3) (x.map eI)])]) (K := fun x => spec_PowerSums_k1 x = some r) (fun x6 h => ?_) ?_
   ·unfold spec_PowerSums_k1 at h
    refine k_sreg (r_gq [(4, .ov false [.sl (some 3) (x6.map eI)]), (5, .p (.bool true))] [] trivial) ?_
    refine k_ret ?_
    obtain rfl := oi h
    exact er [(.ov false [.sl (some 3) (x6.map eI)], 4), (.p (.bool true), 5)]
   ·refine k_sreg (r_gq [(0, .d false [.sl none (a0.map eI)]), (1, .p (iV a1)), (6, .p (iV (w64 ((a0.length : Int) - 1)))), (7, .ov false [.sl (some 3) []]), (8, .p (iV 1))] [] trivial) ?_
    refine k_block ?_
    obtain ⟨y8, hl_x7, hk_x7⟩ := bs h
    clear h
    refine k_loop (J := fun (x : ((List Int) × Int)) => [(0, .d false [.sl none (a0.map eI)]), (1, .p (iV a1)), (6, .p (iV (w64 ((a0.length : Int) - 1)))), (7, .ov false [.sl (some 3) (x.1.map eI)]), (8, .p (iV x.2))]) hl_x7 (wk_of (by kernel_rfl) (by kernel_rfl)) (fun x7 o_x7 h hy_x7 => ?_)
    unfold spec_PowerSums_b1 at h
    refine k_seq ?_
    refine k_sreg (r_gq [(0, .d false [.sl none (a0.map eI)]), (1, .p (iV a1)), (6, .p (iV (w64 ((a0.length : Int) - 1)))), (7, .ov false [.sl (some 3) (x7.1.map eI)]), (8, .p (iV x7.2)), (34, .p (.bool (decide (x7.2 ≤ a1))))] [] trivial) ?_
    refine kc (decide (x7.2 ≤ a1)) (fun hc5_8 => ?_) (fun hc5_8 => ?_)
    ·replace h := ite_t hc5_8 h
     refine k_skip ?_
     refine q_n ?_
     refine k_join (J := fun (x : (List Int)) => [(0, .d false [.sl none (a0.map eI)]), (1, .p (iV a1)), (6, .p (iV (w64 ((a0.length : Int) - 1)))), (7, .ov false [.sl (some 3) (x.map eI)]), (8, .p (iV x7.2))]) (K := fun x => spec_PowerSums_k2 x7 x = some o_x7) (fun x10 h => ?_) ?_
     ·unfold spec_PowerSums_k2 at h
      refine k_reg (r_gq [(0, .d false [.sl none (a0.map eI)]), (1, .p (iV a1)), (6, .p (iV (w64 ((a0.length : Int) - 1)))), (7, .ov false [.sl (some 3) (x10.map eI)]), (8, .p (iV (w64 (x7.2 + 1))))] [] trivial) ?_
      exact lqn (x10, (w64 (x7.2 + 1))) h
     ·refine k_block ?_
      refine k_sreg (r_gq [(0, .d false [.sl none (a0.map eI)]), (1, .p (iV a1)), (6, .p (iV (w64 ((a0.length : Int) - 1)))), (7, .ov false [.sl (some 3) (x7.1.map eI)]), (8, .p (iV x7.2)), (9, .p (iV 0))] [] trivial) ?_
      refine k_join (J := fun (x : Int) => [(0, .d false [.sl none (a0.map eI)]), (1, .p (iV a1)), (6, .p (iV (w64 ((a0.length : Int) - 1)))), (7, .ov false [.sl (some 3) (x7.1.map eI)]), (8, .p (iV x7.2)), (9, .p (iV x))]) (K := fun x => spec_PowerSums_k3 a0 x7 x = some o_x7) (fun x11 h => ?_) ?_
      ·unfold spec_PowerSums_k3 at h
       refine k_join (J := fun (x : Int) => [(0, .d false [.sl none (a0.map eI)]), (1, .p (iV a1)), (6, .p (iV (w64 ((a0.length : Int) - 1)))), (7, .ov false [.sl (some 3) (x7.1.map eI)]), (8, .p (iV x7.2)), (9, .p (iV x))]) (K := fun x => spec_PowerSums_k4 x7 x = some o_x7) (fun x12 h => ?_) ?_
       ·unfold spec_PowerSums_k4 at h
        refine k_seq ?_
        replace h := bs h
        obtain ⟨v13, hv13, h⟩ := h
        refine k_sreg (r_gq [(0, .d false [.sl none (a0.map eI)]), (1, .p (iV a1)), (6, .p (iV (w64 ((a0.length : Int) - 1)))), (7, .ov false [.sl (some 3) (x7.1.map eI)]), (8, .p (iV x7.2)), (9, .p (iV x12)), (78, .p (.bool (!v13)))] [(1, {call := some (none, [.p (.bool v13)], true)})] (A1 (wk_spec_l1In hv13))) ?_
        refine kc (!v13) (fun hc7_13 => ?_) (fun hc7_13 => ?_)
        ·replace h := ite_t hc7_13 h
         refine k_sreg (r_gq [(4, .ov false [.sl (some 3) []]), (5, .p (.bool false))] [] trivial) ?_
         refine k_ret ?_
         refine q_r ?_
         refine b_r ?_
         refine q_r ?_
         refine lq_r ?_
         refine b_r ?_
         refine q_r ?_
         have hyy := hy_x7 _ (oi h).symm
         subst hyy
         have h := hk_x7
         dsimp only [Sum.elim] at h
         obtain rfl := oi h
         exact er [(.ov false [.sl (some 3) []], 4), (.p (.bool false), 5)]
        ·replace h := ite_f hc7_13 h
         refine k_skip ?_
         refine q_n ?_
         replace h := bs h
         obtain ⟨u15, hu15, h⟩ := h
         refine k_reg (r_gq [(0, .d false [.sl none (a0.map eI)]), (1, .p (iV a1)), (6, .p (iV (w64 ((a0.length : Int) - 1)))), (7, .ov false [.sl (some 3) ((x7.1 ++ [x12]).map eI)]), (8, .p (iV x7.2))] [(3, {fix := some (82, .ov false [.sl (some 3) ((x7.1 ++ [x12]).map eI)])})] (A3 (show List.length ((x7.1.map eI) : List (List C)) + List.length ((([x12]).map eI) : List (List C)) ≤ 1099511627776 from (by have hg := (guardO_some hu15); simpa using hg)) (show ∀ row ∈ ((([x12]).map eI) : List (List C)), row.length = 1 from (rows_len fun _ => rfl)) (show (SV.ov false [.sl (some 3) ((x7.1.map eI) ++ (([x12]).map eI))] : SV) = .ov false [.sl (some 3) ((x7.1 ++ [x12]).map eI)] from (congrArg (fun z => SV.ov false [.sl (some 3) z]) (List.map_append ..).symm)))) ?_
         refine b_n ?_
         refine q_n ?_
         exact jx (x7.1 ++ [x12]) h
       ·refine k_sreg (r_gq [(0, .d false [.sl none (a0.map eI)]), (1, .p (iV a1)), (6, .p (iV (w64 ((a0.length : Int) - 1)))), (7, .ov false [.sl (some 3) (x7.1.map eI)]), (8, .p (iV x7.2)), (9, .p (iV x11)), (65, .p (.bool (decide (x7.2 ≤ (w64 ((a0.length : Int) - 1))))))] [] trivial) ?_
        refine kc (decide (x7.2 ≤ (w64 ((a0.length : Int) - 1)))) (fun hc7_15 => ?_) (fun hc7_15 => ?_)
        ·replace h := ite_t hc7_15 h
         replace h := bs h
         obtain ⟨v17, hv17, h⟩ := h
         refine k_reg (r_gq [(0, .d false [.sl none (a0.map eI)]), (1, .p (iV a1)), (6, .p (iV (w64 ((a0.length : Int) - 1)))), (7, .ov false [.sl (some 3) (x7.1.map eI)]), (8, .p (iV x7.2)), (9, .p (iV (w64 (x11 - (w64 (x7.2 * v17))))))] [(6, {row := some (eI v17)})] (A2 (idxO_some hv17).1 (map_get eI (idxO_some hv17).2))) ?_
         refine q_n ?_
         exact jx (w64 (x11 - (w64 (x7.2 * v17)))) h
        ·replace h := ite_f hc7_15 h
         refine k_skip ?_
         refine q_n ?_
         exact jx x11 h
      ·refine k_sreg (r_gq [(0, .d false [.sl none (a0.map eI)]), (1, .p (iV a1)), (6, .p (iV (w64 ((a0.length : Int) - 1)))), (7, .ov false [.sl (some 3) (x7.1.map eI)]), (8, .p (iV x7.2)), (9, .p (iV 0)), (10, .p (iV 1))] [] trivial) ?_
       refine k_block ?_
       obtain ⟨y19, hl_x18, hk_x18⟩ := bs h
       clear h
       refine k_loop (J := fun (x : Qr) => [(0, .d false [.sl none (a0.map eI)]), (1, .p (iV a1)), (6, .p (iV (w64 ((a0.length : Int) - 1)))), (7, .ov false [.sl (some 3) (x7.1.map eI)]), (8, .p (iV x7.2)), (9, .p (iV x.1)), (10, .p (iV x.2))]) hl_x18 (wk_of (by kernel_rfl) (by kernel_rfl)) (fun x18 o_x18 h hy_x18 => ?_)
       unfold spec_PowerSums_b2 at h
       refine k_seq ?_
       refine k_sreg (l1 := [(0, .d false [.sl none (a0.map eI)]), (1, .p (iV a1)), (6, .p (iV (w64 ((a0.length : Int) - 1)))), (7, .ov false [.sl (some 3) (x7.1.map eI)]), (8, .p (iV x7.2)), (9, .p (iV x18.1)), (10, .p (iV x18.2)), (44, .p (.bool ((decide (x18.2 < x7.2)) && (decide (x18.2 ≤ (w64 ((a0.length : Int) - 1)))))))]) ?_ ?_
       ·rcases ft (decide (x18.2 < x7.2)) with ha2 | ha2
        ·exact RegOk.of_eq (l2 := [(0, .d false [.sl none (a0.map eI)]), (1, .p (iV a1)), (6, .p (iV (w64 ((a0.length : Int) - 1)))), (7, .ov false [.sl (some 3) (x7.1.map eI)]), (8, .p (iV x7.2)), (9, .p (iV x18.1)), (10, .p (iV x18.2)), (44, .p (.bool ((decide (x18.2 < x7.2)) && (decide (x18.2 ≤ (w64 ((a0.length : Int) - 1)))))))]) (r_gq [(0, .d false [.sl none (a0.map eI)]), (1, .p (iV a1)), (6, .p (iV (w64 ((a0.length : Int) - 1)))), (7, .ov false [.sl (some 3) (x7.1.map eI)]), (8, .p (iV x7.2)), (9, .p (iV x18.1)), (10, .p (iV x18.2)), (44, .p (.bool (decide (x18.2 ≤ (w64 ((a0.length : Int) - 1))))))] [(4, gT), (5, gT), (6, gT), (7, bT)] (A4 ha2 ha2 ha2 ha2)) (by simp [ha2])
        ·exact RegOk.of_eq (l2 := [(0, .d false [.sl none (a0.map eI)]), (1, .p (iV a1)), (6, .p (iV (w64 ((a0.length : Int) - 1)))), (7, .ov false [.sl (some 3) (x7.1.map eI)]), (8, .p (iV x7.2)), (9, .p (iV x18.1)), (10, .p (iV x18.2)), (44, .p (.bool ((decide (x18.2 < x7.2)) && (decide (x18.2 ≤ (w64 ((a0.length : Int) - 1)))))))]) (r_gq [(0, .d false [.sl none (a0.map eI)]), (1, .p (iV a1)), (6, .p (iV (w64 ((a0.length : Int) - 1)))), (7, .ov false [.sl (some 3) (x7.1.map eI)]), (8, .p (iV x7.2)), (9, .p (iV x18.1)), (10, .p (iV x18.2)), (44, .p (.bool false))] [(4, gF), (5, gF), (6, gF), (7, bF)] (A4 ha2 ha2 ha2 ha2)) (by simp [ha2])
       ·refine kc ((decide (x18.2 < x7.2)) && (decide (x18.2 ≤ (w64 ((a0.length : Int) - 1))))) (fun hc10_19 => ?_) (fun hc10_19 => ?_)
        ·replace h := ite_t hc10_19 h
         refine k_skip ?_
         refine q_n ?_
         refine k_seq ?_
         refine k_block ?_
         replace h := bs h
         obtain ⟨v21, hv21, h⟩ := h
         replace h := bs h
         obtain ⟨v22, hv22, h⟩ := h
         refine k_reg (r_dq Try_mixed 15 [] [(0, .d false [.sl none (a0.map eI)]), (1, .p (iV a1)), (6, .p (iV (w64 ((a0.length : Int) - 1)))), (7, .ov false [.sl (some 3) (x7.1.map eI)]), (8, .p (iV x7.2)), (9, .p (iV (w64 (x18.1 - (w64 (v21 * v22)))))), (10, .p (iV x18.2))] [(5, {row := some (eI v21)}), (12, {row := some (eI v22)}), (13, {row := some (eI v22)})] (A5 (idxO_some hv21).1 (map_get eI (idxO_some hv21).2) (idxO_some hv22).1 (map_get eI (idxO_some hv22).2) (show getRow [[.sl (some 3) (x7.1.map eI)]] [(0, 0), ((Int.toNat (w64 ((w64 (x7.2 - 1)) - x18.2))), 0)] = some (eI v22) from ((gr0 rfl).trans (gre (map_get eI (idxO_some hv22).2)))))) ?_
         refine b_n ?_
         refine q_n ?_
         refine k_reg (r_gq [(0, .d false [.sl none (a0.map eI)]), (1, .p (iV a1)), (6, .p (iV (w64 ((a0.length : Int) - 1)))), (7, .ov false [.sl (some 3) (x7.1.map eI)]), (8, .p (iV x7.2)), (9, .p (iV (w64 (x18.1 - (w64 (v21 * v22)))))), (10, .p (iV (w64 (x18.2 + 1))))] [] trivial) ?_
         exact lqn ((w64 (x18.1 - (w64 (v21 * v22)))), (w64 (x18.2 + 1))) h
        ·replace h := ite_f hc10_19 h
         refine k_exit ?_
         refine q_x ?_
         refine lq_x ?_
         refine b_x ?_
         have hyy := hy_x18 _ (oi h).symm
         subst hyy
         have h := hk_x18
         refine q_n ?_
         exact jx x18.1 h
    ·replace h := ite_f hc5_8 h
     refine k_exit ?_
     refine q_x ?_
     refine lq_x ?_
     refine b_x ?_
     have hyy := hy_x7 _ (oi h).symm
     subst hyy
     have h := hk_x7
     dsimp only [Sum.elim] at h
     refine q_n ?_
     exact jx x7.1 h
theorem wk_spec_grClosed {a0 : (List (List Int))} {a1 : Int}  {r : Int} (h : spec_grClosed a0 a1 = some r) : Meets Try.prog 81 [.d false [.sl none (a0.map (eF eI))], wI a1] { vals := [.p (iV r)] } := by
 refine mo Try.func81 [(0, .d false [.sl none (a0.map (eF eI))]), (1, .p (iV a1))] ?_
 unfold spec_grClosed at h
 refine k_sreg (r_gq [(0, .d false [.sl none (a0.map (eF eI))]), (1, .p (iV a1))] [] trivial) ?_
 refine k_sreg (r_gq [(0, .d false [.sl none (a0.map (eF eI))]), (1, .p (iV a1)), (5, .p (iV 0))] [] trivial) ?_
 refine k_join (J := fun (x : Int) => [(5, .p (iV x))]) (K := fun x => spec_grClosed_k1 x = some r) (fun x1 h => ?_) ?_
 ·unfold spec_grClosed_k1 at h
  refine k_sreg (r_gq [(4, .p (iV x1))] [] trivial) ?_
  refine k_ret ?_
  obtain rfl := oi h
  exact er [(.p (iV x1), 4)]
 ·replace h := bs h
  obtain ⟨v2, hv2, h⟩ := h
  refine k_sreg (r_gq [(5, .p (iV 0)), (10, .ov false [.sl (some 26) (v2.map (eO 3 eI))]), (11, .p (iV (v2.length : Int))), (12, .p (iV 0))] [(2, {call := some (none, [.ov false [.sl (some 26) (v2.map (eO 3 eI))]], true)}), (3, {n := some v2.length})] (A3 (wk_spec_grPower hv2) (show List.all [.ov false [.sl (some 26) (v2.map (eO 3 eI))]] simpleR = true from (sa_o (wnR1 (wnL_enc (wn_O wn_I)) rfl) rfl)) (show (v2.map (eO 3 eI)).length = v2.length from (List.length_map ..)))) ?_
  refine k_block ?_
  obtain ⟨y4, hl_x3, hk_x3⟩ := bs h
  clear h
  refine k_loop (J := fun (x : Qr) => [(5, .p (iV x.1)), (10, .ov false [.sl (some 26) (v2.map (eO 3 eI))]), (11, .p (iV (v2.length : Int))), (12, .p (iV x.2))]) hl_x3 (wk_of (by kernel_rfl) (by kernel_rfl)) (fun x3 o_x3 h hy_x3 => ?_)
  unfold spec_grClosed_b1 at h
  refine k_sreg (r_gq [(5, .p (iV x3.1)), (10, .ov false [.sl (some 26) (v2.map (eO 3 eI))]), (11, .p (iV (v2.length : Int))), (12, .p (iV x3.2)), (13, .p (.bool (decide (x3.2 < (v2.length : Int)))))] [] trivial) ?_
  refine k_seq ?_
  refine kc (decide (x3.2 < (v2.length : Int))) (fun hc5_4 => ?_) (fun hc5_4 => ?_)
  ·replace h := ite_t hc5_4 h
   refine k_skip ?_
   refine q_n ?_
   refine k_seq ?_
   refine k_block ?_
   replace h := bs h
   obtain ⟨v6, hv6, h⟩ := h
   refine k_sreg (r_gq [(5, .p (iV x3.1)), (6, .p (iV x3.2)), (7, .ref 10 [(0, 0), ((Int.toNat x3.2), 0)] none), (10, .ov false [.sl (some 26) (v2.map (eO 3 eI))]), (11, .p (iV (v2.length : Int))), (12, .p (iV x3.2))] [(1, {row := some [.sl (some 3) (v6.map eI)]}), (2, {row := some [.sl (some 3) (v6.map eI)]})] (A4 (idxO_some hv6).1 (map_get (eO 3 eI) (idxO_some hv6).2) (show frR [.sl (some 3) (v6.map eI)] = false from rfl) (show getRow [[.sl (some 26) (v2.map (eO 3 eI))]] [(0, 0), ((Int.toNat x3.2), 0)] = some [.sl (some 3) (v6.map eI)] from ((gr0 rfl).trans (gre (map_get (eO 3 eI) (idxO_some hv6).2)))))) ?_
   replace h := bs h
   obtain ⟨v7, hv7, h⟩ := h
   replace h := bs h
   obtain ⟨v8, hv8, h⟩ := h
   refine k_reg (r_gq [(5, .p (iV v8)), (10, .ov false [.sl (some 26) (v2.map (eO 3 eI))]), (11, .p (iV (v2.length : Int))), (12, .p (iV x3.2))] [(3, {deep := some [.sl (some 3) (v6.map eI)], row := some (eI v7)}), (4, {row := some (eI v7)}), (6, {call := some (none, [.p (iV v8)], true)})] (A5 (idxO_some hv7).1 (map_get eI (idxO_some hv7).2) (show getRow [[.sl (some 26) (v2.map (eO 3 eI))]] [(0, 0), ((Int.toNat x3.2), 0)] = some [.sl (some 3) (v6.map eI)] from ((gr0 rfl).trans (gre (map_get (eO 3 eI) (idxO_some hv6).2)))) (show getRow [[.sl (some 26) (v2.map (eO 3 eI))]] [(0, 0), ((Int.toNat x3.2), 0), ((Int.toNat x3.2), 0)] = some (eI v7) from ((gr0 rfl).trans ((grs (map_get (eO 3 eI) (idxO_some hv6).2) rfl).trans (gre (map_get eI (idxO_some hv7).2))))) (wk_spec_grCap hv8))) ?_
   refine b_n ?_
   refine q_n ?_
   refine k_reg (r_gq [(5, .p (iV v8)), (10, .ov false [.sl (some 26) (v2.map (eO 3 eI))]), (11, .p (iV (v2.length : Int))), (12, .p (iV (w64 (x3.2 + 1))))] [] trivial) ?_
   exact lqn (v8, (w64 (x3.2 + 1))) h
  ·replace h := ite_f hc5_4 h
   refine k_exit ?_
   refine q_x ?_
   refine lq_x ?_
   refine b_x ?_
   have hyy := hy_x3 _ (oi h).symm
   subst hyy
   have h := hk_x3
   refine q_n ?_
   exact jx x3.1 h
theorem wk_spec_zeCycles_r {rc : ((List (List Int)) → Int → Option Int)} {a0 : (List (List Int))} {a1 : Int} (hrc : ∀ x0 x1 y, rc x0 x1 = some y → Meets Try.prog 84 [.d false [.sl none (x0.map (eF eI))], wI x1] { vals := [.p (iV y)] }) {r : Int} (h : spec_zeCycles_r rc a0 a1 = some r) : Meets Try.prog 84 [.d false [.sl none (a0.map (eF eI))], wI a1] { vals := [.p (iV r)] } := by
 refine mo Try.func84 [(0, .d false [.sl none (a0.map (eF eI))]), (1, .p (iV a1))] ?_
 unfold spec_zeCycles_r at h
 refine k_sreg (r_gq [(0, .d false [.sl none (a0.map (eF eI))]), (1, .p (iV a1))] [] trivial) ?_
 replace h := bs h
 obtain ⟨v1, hv1, h⟩ := h
 refine k_sreg (r_gq [(0, .d false [.sl none (a0.map (eF eI))]), (1, .p (iV a1)), (5, .p (iV v1))] [(2, {call := some (none, [.p (iV v1)], true)})] (A1 (wk_spec_grClosed hv1))) ?_
 refine k_seq ?_
 refine k_sreg (r_gq [(0, .d false [.sl none (a0.map (eF eI))]), (1, .p (iV a1)), (5, .p (iV v1)), (11, .p (.bool (decide (v1 > 1000000000))))] [] trivial) ?_
 refine kc (decide (v1 > 1000000000)) (fun hc2_1 => ?_) (fun hc2_1 => ?_)
 ·replace h := ite_t hc2_1 h
  refine k_sreg (r_gq [(4, .p (iV (-1)))] [] trivial) ?_
  refine k_ret ?_
  refine q_r ?_
  obtain rfl := oi h
  exact er [(.p (iV (-1)), 4)]
 ·replace h := ite_f hc2_1 h
  refine k_skip ?_
  refine q_n ?_
  refine k_join (J := fun (x : Int) => [(1, .p (iV a1)), (5, .p (iV x))]) (K := fun x => spec_zeCycles_r_k1 a1 x = some r) (fun x3 h => ?_) ?_
  ·unfold spec_zeCycles_r_k1 at h
   replace h := bs h
   obtain ⟨u4, hu4, h⟩ := h
   refine k_sreg (r_gq [(4, .p (iV (w64 (Int.tdiv x3 a1))))] [] (A1 (guardO_some hu4))) ?_
   refine k_ret ?_
   obtain rfl := oi h
   exact er [(.p (iV (w64 (Int.tdiv x3 a1))), 4)]
  ·refine k_sreg (r_gq [(0, .d false [.sl none (a0.map (eF eI))]), (1, .p (iV a1)), (5, .p (iV v1)), (6, .p (iV 1))] [] trivial) ?_
   refine k_block ?_
   obtain ⟨y6, hl_x5, hk_x5⟩ := bs h
   clear h
   refine k_loop (J := fun (x : Qr) => [(0, .d false [.sl none (a0.map (eF eI))]), (1, .p (iV a1)), (5, .p (iV x.1)), (6, .p (iV x.2))]) hl_x5 (wk_of (by kernel_rfl) (by kernel_rfl)) (fun x5 o_x5 h hy_x5 => ?_)
   unfold spec_zeCycles_r_b1 at h
   refine k_seq ?_
   refine k_sreg (r_gq [(0, .d false [.sl none (a0.map (eF eI))]), (1, .p (iV a1)), (5, .p (iV x5.1)), (6, .p (iV x5.2)), (14, .p (.bool (decide (x5.2 < a1))))] [] trivial) ?_
   refine kc (decide (x5.2 < a1)) (fun hc5_6 => ?_) (fun hc5_6 => ?_)
   ·replace h := ite_t hc5_6 h
    refine k_skip ?_
    refine q_n ?_
    refine k_seq ?_
    refine k_block ?_
    replace h := bs h
    obtain ⟨u8, hu8, h⟩ := h
    refine k_sreg (r_gq [(0, .d false [.sl none (a0.map (eF eI))]), (1, .p (iV a1)), (5, .p (iV x5.1)), (6, .p (iV x5.2)), (20, .p (.bool ((Int.tmod a1 x5.2) == 0)))] [] (A1 (guardO_some hu8))) ?_
    refine kc ((Int.tmod a1 x5.2) == 0) (fun hc6_8 => ?_) (fun hc6_8 => ?_)
    ·replace h := ite_t hc6_8 h
     replace h := bs h
     obtain ⟨v10, hv10, h⟩ := h
     refine k_reg (r_gq [(0, .d false [.sl none (a0.map (eF eI))]), (1, .p (iV a1)), (5, .p (iV (w64 (x5.1 - (w64 (x5.2 * v10)))))), (6, .p (iV x5.2))] [(4, {call := some (none, [.p (iV v10)], true)})] (A1 (hrc _ _ _ hv10))) ?_
     refine b_n ?_
     refine q_n ?_
     refine k_reg (r_gq [(0, .d false [.sl none (a0.map (eF eI))]), (1, .p (iV a1)), (5, .p (iV (w64 (x5.1 - (w64 (x5.2 * v10)))))), (6, .p (iV (w64 (x5.2 + 1))))] [] trivial) ?_
     exact lqn ((w64 (x5.1 - (w64 (x5.2 * v10)))), (w64 (x5.2 + 1))) h
    ·replace h := ite_f hc6_8 h
     refine k_skip ?_
     refine b_n ?_
     refine q_n ?_
     refine k_reg (r_gq [(0, .d false [.sl none (a0.map (eF eI))]), (1, .p (iV a1)), (5, .p (iV x5.1)), (6, .p (iV (w64 (x5.2 + 1))))] [] trivial) ?_
     exact lqn (x5.1, (w64 (x5.2 + 1))) h
   ·replace h := ite_f hc5_6 h
    refine k_exit ?_
    refine q_x ?_
    refine lq_x ?_
    refine b_x ?_
    have hyy := hy_x5 _ (oi h).symm
    subst hyy
    have h := hk_x5
    refine q_n ?_
    exact jx x5.1 h
theorem wk_spec_zeCycles_f : ∀ (k : Nat) {a0 : (List (List Int))} {a1 : Int} {r : Int} (h : spec_zeCycles_f k a0 a1 = some r), Meets Try.prog 84 [.d false [.sl none (a0.map (eF eI))], wI a1] { vals := [.p (iV r)] }
 | 0, _, _, _, h => by cases h
 | k + 1, _, _, _, h => wk_spec_zeCycles_r (fun _ _ _ hy => wk_spec_zeCycles_f k hy) h
theorem wk_spec_zeCycles {a0 : (List (List Int))} {a1 : Int} {r : Int} (h : spec_zeCycles a0 a1 = some r) : Meets Try.prog 84 [.d false [.sl none (a0.map (eF eI))], wI a1] { vals := [.p (iV r)] } := by
 obtain ⟨k, hk⟩ := fuelO_some h
 exact wk_spec_zeCycles_f k hk
theorem wk_spec_DrawEulerProduct {a0 : (List Int)}  {r : (List Int)} (h : spec_DrawEulerProduct a0 = some r) : Meets Try.prog 58 [.d false [.sl none (a0.map (eU .u8))]] { vals := [.ov false [.sl (some 3) (r.map eI)]] } := by
 refine mo Try.func58 [(0, .d false [.sl none (a0.map (eU .u8))])] ?_
 unfold spec_DrawEulerProduct at h
 refine k_sreg (r_gq [(0, .d false [.sl none (a0.map (eU .u8))])] [] trivial) ?_
 refine k_sreg (r_gq [(3, .addr 11 [(0, 0)]), (11, .box (eCu (a0, 0, 0)))] [] trivial) ?_
 refine k_join (J := fun (x : Cu) => [(3, .addr 11 [(0, 0)]), (11, .box (eCu x))]) (K := fun x => spec_DrawEulerProduct_k1 x = some r) (fun x1 h => ?_) ?_
 ·unfold spec_DrawEulerProduct_k1 at h
  refine k_sreg (r_gq [(3, .addr 11 [(0, 0)]), (7, .ov false [.sl (some 3) []]), (11, .box (eCu x1))] [] trivial) ?_
  replace h := bs h
  obtain ⟨v2, hv2, h⟩ := h
  refine k_sreg (r_gq [(3, .addr 11 [(0, 0)]), (7, .ov false [.sl (some 3) []]), (8, .p (iV (w64 (1 + v2.1)))), (11, .box (eCu v2.2))] [(1, {lend := some (none, [.p (iV v2.1)], .box (eCu v2.2), false)})] (A1 (wk_spec_l1Cur_pick hv2))) ?_
  refine k_join (J := fun (x : (Int × (List Int) × Int × Int)) => [(3, .addr 11 [(0, 0)]), (7, .ov false [.sl (some 3) []]), (8, .p (iV x.1)), (11, .box (eCu x.2))]) (K := fun x => spec_DrawEulerProduct_k2 x = some r) (fun x3 h => ?_) ?_
  ·unfold spec_DrawEulerProduct_k2 at h
   refine k_join (J := fun (x : ((List Int) × (List Int) × Int × Int)) => [(3, .addr 11 [(0, 0)]), (7, .ov false [.sl (some 3) (x.1.map eI)]), (8, .p (iV x3.1)), (11, .box (eCu x.2))]) (K := fun x => spec_DrawEulerProduct_k3 x3 x = some r) (fun x4 h => ?_) ?_
   ·unfold spec_DrawEulerProduct_k3 at h
    refine k_seq ?_
    replace h := bs h
    obtain ⟨w6, hw6, h⟩ := h
    refine k_sreg (l1 := [(3, .addr 11 [(0, 0)]), (7, .ov false [.sl (some 3) (x4.1.map eI)]), (8, .p (iV x3.1)), (11, .box (eCu (w6.1, w6.2.1, w6.2.2.1))), (56, .p (.bool w6.2.2.2))]) ?_ ?_
    ·clear h
     rcases ft (decide (x3.1 > 0)) with ha0 | ha0
     ·replace hw6 := ite_t ha0 hw6
      replace hw6 := bs hw6
      obtain ⟨v5, hv5, hw6⟩ := hw6
      have hw6 := oi hw6
      subst hw6
      exact (r_gq [(3, .addr 11 [(0, 0)]), (7, .ov false [.sl (some 3) (x4.1.map eI)]), (8, .p (iV x3.1)), (11, .box (eCu v5.2)), (56, .p (.bool v5.1))] [(3, gT), (4, {g := some true, lend := some (none, [.p (.bool v5.1)], .box (eCu v5.2), false)}), (5, bT)] (A4 ha0 ha0 (wk_spec_l1Cur_one hv5) ha0))
     ·replace hw6 := ite_f ha0 hw6
      have hw6 := oi hw6
      subst hw6
      exact (r_gq [(3, .addr 11 [(0, 0)]), (7, .ov false [.sl (some 3) (x4.1.map eI)]), (8, .p (iV x3.1)), (11, .box (eCu x4.2)), (56, .p (.bool false))] [(3, gF), (4, gF), (5, bF)] (A3 ha0 ha0 ha0))
    ·refine kc w6.2.2.2 (fun hc2_6 => ?_) (fun hc2_6 => ?_)
     ·replace h := ite_t hc2_6 h
      replace h := bs h
      obtain ⟨v8, hv8, h⟩ := h
      replace h := bs h
      obtain ⟨v9, hv9, h⟩ := h
      replace h := bs h
      obtain ⟨v10, hv10, h⟩ := h
      refine k_reg (r_gq [(7, .ov false [.sl (some 3) ((x4.1.set (Int.toNat v8.1) v9.1).map eI)])] [(3, {lend := some (none, [.p (iV v8.1)], .box (eCu v8.2), false)}), (6, {lend := some (some [.d false [.sl none (([(-1), 101]).map eI)]], [.p (iV v9.1)], .box (eCu v9.2), false), fix := some (62, .d false [.sl none (([(-1), 101]).map eI)])}), (7, {row := some (eI v10)}), (8, {row := some (eI v10), fix := some (7, .ov false [.sl (some 3) ((x4.1.set (Int.toNat v8.1) v9.1).map eI)])})] (B6 (wk_spec_l1Cur_pick hv8) (show ([.d false [.sl none (eraL (([(-1), 101]).map eI))]] : List Arg) = [.d false [.sl none (([(-1), 101]).map eI)]] from (by simp only [eraL_enc (h := eI) er_I])) (wk_spec_l1Cur_among hv9) (show (SV.d false (eraR [.sl (some 3) (([(-1), 101]).map eI)]) : SV) = .d false [.sl none (([(-1), 101]).map eI)] from (congrArg (fun z => SV.d false z) (erc_sl (eraL_enc er_I) rfl))) (idxO_some hv10).1 (map_get eI (idxO_some hv10).2) (A2 (show getRow [[.sl (some 3) (x4.1.map eI)]] [(0, 0), ((Int.toNat v8.1), 0)] = some (eI v10) from ((gr0 rfl).trans (gre (map_get eI (idxO_some hv10).2)))) (show (SV.ov false [.sl (some 3) (setL (x4.1.map eI) [((Int.toNat v8.1), 0)] (eI v9.1))] : SV) = .ov false [.sl (some 3) ((x4.1.set (Int.toNat v8.1) v9.1).map eI)] from (congrArg (fun z => SV.ov false [.sl (some 3) z]) (set1 (f := eI) (y := v9.1) (idxO_some hv10).2 rfl)))))) ?_
      refine q_n ?_
      refine k_sreg (r_gq [(2, .ov false [.sl (some 3) ((x4.1.set (Int.toNat v8.1) v9.1).map eI)])] [] trivial) ?_
      refine k_ret ?_
      obtain rfl := oi h
      exact er [(.ov false [.sl (some 3) ((x4.1.set (Int.toNat v8.1) v9.1).map eI)], 2)]
     ·replace h := ite_f hc2_6 h
      refine k_skip ?_
      refine q_n ?_
      refine k_sreg (r_gq [(2, .ov false [.sl (some 3) (x4.1.map eI)])] [] trivial) ?_
      refine k_ret ?_
      obtain rfl := oi h
      exact er [(.ov false [.sl (some 3) (x4.1.map eI)], 2)]
   ·refine k_block ?_
    obtain ⟨y12, hl_x11, hk_x11⟩ := bs h
    clear h
    refine k_loop (J := fun (x : ((List Int) × (List Int) × Int × Int)) => [(3, .addr 11 [(0, 0)]), (7, .ov false [.sl (some 3) (x.1.map eI)]), (8, .p (iV x3.1)), (11, .box (eCu x.2))]) hl_x11 (wk_of (by kernel_rfl) (by kernel_rfl)) (fun x11 o_x11 h hy_x11 => ?_)
    unfold spec_DrawEulerProduct_b1 at h
    refine k_seq ?_
    refine k_sreg (r_gq [(3, .addr 11 [(0, 0)]), (7, .ov false [.sl (some 3) (x11.1.map eI)]), (8, .p (iV x3.1)), (11, .box (eCu x11.2)), (44, .p (.bool (decide ((x11.1.length : Int) < x3.1))))] [(1, {n := some x11.1.length})] (A1 (show (x11.1.map eI).length = x11.1.length from (List.length_map ..)))) ?_
    refine kc (decide ((x11.1.length : Int) < x3.1)) (fun hc5_12 => ?_) (fun hc5_12 => ?_)
    ·replace h := ite_t hc5_12 h
     refine k_skip ?_
     refine q_n ?_
     refine k_block ?_
     replace h := bs h
     obtain ⟨v14, hv14, h⟩ := h
     replace h := bs h
     obtain ⟨u15, hu15, h⟩ := h
     refine k_reg (r_gq [(3, .addr 11 [(0, 0)]), (7, .ov false [.sl (some 3) ((x11.1 ++ [v14.1]).map eI)]), (8, .p (iV x3.1)), (11, .box (eCu v14.2))] [(3, {lend := some (some [.d false [.sl none (([0, 1, 1, 2, 5, 40, 100]).map eI)]], [.p (iV v14.1)], .box (eCu v14.2), false), fix := some (47, .d false [.sl none (([0, 1, 1, 2, 5, 40, 100]).map eI)])}), (5, {fix := some (50, .ov false [.sl (some 3) ((x11.1 ++ [v14.1]).map eI)])})] (A6 (show ([.d false [.sl none (eraL (([0, 1, 1, 2, 5, 40, 100]).map eI))]] : List Arg) = [.d false [.sl none (([0, 1, 1, 2, 5, 40, 100]).map eI)]] from (by simp only [eraL_enc (h := eI) er_I])) (wk_spec_l1Cur_among hv14) (show (SV.d false (eraR [.sl (some 3) (([0, 1, 1, 2, 5, 40, 100]).map eI)]) : SV) = .d false [.sl none (([0, 1, 1, 2, 5, 40, 100]).map eI)] from (congrArg (fun z => SV.d false z) (erc_sl (eraL_enc er_I) rfl))) (show List.length ((x11.1.map eI) : List (List C)) + List.length ((([v14.1]).map eI) : List (List C)) ≤ 1099511627776 from (by have hg := (guardO_some hu15); simpa using hg)) (show ∀ row ∈ ((([v14.1]).map eI) : List (List C)), row.length = 1 from (rows_len fun _ => rfl)) (show (SV.ov false [.sl (some 3) ((x11.1.map eI) ++ (([v14.1]).map eI))] : SV) = .ov false [.sl (some 3) ((x11.1 ++ [v14.1]).map eI)] from (congrArg (fun z => SV.ov false [.sl (some 3) z]) (List.map_append ..).symm)))) ?_
     refine b_n ?_
     exact lqn ((x11.1 ++ [v14.1]), v14.2.1, v14.2.2.1, v14.2.2.2) h
    ·replace h := ite_f hc5_12 h
     refine k_exit ?_
     refine q_x ?_
     refine lq_x ?_
     refine b_x ?_
     have hyy := hy_x11 _ (oi h).symm
     subst hyy
     have h := hk_x11
     refine q_n ?_
     exact jx x11 h
  ·replace h := bs h
   obtain ⟨v16, hv16, h⟩ := h
   refine k_sreg (r_gq [(3, .addr 11 [(0, 0)]), (7, .ov false [.sl (some 3) []]), (8, .p (iV (w64 (1 + v2.1)))), (11, .box (eCu v16.2)), (37, .p (.bool v16.1))] [(1, {lend := some (none, [.p (.bool v16.1)], .box (eCu v16.2), false)})] (A1 (wk_spec_l1Cur_one hv16))) ?_
   refine kc v16.1 (fun hc2_16 => ?_) (fun hc2_16 => ?_)
   ·replace h := ite_t hc2_16 h
    replace h := bs h
    obtain ⟨v18, hv18, h⟩ := h
    refine k_reg (r_gq [(3, .addr 11 [(0, 0)]), (7, .ov false [.sl (some 3) []]), (8, .p (iV v18.1)), (11, .box (eCu v18.2))] [(2, {lend := some (some [.d false [.sl none (([0, 8, 9]).map eI)]], [.p (iV v18.1)], .box (eCu v18.2), false), fix := some (39, .d false [.sl none (([0, 8, 9]).map eI)])})] (A3 (show ([.d false [.sl none (eraL (([0, 8, 9]).map eI))]] : List Arg) = [.d false [.sl none (([0, 8, 9]).map eI)]] from (by simp only [eraL_enc (h := eI) er_I])) (wk_spec_l1Cur_among hv18) (show (SV.d false (eraR [.sl (some 3) (([0, 8, 9]).map eI)]) : SV) = .d false [.sl none (([0, 8, 9]).map eI)] from (congrArg (fun z => SV.d false z) (erc_sl (eraL_enc er_I) rfl))))) ?_
    refine q_n ?_
    exact jx v18 h
   ·replace h := ite_f hc2_16 h
    refine k_skip ?_
    refine q_n ?_
    exact jx ((w64 (1 + v2.1)), v16.2.1, v16.2.2.1, v16.2.2.2) h
 ·replace h := bs h
  obtain ⟨v19, hv19, h⟩ := h
  refine k_sreg (r_gq [(3, .addr 11 [(0, 0)]), (11, .box (eCu v19.2)), (13, .p (.bool v19.1))] [(1, {lend := some (none, [.p (.bool v19.1)], .box (eCu v19.2), false)})] (A1 (wk_spec_l1Cur_one hv19))) ?_
  refine kc v19.1 (fun hc2_19 => ?_) (fun hc2_19 => ?_)
  ·replace h := ite_t hc2_19 h
   replace h := bs h
   obtain ⟨v21, hv21, h⟩ := h
   refine k_sreg (r_gq [(4, .ov false [.sl (some 26) (v21.1.map (eO 3 eI))])] [(1, {lend := some (none, [.ov false [.sl (some 26) (v21.1.map (eO 3 eI))]], .box (eCu v21.2), false)})] (A1 (wk_spec_l1Cur_graph hv21))) ?_
   refine k_sreg (r_gq [(4, .ov false [.sl (some 26) (v21.1.map (eO 3 eI))]), (5, .ov false [.sl (some 3) []])] [] trivial) ?_
   refine k_join (J := fun (x : (List Int)) => [(5, .ov false [.sl (some 3) (x.map eI)])]) (K := fun x => spec_DrawEulerProduct_k4 x = some r) (fun x22 h => ?_) ?_
   ·unfold spec_DrawEulerProduct_k4 at h
    refine k_sreg (r_gq [(2, .ov false [.sl (some 3) (x22.map eI)])] [] trivial) ?_
    refine k_ret ?_
    refine q_r ?_
    obtain rfl := oi h
    exact er [(.ov false [.sl (some 3) (x22.map eI)], 2)]
   ·refine k_sreg (r_gq [(4, .ov false [.sl (some 26) (v21.1.map (eO 3 eI))]), (5, .ov false [.sl (some 3) []]), (6, .p (iV 1))] [] trivial) ?_
    refine k_block ?_
    obtain ⟨y24, hl_x23, hk_x23⟩ := bs h
    clear h
    refine k_loop (J := fun (x : ((List Int) × Int)) => [(4, .ov false [.sl (some 26) (v21.1.map (eO 3 eI))]), (5, .ov false [.sl (some 3) (x.1.map eI)]), (6, .p (iV x.2))]) hl_x23 (wk_of (by kernel_rfl) (by kernel_rfl)) (fun x23 o_x23 h hy_x23 => ?_)
    unfold spec_DrawEulerProduct_b2 at h
    refine k_seq ?_
    replace h := bs h
    obtain ⟨w26, hw26, h⟩ := h
    refine k_sreg (l1 := [(4, .ov false [.sl (some 26) (v21.1.map (eO 3 eI))]), (5, .ov false [.sl (some 3) (x23.1.map eI)]), (6, .p (iV x23.2)), (23, .p (.bool w26))]) ?_ ?_
    ·clear h
     rcases ft (decide (x23.2 ≤ 8)) with ha1 | ha1
     ·replace hw26 := ite_t ha1 hw26
      replace hw26 := bs hw26
      obtain ⟨v25, hv25, hw26⟩ := hw26
      have hw26 := oi hw26
      subst hw26
      exact (r_gq [(4, .ov false [.sl (some 26) (v21.1.map (eO 3 eI))]), (5, .ov false [.sl (some 3) (x23.1.map eI)]), (6, .p (iV x23.2)), (23, .p (.bool (decide (v25 ≥ 0))))] [(3, gT), (4, gT), (5, {g := some true, call := some (some [.d false [.sl none (v21.1.map (eF eI))], wI x23.2], [.p (iV v25)], true)}), (6, gT), (7, bT)] (B6 ha1 ha1 ha1 (show ([.d false [.sl none (eraL (v21.1.map (eO 3 eI)))], wI x23.2] : List Arg) = [.d false [.sl none (v21.1.map (eF eI))], wI x23.2] from (by simp only [eraL_enc (h := (eF eI)) (era_O er_I)])) (wk_spec_zeCycles hv25) ha1 (A1 ha1)))
     ·replace hw26 := ite_f ha1 hw26
      have hw26 := oi hw26
      subst hw26
      exact (r_gq [(4, .ov false [.sl (some 26) (v21.1.map (eO 3 eI))]), (5, .ov false [.sl (some 3) (x23.1.map eI)]), (6, .p (iV x23.2)), (23, .p (.bool false))] [(3, gF), (4, gF), (5, gF), (6, gF), (7, bF)] (A5 ha1 ha1 ha1 ha1 ha1))
    ·refine kc w26 (fun hc6_26 => ?_) (fun hc6_26 => ?_)
     ·replace h := ite_t hc6_26 h
      refine k_skip ?_
      refine q_n ?_
      refine k_seq ?_
      refine k_block ?_
      replace h := bs h
      obtain ⟨v28, hv28, h⟩ := h
      replace h := bs h
      obtain ⟨u29, hu29, h⟩ := h
      refine k_reg (r_gq [(4, .ov false [.sl (some 26) (v21.1.map (eO 3 eI))]), (5, .ov false [.sl (some 3) ((x23.1 ++ [v28]).map eI)]), (6, .p (iV x23.2))] [(3, {call := some (some [.d false [.sl none (v21.1.map (eF eI))], wI x23.2], [.p (iV v28)], true)}), (5, {fix := some (31, .ov false [.sl (some 3) ((x23.1 ++ [v28]).map eI)])})] (A5 (show ([.d false [.sl none (eraL (v21.1.map (eO 3 eI)))], wI x23.2] : List Arg) = [.d false [.sl none (v21.1.map (eF eI))], wI x23.2] from (by simp only [eraL_enc (h := (eF eI)) (era_O er_I)])) (wk_spec_zeCycles hv28) (show List.length ((x23.1.map eI) : List (List C)) + List.length ((([v28]).map eI) : List (List C)) ≤ 1099511627776 from (by have hg := (guardO_some hu29); simpa using hg)) (show ∀ row ∈ ((([v28]).map eI) : List (List C)), row.length = 1 from (rows_len fun _ => rfl)) (show (SV.ov false [.sl (some 3) ((x23.1.map eI) ++ (([v28]).map eI))] : SV) = .ov false [.sl (some 3) ((x23.1 ++ [v28]).map eI)] from (congrArg (fun z => SV.ov false [.sl (some 3) z]) (List.map_append ..).symm)))) ?_
      refine b_n ?_
      refine q_n ?_
      refine k_reg (r_gq [(4, .ov false [.sl (some 26) (v21.1.map (eO 3 eI))]), (5, .ov false [.sl (some 3) ((x23.1 ++ [v28]).map eI)]), (6, .p (iV (w64 (x23.2 + 1))))] [] trivial) ?_
      exact lqn ((x23.1 ++ [v28]), (w64 (x23.2 + 1))) h
     ·replace h := ite_f hc6_26 h
      refine k_exit ?_
      refine q_x ?_
      refine lq_x ?_
      refine b_x ?_
      have hyy := hy_x23 _ (oi h).symm
      subst hyy
      have h := hk_x23
      refine q_n ?_
      exact jx x23.1 h
  ·replace h := ite_f hc2_19 h
   refine k_skip ?_
   refine q_n ?_
   exact jx v19.2 h
theorem wk_impl_EulerProduct_1 {a0 : Int}  {r : Bool} (h : impl_EulerProduct_1 a0 = some r) : Meets Try.prog 86 [wI a0] { vals := [.p (.bool r)] } := by
 refine mo Try.func86 [(0, .p (iV a0))] ?_
 unfold impl_EulerProduct_1 at h
 refine k_sreg (r_gq [(0, .p (iV a0))] [] trivial) ?_
 replace h := bs h
 obtain ⟨v1, hv1, h⟩ := h
 refine k_sreg (r_gq [(2, .p (.bool (!v1)))] [(1, {call := some (none, [.p (.bool v1)], true)})] (A1 (wk_impl_within hv1))) ?_
 refine k_ret ?_
 obtain rfl := oi h
 exact er [(.p (.bool (!v1)), 2)]
theorem wk_impl_EulerProduct_2 {a0 : Int}  {r : Bool} (h : impl_EulerProduct_2 a0 = some r) : Meets Try.prog 87 [wI a0] { vals := [.p (.bool r)] } := by
 refine mo Try.func87 [(0, .p (iV a0))] ?_
 unfold impl_EulerProduct_2 at h
 refine k_sreg (r_gq [(0, .p (iV a0))] [] trivial) ?_
 replace h := bs h
 obtain ⟨v1, hv1, h⟩ := h
 refine k_sreg (r_gq [(2, .p (.bool (!v1)))] [(1, {call := some (none, [.p (.bool v1)], true)})] (A1 (wk_impl_within hv1))) ?_
 refine k_ret ?_
 obtain rfl := oi h
 exact er [(.p (.bool (!v1)), 2)]
theorem wk_impl_EulerProduct {a0 : (List Int)}  {r : ((List Int) × Bool)} (h : impl_EulerProduct a0 = some r) : Meets Try.prog 25 [.d false [.sl none (a0.map eI)]] { vals := [.ov false [.sl (some 3) (r.1.map eI)], .p (.bool r.2)] } := by
 refine mo Try.func25 [(0, .d false [.sl none (a0.map eI)])] ?_
 unfold impl_EulerProduct at h
 refine k_sreg (r_gq [(0, .d false [.sl none (a0.map eI)])] [] trivial) ?_
 refine k_seq ?_
 replace h := bs h
 obtain ⟨v1, hv1, h⟩ := h
 replace h := bs h
 obtain ⟨w3, hw3, h⟩ := h
 refine k_sreg (l1 := [(0, .d false [.sl none (a0.map eI)]), (15, .p (.bool w3))]) ?_ ?_
 ·clear h
  rcases ft (!v1) with ha0 | ha0
  ·replace hw3 := ite_t ha0 hw3
   have hw3 := oi hw3
   subst hw3
   exact (r_gq [(0, .d false [.sl none (a0.map eI)]), (15, .p (.bool true))] [(1, {n := some a0.length}), (2, {call := some (none, [.p (.bool v1)], true)}), (5, gT), (6, gT), (7, bT)] (A5 (show (a0.map eI).length = a0.length from (List.length_map ..)) (wk_impl_within hv1) ha0 ha0 ha0))
  ·replace hw3 := ite_f ha0 hw3
   replace hw3 := bs hw3
   obtain ⟨v2, hv2, hw3⟩ := hw3
   have hw3 := oi hw3
   subst hw3
   exact (r_gq [(0, .d false [.sl none (a0.map eI)]), (15, .p (.bool v2))] [(1, {n := some a0.length}), (2, {call := some (none, [.p (.bool v1)], true)}), (5, gF), (6, {g := some false, call := some (none, [.p (.bool v2)], true)}), (7, bF)] (A6 (show (a0.map eI).length = a0.length from (List.length_map ..)) (wk_impl_within hv1) ha0 ha0 (show Meets Try.prog 85 ([.d false [.sl none (a0.map eI)], .v (.func (.func 86) #[] #[])] ++ []) { vals := [.p (.bool v2)] } from (wk_slices_ContainsFunc_Lint_int_v (fun x0 y hy => wk_impl_EulerProduct_1 hy) hv2)) ha0))
 ·refine kc w3 (fun hc2_3 => ?_) (fun hc2_3 => ?_)
  ·replace h := ite_t hc2_3 h
   refine k_sreg (r_gq [(2, .ov false [.sl (some 3) []]), (3, .p (.bool false))] [] trivial) ?_
   refine k_ret ?_
   refine q_r ?_
   obtain rfl := oi h
   exact er [(.ov false [.sl (some 3) []], 2), (.p (.bool false), 3)]
  ·replace h := ite_f hc2_3 h
   refine k_skip ?_
   refine q_n ?_
   replace h := bs h
   obtain ⟨u5, hu5, h⟩ := h
   refine k_sreg (r_gq [(0, .d false [.sl none (a0.map eI)]), (4, .ov false [.sl (some 3) ((List.replicate (Int.toNat (w64 ((a0.length : Int) + 1))) (0 : Int)).map eI)])] [(1, {n := some a0.length}), (3, {fix := some (19, .ov false [.sl (some 3) ((List.replicate (Int.toNat (w64 ((a0.length : Int) + 1))) (0 : Int)).map eI)])})] (A5 (show (a0.map eI).length = a0.length from (List.length_map ..)) (show (w64 ((a0.length : Int) + 1)) = (w64 ((a0.length : Int) + 1)) from rfl) (guardO_some hu5).1 (guardO_some hu5).2 (show (SV.ov false [.sl (some 3) (List.replicate (Int.toNat (w64 ((a0.length : Int) + 1))) [rI 0])] : SV) = .ov false [.sl (some 3) ((List.replicate (Int.toNat (w64 ((a0.length : Int) + 1))) (0 : Int)).map eI)] from (congrArg (fun z => SV.ov false [.sl (some 3) z]) (rep_fix eI (0 : Int)))))) ?_
   replace h := bs h
   obtain ⟨v6, hv6, h⟩ := h
   refine k_sreg (r_gq [(0, .d false [.sl none (a0.map eI)]), (4, .ov false [.sl (some 3) (((List.replicate (Int.toNat (w64 ((a0.length : Int) + 1))) (0 : Int)).set (Int.toNat 0) 1).map eI)])] [(1, {row := some (eI v6)}), (2, {row := some (eI v6), fix := some (4, .ov false [.sl (some 3) (((List.replicate (Int.toNat (w64 ((a0.length : Int) + 1))) (0 : Int)).set (Int.toNat 0) 1).map eI)])})] (A4 (idxO_some hv6).1 (map_get eI (idxO_some hv6).2) (show getRow [[.sl (some 3) ((List.replicate (Int.toNat (w64 ((a0.length : Int) + 1))) (0 : Int)).map eI)]] [(0, 0), ((Int.toNat 0), 0)] = some (eI v6) from ((gr0 rfl).trans (gre (map_get eI (idxO_some hv6).2)))) (show (SV.ov false [.sl (some 3) (setL ((List.replicate (Int.toNat (w64 ((a0.length : Int) + 1))) (0 : Int)).map eI) [((Int.toNat 0), 0)] [rI 1])] : SV) = .ov false [.sl (some 3) (((List.replicate (Int.toNat (w64 ((a0.length : Int) + 1))) (0 : Int)).set (Int.toNat 0) 1).map eI)] from (congrArg (fun z => SV.ov false [.sl (some 3) z]) (set1 (f := eI) (y := 1) (idxO_some hv6).2 rfl))))) ?_
   refine k_join (J := fun (x : (List Int)) => [(4, .ov false [.sl (some 3) (x.map eI)])]) (K := fun x => impl_EulerProduct_k1 x = some r) (fun x7 h => ?_) ?_
   ·unfold impl_EulerProduct_k1 at h
    refine k_seq ?_
    replace h := bs h
    obtain ⟨v8, hv8, h⟩ := h
    refine k_sreg (r_gq [(4, .ov false [.sl (some 3) (x7.map eI)]), (55, .p (.bool v8))] [(1, {call := some (some [.d false [.sl none (x7.map eI)], .v (.func (.func 87) #[] #[])], [.p (.bool v8)], true)})] (A2 (show ([.d false [.sl none (eraL (x7.map eI))], .v (.func (.func 87) #[] #[])] : List Arg) = [.d false [.sl none (x7.map eI)], .v (.func (.func 87) #[] #[])] from (by simp only [eraL_enc (h := eI) er_I])) (show Meets Try.prog 85 ([.d false [.sl none (x7.map eI)], .v (.func (.func 87) #[] #[])] ++ []) { vals := [.p (.bool v8)] } from (wk_slices_ContainsFunc_Lint_int_v (fun x0 y hy => wk_impl_EulerProduct_2 hy) hv8)))) ?_
    refine kc v8 (fun hc2_8 => ?_) (fun hc2_8 => ?_)
    ·replace h := ite_t hc2_8 h
     refine k_sreg (r_gq [(2, .ov false [.sl (some 3) []]), (3, .p (.bool false))] [] trivial) ?_
     refine k_ret ?_
     refine q_r ?_
     obtain rfl := oi h
     exact er [(.ov false [.sl (some 3) []], 2), (.p (.bool false), 3)]
    ·replace h := ite_f hc2_8 h
     refine k_skip ?_
     refine q_n ?_
     refine k_sreg (r_gq [(2, .ov false [.sl (some 3) (x7.map eI)]), (3, .p (.bool true))] [] trivial) ?_
     refine k_ret ?_
     obtain rfl := oi h
     exact er [(.ov false [.sl (some 3) (x7.map eI)], 2), (.p (.bool true), 3)]
   ·refine k_sreg (r_gq [(0, .d false [.sl none (a0.map eI)]), (4, .ov false [.sl (some 3) (((List.replicate (Int.toNat (w64 ((a0.length : Int) + 1))) (0 : Int)).set (Int.toNat 0) 1).map eI)]), (22, .d false [.sl none (a0.map eI)]), (23, .p (iV (a0.length : Int))), (24, .p (iV 0))] [(1, {n := some a0.length})] (A1 (show (a0.map eI).length = a0.length from (List.length_map ..)))) ?_
    refine k_block ?_
    obtain ⟨y11, hl_x10, hk_x10⟩ := bs h
    clear h
    refine k_loop (J := fun (x : ((List Int) × Int)) => [(0, .d false [.sl none (a0.map eI)]), (4, .ov false [.sl (some 3) (x.1.map eI)]), (22, .d false [.sl none (a0.map eI)]), (23, .p (iV (a0.length : Int))), (24, .p (iV x.2))]) hl_x10 (wk_of (by kernel_rfl) (by kernel_rfl)) (fun x10 o_x10 h hy_x10 => ?_)
    unfold impl_EulerProduct_b1 at h
    refine k_sreg (r_gq [(0, .d false [.sl none (a0.map eI)]), (4, .ov false [.sl (some 3) (x10.1.map eI)]), (22, .d false [.sl none (a0.map eI)]), (23, .p (iV (a0.length : Int))), (24, .p (iV x10.2)), (25, .p (.bool (decide (x10.2 < (a0.length : Int)))))] [] trivial) ?_
    refine k_seq ?_
    refine kc (decide (x10.2 < (a0.length : Int))) (fun hc5_11 => ?_) (fun hc5_11 => ?_)
    ·replace h := ite_t hc5_11 h
     refine k_skip ?_
     refine q_n ?_
     refine k_join (J := fun (x : (List Int)) => [(0, .d false [.sl none (a0.map eI)]), (4, .ov false [.sl (some 3) (x.map eI)]), (22, .d false [.sl none (a0.map eI)]), (23, .p (iV (a0.length : Int))), (24, .p (iV x10.2))]) (K := fun x => impl_EulerProduct_k2 x10 x = some o_x10) (fun x13 h => ?_) ?_
     ·unfold impl_EulerProduct_k2 at h
      refine k_reg (r_gq [(0, .d false [.sl none (a0.map eI)]), (4, .ov false [.sl (some 3) (x13.map eI)]), (22, .d false [.sl none (a0.map eI)]), (23, .p (iV (a0.length : Int))), (24, .p (iV (w64 (x10.2 + 1))))] [] trivial) ?_
      exact lqn (x13, (w64 (x10.2 + 1))) h
     ·refine k_block ?_
      replace h := bs h
      obtain ⟨v14, hv14, h⟩ := h
      refine k_sreg (r_gq [(0, .d false [.sl none (a0.map eI)]), (4, .ov false [.sl (some 3) (x10.1.map eI)]), (5, .p (iV x10.2)), (6, .p (iV v14)), (22, .d false [.sl none (a0.map eI)]), (23, .p (iV (a0.length : Int))), (24, .p (iV x10.2))] [(1, {row := some (eI v14)})] (A2 (idxO_some hv14).1 (map_get eI (idxO_some hv14).2))) ?_
      refine k_sreg (r_gq [(0, .d false [.sl none (a0.map eI)]), (4, .ov false [.sl (some 3) (x10.1.map eI)]), (5, .p (iV x10.2)), (22, .d false [.sl none (a0.map eI)]), (23, .p (iV (a0.length : Int))), (24, .p (iV x10.2)), (29, .p (iV v14)), (30, .p (iV 0))] [] trivial) ?_
      refine k_block ?_
      obtain ⟨y16, hl_x15, hk_x15⟩ := bs h
      clear h
      refine k_loop (J := fun (x : ((List Int) × Int)) => [(0, .d false [.sl none (a0.map eI)]), (4, .ov false [.sl (some 3) (x.1.map eI)]), (5, .p (iV x10.2)), (22, .d false [.sl none (a0.map eI)]), (23, .p (iV (a0.length : Int))), (24, .p (iV x10.2)), (29, .p (iV v14)), (30, .p (iV x.2))]) hl_x15 (wk_of (by kernel_rfl) (by kernel_rfl)) (fun x15 o_x15 h hy_x15 => ?_)
      unfold impl_EulerProduct_b2 at h
      refine k_sreg (r_gq [(0, .d false [.sl none (a0.map eI)]), (4, .ov false [.sl (some 3) (x15.1.map eI)]), (5, .p (iV x10.2)), (22, .d false [.sl none (a0.map eI)]), (23, .p (iV (a0.length : Int))), (24, .p (iV x10.2)), (29, .p (iV v14)), (30, .p (iV x15.2)), (31, .p (.bool (decide (x15.2 < v14))))] [] trivial) ?_
      refine k_seq ?_
      refine kc (decide (x15.2 < v14)) (fun hc9_16 => ?_) (fun hc9_16 => ?_)
      ·replace h := ite_t hc9_16 h
       refine k_skip ?_
       refine q_n ?_
       refine k_join (J := fun (x : (List Int)) => [(0, .d false [.sl none (a0.map eI)]), (4, .ov false [.sl (some 3) (x.map eI)]), (5, .p (iV x10.2)), (22, .d false [.sl none (a0.map eI)]), (23, .p (iV (a0.length : Int))), (24, .p (iV x10.2)), (29, .p (iV v14)), (30, .p (iV x15.2))]) (K := fun x => impl_EulerProduct_k3 x15 x = some o_x15) (fun x18 h => ?_) ?_
       ·unfold impl_EulerProduct_k3 at h
        refine k_reg (r_gq [(0, .d false [.sl none (a0.map eI)]), (4, .ov false [.sl (some 3) (x18.map eI)]), (5, .p (iV x10.2)), (22, .d false [.sl none (a0.map eI)]), (23, .p (iV (a0.length : Int))), (24, .p (iV x10.2)), (29, .p (iV v14)), (30, .p (iV (w64 (x15.2 + 1))))] [] trivial) ?_
        exact lqn (x18, (w64 (x15.2 + 1))) h
       ·refine k_block ?_
        refine k_sreg (r_gq [(0, .d false [.sl none (a0.map eI)]), (4, .ov false [.sl (some 3) (x15.1.map eI)]), (5, .p (iV x10.2)), (7, .p (iV (a0.length : Int))), (22, .d false [.sl none (a0.map eI)]), (23, .p (iV (a0.length : Int))), (24, .p (iV x10.2)), (29, .p (iV v14)), (30, .p (iV x15.2))] [(1, {n := some a0.length})] (A1 (show (a0.map eI).length = a0.length from (List.length_map ..)))) ?_
        refine k_block ?_
        obtain ⟨y20, hl_x19, hk_x19⟩ := bs h
        clear h
        refine k_loop (J := fun (x : ((List Int) × Int)) => [(0, .d false [.sl none (a0.map eI)]), (4, .ov false [.sl (some 3) (x.1.map eI)]), (5, .p (iV x10.2)), (7, .p (iV x.2)), (22, .d false [.sl none (a0.map eI)]), (23, .p (iV (a0.length : Int))), (24, .p (iV x10.2)), (29, .p (iV v14)), (30, .p (iV x15.2))]) hl_x19 (wk_of (by kernel_rfl) (by kernel_rfl)) (fun x19 o_x19 h hy_x19 => ?_)
        unfold impl_EulerProduct_b3 at h
        refine k_seq ?_
        refine k_sreg (r_gq [(0, .d false [.sl none (a0.map eI)]), (4, .ov false [.sl (some 3) (x19.1.map eI)]), (5, .p (iV x10.2)), (7, .p (iV x19.2)), (22, .d false [.sl none (a0.map eI)]), (23, .p (iV (a0.length : Int))), (24, .p (iV x10.2)), (29, .p (iV v14)), (30, .p (iV x15.2)), (36, .p (.bool (decide (x19.2 > x10.2))))] [] trivial) ?_
        refine kc (decide (x19.2 > x10.2)) (fun hc13_20 => ?_) (fun hc13_20 => ?_)
        ·replace h := ite_t hc13_20 h
         refine k_skip ?_
         refine q_n ?_
         refine k_seq ?_
         refine k_block ?_
         replace h := bs h
         obtain ⟨v22, hv22, h⟩ := h
         replace h := bs h
         obtain ⟨v23, hv23, h⟩ := h
         refine k_reg (r_dq Try_mixed 11 [] [(0, .d false [.sl none (a0.map eI)]), (4, .ov false [.sl (some 3) ((x19.1.set (Int.toNat x19.2) (w64 (v22 - v23))).map eI)]), (5, .p (iV x10.2)), (7, .p (iV x19.2)), (22, .d false [.sl none (a0.map eI)]), (23, .p (iV (a0.length : Int))), (24, .p (iV x10.2)), (29, .p (iV v14)), (30, .p (iV x15.2))] [(2, {row := some (eI v22)}), (3, {row := some (eI v22)}), (9, {row := some (eI v23)}), (10, {row := some (eI v23)}), (12, {row := some (eI v22)}), (13, {row := some (eI v22), fix := some (4, .ov false [.sl (some 3) ((x19.1.set (Int.toNat x19.2) (w64 (v22 - v23))).map eI)])})] (B6 (idxO_some hv22).1 (map_get eI (idxO_some hv22).2) (show getRow [[.sl (some 3) (x19.1.map eI)]] [(0, 0), ((Int.toNat x19.2), 0)] = some (eI v22) from ((gr0 rfl).trans (gre (map_get eI (idxO_some hv22).2)))) (idxO_some hv23).1 (map_get eI (idxO_some hv23).2) (show getRow [[.sl (some 3) (x19.1.map eI)]] [(0, 0), ((Int.toNat (w64 ((w64 (x19.2 - x10.2)) - 1))), 0)] = some (eI v23) from ((gr0 rfl).trans (gre (map_get eI (idxO_some hv23).2)))) (A4 (idxO_some hv22).1 (map_get eI (idxO_some hv22).2) (show getRow [[.sl (some 3) (x19.1.map eI)]] [(0, 0), ((Int.toNat x19.2), 0)] = some (eI v22) from ((gr0 rfl).trans (gre (map_get eI (idxO_some hv22).2)))) (show (SV.ov false [.sl (some 3) (setL (x19.1.map eI) [((Int.toNat x19.2), 0)] [rI (w64 (v22 - v23))])] : SV) = .ov false [.sl (some 3) ((x19.1.set (Int.toNat x19.2) (w64 (v22 - v23))).map eI)] from (congrArg (fun z => SV.ov false [.sl (some 3) z]) (set1 (f := eI) (y := (w64 (v22 - v23))) (idxO_some hv22).2 rfl)))))) ?_
         refine b_n ?_
         refine q_n ?_
         refine k_reg (r_gq [(0, .d false [.sl none (a0.map eI)]), (4, .ov false [.sl (some 3) ((x19.1.set (Int.toNat x19.2) (w64 (v22 - v23))).map eI)]), (5, .p (iV x10.2)), (7, .p (iV (w64 (x19.2 - 1)))), (22, .d false [.sl none (a0.map eI)]), (23, .p (iV (a0.length : Int))), (24, .p (iV x10.2)), (29, .p (iV v14)), (30, .p (iV x15.2))] [] trivial) ?_
         exact lqn ((x19.1.set (Int.toNat x19.2) (w64 (v22 - v23))), (w64 (x19.2 - 1))) h
        ·replace h := ite_f hc13_20 h
         refine k_exit ?_
         refine q_x ?_
         refine lq_x ?_
         refine b_x ?_
         refine b_n ?_
         have hyy := hy_x19 _ (oi h).symm
         subst hyy
         have h := hk_x19
         refine q_n ?_
         exact jx x19.1 h
      ·replace h := ite_f hc9_16 h
       refine k_exit ?_
       refine q_x ?_
       refine lq_x ?_
       refine b_x ?_
       refine b_n ?_
       have hyy := hy_x15 _ (oi h).symm
       subst hyy
       have h := hk_x15
       refine q_n ?_
       exact jx x15.1 h
    ·replace h := ite_f hc5_11 h
     refine k_exit ?_
     refine q_x ?_
     refine lq_x ?_
     refine b_x ?_
     have hyy := hy_x10 _ (oi h).symm
     subst hyy
     have h := hk_x10
     refine q_n ?_
     exact jx x10.1 h
theorem wk_spec_EulerProduct {a0 : (List Int)}  {r : ((List Int) × Bool)} (h : spec_EulerProduct a0 = some r) : Meets Try.prog 26 [.d false [.sl none (a0.map eI)]] { vals := [.ov false [.sl (some 3) (r.1.map eI)], .p (.bool r.2)] } := by
 refine mo Try.func26 [(0, .d false [.sl none (a0.map eI)])] ?_
 unfold spec_EulerProduct at h
 refine k_sreg (r_gq [(0, .d false [.sl none (a0.map eI)])] [] trivial) ?_
 refine k_sreg (r_gq [(0, .d false [.sl none (a0.map eI)]), (4, .p (iV (a0.length : Int)))] [(1, {n := some a0.length})] (A1 (show (a0.map eI).length = a0.length from (List.length_map ..)))) ?_
 refine k_seq ?_
 replace h := bs h
 obtain ⟨v1, hv1, h⟩ := h
 replace h := bs h
 obtain ⟨w3, hw3, h⟩ := h
 refine k_sreg (l1 := [(0, .d false [.sl none (a0.map eI)]), (4, .p (iV (a0.length : Int))), (19, .p (.bool w3))]) ?_ ?_
 ·clear h
  rcases ft (!v1) with ha0 | ha0
  ·replace hw3 := ite_t ha0 hw3
   have hw3 := oi hw3
   subst hw3
   exact (r_gq [(0, .d false [.sl none (a0.map eI)]), (4, .p (iV (a0.length : Int))), (19, .p (.bool true))] [(1, {call := some (none, [.p (.bool v1)], true)}), (4, gT), (5, gT), (6, gT), (7, bT)] (A5 (wk_spec_l1In hv1) ha0 ha0 ha0 ha0))
  ·replace hw3 := ite_f ha0 hw3
   replace hw3 := bs hw3
   obtain ⟨v2, hv2, hw3⟩ := hw3
   have hw3 := oi hw3
   subst hw3
   exact (r_gq [(0, .d false [.sl none (a0.map eI)]), (4, .p (iV (a0.length : Int))), (19, .p (.bool (!v2)))] [(1, {call := some (none, [.p (.bool v1)], true)}), (4, gF), (5, {g := some false, call := some (none, [.p (.bool v2)], true)}), (6, gF), (7, bF)] (A6 (wk_spec_l1In hv1) ha0 ha0 (wk_spec_l1All hv2) ha0 ha0))
 ·refine kc w3 (fun hc2_3 => ?_) (fun hc2_3 => ?_)
  ·replace h := ite_t hc2_3 h
   refine k_sreg (r_gq [(2, .ov false [.sl (some 3) []]), (3, .p (.bool false))] [] trivial) ?_
   refine k_ret ?_
   refine q_r ?_
   obtain rfl := oi h
   exact er [(.ov false [.sl (some 3) []], 2), (.p (.bool false), 3)]
  ·replace h := ite_f hc2_3 h
   refine k_skip ?_
   refine q_n ?_
   replace h := bs h
   obtain ⟨u5, hu5, h⟩ := h
   refine k_sreg (r_gq [(0, .d false [.sl none (a0.map eI)]), (4, .p (iV (a0.length : Int))), (5, .ov false [.sl (some 3) ((List.replicate (Int.toNat (w64 ((a0.length : Int) + 1))) (0 : Int)).map eI)])] [(2, {fix := some (22, .ov false [.sl (some 3) ((List.replicate (Int.toNat (w64 ((a0.length : Int) + 1))) (0 : Int)).map eI)])})] (A4 (show (w64 ((a0.length : Int) + 1)) = (w64 ((a0.length : Int) + 1)) from rfl) (guardO_some hu5).1 (guardO_some hu5).2 (show (SV.ov false [.sl (some 3) (List.replicate (Int.toNat (w64 ((a0.length : Int) + 1))) [rI 0])] : SV) = .ov false [.sl (some 3) ((List.replicate (Int.toNat (w64 ((a0.length : Int) + 1))) (0 : Int)).map eI)] from (congrArg (fun z => SV.ov false [.sl (some 3) z]) (rep_fix eI (0 : Int)))))) ?_
   replace h := bs h
   obtain ⟨v6, hv6, h⟩ := h
   refine k_sreg (r_gq [(0, .d false [.sl none (a0.map eI)]), (4, .p (iV (a0.length : Int))), (5, .ov false [.sl (some 3) (((List.replicate (Int.toNat (w64 ((a0.length : Int) + 1))) (0 : Int)).set (Int.toNat 0) 1).map eI)])] [(1, {row := some (eI v6)}), (2, {row := some (eI v6), fix := some (5, .ov false [.sl (some 3) (((List.replicate (Int.toNat (w64 ((a0.length : Int) + 1))) (0 : Int)).set (Int.toNat 0) 1).map eI)])})] (A4 (idxO_some hv6).1 (map_get eI (idxO_some hv6).2) (show getRow [[.sl (some 3) ((List.replicate (Int.toNat (w64 ((a0.length : Int) + 1))) (0 : Int)).map eI)]] [(0, 0), ((Int.toNat 0), 0)] = some (eI v6) from ((gr0 rfl).trans (gre (map_get eI (idxO_some hv6).2)))) (show (SV.ov false [.sl (some 3) (setL ((List.replicate (Int.toNat (w64 ((a0.length : Int) + 1))) (0 : Int)).map eI) [((Int.toNat 0), 0)] [rI 1])] : SV) = .ov false [.sl (some 3) (((List.replicate (Int.toNat (w64 ((a0.length : Int) + 1))) (0 : Int)).set (Int.toNat 0) 1).map eI)] from (congrArg (fun z => SV.ov false [.sl (some 3) z]) (set1 (f := eI) (y := 1) (idxO_some hv6).2 rfl))))) ?_
   refine k_join (J := fun (x : (List Int)) => [(5, .ov false [.sl (some 3) (x.map eI)])]) (K := fun x => spec_EulerProduct_k1 x = some r) (fun x7 h => ?_) ?_
   ·unfold spec_EulerProduct_k1 at h
    refine k_seq ?_
    replace h := bs h
    obtain ⟨v8, hv8, h⟩ := h
    refine k_sreg (r_gq [(5, .ov false [.sl (some 3) (x7.map eI)]), (59, .p (.bool (!v8)))] [(1, {call := some (some [.d false [.sl none (x7.map eI)], wI (-1000000), wI 1000000], [.p (.bool v8)], true)})] (A2 (show ([.d false [.sl none (eraL (x7.map eI))], wI (-1000000), wI 1000000] : List Arg) = [.d false [.sl none (x7.map eI)], wI (-1000000), wI 1000000] from (by simp only [eraL_enc (h := eI) er_I])) (wk_spec_l1All hv8))) ?_
    refine kc (!v8) (fun hc2_8 => ?_) (fun hc2_8 => ?_)
    ·replace h := ite_t hc2_8 h
     refine k_sreg (r_gq [(2, .ov false [.sl (some 3) []]), (3, .p (.bool false))] [] trivial) ?_
     refine k_ret ?_
     refine q_r ?_
     obtain rfl := oi h
     exact er [(.ov false [.sl (some 3) []], 2), (.p (.bool false), 3)]
    ·replace h := ite_f hc2_8 h
     refine k_skip ?_
     refine q_n ?_
     refine k_sreg (r_gq [(2, .ov false [.sl (some 3) (x7.map eI)]), (3, .p (.bool true))] [] trivial) ?_
     refine k_ret ?_
     obtain rfl := oi h
     exact er [(.ov false [.sl (some 3) (x7.map eI)], 2), (.p (.bool true), 3)]
   ·refine k_sreg (r_gq [(4, .p (iV (a0.length : Int))), (5, .ov false [.sl (some 3) (((List.replicate (Int.toNat (w64 ((a0.length : Int) + 1))) (0 : Int)).set (Int.toNat 0) 1).map eI)]), (25, .d false [.sl none (a0.map eI)]), (26, .p (iV (a0.length : Int))), (27, .p (iV 0))] [(1, {n := some a0.length})] (A1 (show (a0.map eI).length = a0.length from (List.length_map ..)))) ?_
    refine k_block ?_
    obtain ⟨y11, hl_x10, hk_x10⟩ := bs h
    clear h
    refine k_loop (J := fun (x : ((List Int) × Int)) => [(4, .p (iV (a0.length : Int))), (5, .ov false [.sl (some 3) (x.1.map eI)]), (25, .d false [.sl none (a0.map eI)]), (26, .p (iV (a0.length : Int))), (27, .p (iV x.2))]) hl_x10 (wk_of (by kernel_rfl) (by kernel_rfl)) (fun x10 o_x10 h hy_x10 => ?_)
    unfold spec_EulerProduct_b1 at h
    refine k_sreg (r_gq [(4, .p (iV (a0.length : Int))), (5, .ov false [.sl (some 3) (x10.1.map eI)]), (25, .d false [.sl none (a0.map eI)]), (26, .p (iV (a0.length : Int))), (27, .p (iV x10.2)), (28, .p (.bool (decide (x10.2 < (a0.length : Int)))))] [] trivial) ?_
    refine k_seq ?_
    refine kc (decide (x10.2 < (a0.length : Int))) (fun hc5_11 => ?_) (fun hc5_11 => ?_)
    ·replace h := ite_t hc5_11 h
     refine k_skip ?_
     refine q_n ?_
     refine k_join (J := fun (x : (List Int)) => [(4, .p (iV (a0.length : Int))), (5, .ov false [.sl (some 3) (x.map eI)]), (25, .d false [.sl none (a0.map eI)]), (26, .p (iV (a0.length : Int))), (27, .p (iV x10.2))]) (K := fun x => spec_EulerProduct_k2 x10 x = some o_x10) (fun x13 h => ?_) ?_
     ·unfold spec_EulerProduct_k2 at h
      refine k_reg (r_gq [(4, .p (iV (a0.length : Int))), (5, .ov false [.sl (some 3) (x13.map eI)]), (25, .d false [.sl none (a0.map eI)]), (26, .p (iV (a0.length : Int))), (27, .p (iV (w64 (x10.2 + 1))))] [] trivial) ?_
      exact lqn (x13, (w64 (x10.2 + 1))) h
     ·refine k_block ?_
      replace h := bs h
      obtain ⟨v14, hv14, h⟩ := h
      refine k_sreg (r_gq [(4, .p (iV (a0.length : Int))), (5, .ov false [.sl (some 3) (x10.1.map eI)]), (6, .p (iV x10.2)), (7, .p (iV v14)), (25, .d false [.sl none (a0.map eI)]), (26, .p (iV (a0.length : Int))), (27, .p (iV x10.2))] [(1, {row := some (eI v14)})] (A2 (idxO_some hv14).1 (map_get eI (idxO_some hv14).2))) ?_
      refine k_sreg (r_gq [(4, .p (iV (a0.length : Int))), (5, .ov false [.sl (some 3) (x10.1.map eI)]), (7, .p (iV v14)), (8, .p (iV (w64 (x10.2 + 1)))), (25, .d false [.sl none (a0.map eI)]), (26, .p (iV (a0.length : Int))), (27, .p (iV x10.2))] [] trivial) ?_
      refine k_block ?_
      obtain ⟨y16, hl_x15, hk_x15⟩ := bs h
      clear h
      refine k_loop (J := fun (x : ((List Int) × Int)) => [(4, .p (iV (a0.length : Int))), (5, .ov false [.sl (some 3) (x.1.map eI)]), (7, .p (iV x.2)), (8, .p (iV (w64 (x10.2 + 1)))), (25, .d false [.sl none (a0.map eI)]), (26, .p (iV (a0.length : Int))), (27, .p (iV x10.2))]) hl_x15 (wk_of (by kernel_rfl) (by kernel_rfl)) (fun x15 o_x15 h hy_x15 => ?_)
      unfold spec_EulerProduct_b2 at h
      refine k_seq ?_
      refine k_sreg (r_gq [(4, .p (iV (a0.length : Int))), (5, .ov false [.sl (some 3) (x15.1.map eI)]), (7, .p (iV x15.2)), (8, .p (iV (w64 (x10.2 + 1)))), (25, .d false [.sl none (a0.map eI)]), (26, .p (iV (a0.length : Int))), (27, .p (iV x10.2)), (35, .p (.bool (decide (x15.2 > 0))))] [] trivial) ?_
      refine kc (decide (x15.2 > 0)) (fun hc9_16 => ?_) (fun hc9_16 => ?_)
      ·replace h := ite_t hc9_16 h
       refine k_skip ?_
       refine q_n ?_
       refine k_join (J := fun (x : (List Int)) => [(4, .p (iV (a0.length : Int))), (5, .ov false [.sl (some 3) (x.map eI)]), (7, .p (iV x15.2)), (8, .p (iV (w64 (x10.2 + 1)))), (25, .d false [.sl none (a0.map eI)]), (26, .p (iV (a0.length : Int))), (27, .p (iV x10.2))]) (K := fun x => spec_EulerProduct_k3 x15 x = some o_x15) (fun x18 h => ?_) ?_
       ·unfold spec_EulerProduct_k3 at h
        refine k_reg (r_gq [(4, .p (iV (a0.length : Int))), (5, .ov false [.sl (some 3) (x18.map eI)]), (7, .p (iV (w64 (x15.2 - 1)))), (8, .p (iV (w64 (x10.2 + 1)))), (25, .d false [.sl none (a0.map eI)]), (26, .p (iV (a0.length : Int))), (27, .p (iV x10.2))] [] trivial) ?_
        exact lqn (x18, (w64 (x15.2 - 1))) h
       ·refine k_block ?_
        refine k_sreg (r_gq [(4, .p (iV (a0.length : Int))), (5, .ov false [.sl (some 3) (x15.1.map eI)]), (7, .p (iV x15.2)), (8, .p (iV (w64 (x10.2 + 1)))), (9, .p (iV (a0.length : Int))), (25, .d false [.sl none (a0.map eI)]), (26, .p (iV (a0.length : Int))), (27, .p (iV x10.2))] [] trivial) ?_
        refine k_block ?_
        obtain ⟨y20, hl_x19, hk_x19⟩ := bs h
        clear h
        refine k_loop (J := fun (x : ((List Int) × Int)) => [(4, .p (iV (a0.length : Int))), (5, .ov false [.sl (some 3) (x.1.map eI)]), (7, .p (iV x15.2)), (8, .p (iV (w64 (x10.2 + 1)))), (9, .p (iV x.2)), (25, .d false [.sl none (a0.map eI)]), (26, .p (iV (a0.length : Int))), (27, .p (iV x10.2))]) hl_x19 (wk_of (by kernel_rfl) (by kernel_rfl)) (fun x19 o_x19 h hy_x19 => ?_)
        unfold spec_EulerProduct_b3 at h
        refine k_seq ?_
        refine k_sreg (r_gq [(4, .p (iV (a0.length : Int))), (5, .ov false [.sl (some 3) (x19.1.map eI)]), (7, .p (iV x15.2)), (8, .p (iV (w64 (x10.2 + 1)))), (9, .p (iV x19.2)), (25, .d false [.sl none (a0.map eI)]), (26, .p (iV (a0.length : Int))), (27, .p (iV x10.2)), (41, .p (.bool (decide (x19.2 ≥ (w64 (x10.2 + 1))))))] [] trivial) ?_
        refine kc (decide (x19.2 ≥ (w64 (x10.2 + 1)))) (fun hc13_20 => ?_) (fun hc13_20 => ?_)
        ·replace h := ite_t hc13_20 h
         refine k_skip ?_
         refine q_n ?_
         refine k_seq ?_
         refine k_block ?_
         replace h := bs h
         obtain ⟨v22, hv22, h⟩ := h
         replace h := bs h
         obtain ⟨v23, hv23, h⟩ := h
         refine k_reg (r_dq Try_mixed 10 [] [(4, .p (iV (a0.length : Int))), (5, .ov false [.sl (some 3) ((x19.1.set (Int.toNat x19.2) (w64 (v22 - v23))).map eI)]), (7, .p (iV x15.2)), (8, .p (iV (w64 (x10.2 + 1)))), (9, .p (iV x19.2)), (25, .d false [.sl none (a0.map eI)]), (26, .p (iV (a0.length : Int))), (27, .p (iV x10.2))] [(2, {row := some (eI v22)}), (3, {row := some (eI v22)}), (8, {row := some (eI v23)}), (9, {row := some (eI v23)}), (11, {row := some (eI v22)}), (12, {row := some (eI v22), fix := some (5, .ov false [.sl (some 3) ((x19.1.set (Int.toNat x19.2) (w64 (v22 - v23))).map eI)])})] (B6 (idxO_some hv22).1 (map_get eI (idxO_some hv22).2) (show getRow [[.sl (some 3) (x19.1.map eI)]] [(0, 0), ((Int.toNat x19.2), 0)] = some (eI v22) from ((gr0 rfl).trans (gre (map_get eI (idxO_some hv22).2)))) (idxO_some hv23).1 (map_get eI (idxO_some hv23).2) (show getRow [[.sl (some 3) (x19.1.map eI)]] [(0, 0), ((Int.toNat (w64 (x19.2 - (w64 (x10.2 + 1))))), 0)] = some (eI v23) from ((gr0 rfl).trans (gre (map_get eI (idxO_some hv23).2)))) (A4 (idxO_some hv22).1 (map_get eI (idxO_some hv22).2) (show getRow [[.sl (some 3) (x19.1.map eI)]] [(0, 0), ((Int.toNat x19.2), 0)] = some (eI v22) from ((gr0 rfl).trans (gre (map_get eI (idxO_some hv22).2)))) (show (SV.ov false [.sl (some 3) (setL (x19.1.map eI) [((Int.toNat x19.2), 0)] [rI (w64 (v22 - v23))])] : SV) = .ov false [.sl (some 3) ((x19.1.set (Int.toNat x19.2) (w64 (v22 - v23))).map eI)] from (congrArg (fun z => SV.ov false [.sl (some 3) z]) (set1 (f := eI) (y := (w64 (v22 - v23))) (idxO_some hv22).2 rfl)))))) ?_
         refine b_n ?_
         refine q_n ?_
         refine k_reg (r_gq [(4, .p (iV (a0.length : Int))), (5, .ov false [.sl (some 3) ((x19.1.set (Int.toNat x19.2) (w64 (v22 - v23))).map eI)]), (7, .p (iV x15.2)), (8, .p (iV (w64 (x10.2 + 1)))), (9, .p (iV (w64 (x19.2 - 1)))), (25, .d false [.sl none (a0.map eI)]), (26, .p (iV (a0.length : Int))), (27, .p (iV x10.2))] [] trivial) ?_
         exact lqn ((x19.1.set (Int.toNat x19.2) (w64 (v22 - v23))), (w64 (x19.2 - 1))) h
        ·replace h := ite_f hc13_20 h
         refine k_exit ?_
         refine q_x ?_
         refine lq_x ?_
         refine b_x ?_
         refine b_n ?_
         have hyy := hy_x19 _ (oi h).symm
         subst hyy
         have h := hk_x19
         refine q_n ?_
         exact jx x19.1 h
      ·replace h := ite_f hc9_16 h
       refine k_exit ?_
       refine q_x ?_
       refine lq_x ?_
       refine b_x ?_
       refine b_n ?_
       have hyy := hy_x15 _ (oi h).symm
       subst hyy
       have h := hk_x15
       refine q_n ?_
       exact jx x15.1 h
    ·replace h := ite_f hc5_11 h
     refine k_exit ?_
     refine q_x ?_
     refine lq_x ?_
     refine b_x ?_
     have hyy := hy_x10 _ (oi h).symm
     subst hyy
     have h := hk_x10
     refine q_n ?_
     exact jx x10.1 h
theorem wk_spec_DrawCycleCount {a0 : (List Int)}  {r : ((List (List Int)) × Int)} (h : spec_DrawCycleCount a0 = some r) : Meets Try.prog 59 [.d false [.sl none (a0.map (eU .u8))]] { vals := [.ov false [.sl (some 26) (r.1.map (eO 3 eI))], .p (iV r.2)] } := by
 refine mo Try.func59 [(0, .d false [.sl none (a0.map (eU .u8))])] ?_
 unfold spec_DrawCycleCount at h
 refine k_sreg (r_gq [(0, .d false [.sl none (a0.map (eU .u8))])] [] trivial) ?_
 refine k_sreg (r_gq [(4, .addr 7 [(0, 0)]), (7, .box (eCu (a0, 0, 0)))] [] trivial) ?_
 replace h := bs h
 obtain ⟨v1, hv1, h⟩ := h
 replace h := bs h
 obtain ⟨v2, hv2, h⟩ := h
 replace h := bs h
 obtain ⟨v3, hv3, h⟩ := h
 refine k_sreg (r_gq [(2, .ov false [.sl (some 26) (v1.1.map (eO 3 eI))]), (3, .p (iV v3.1))] [(1, {lend := some (none, [.ov false [.sl (some 26) (v1.1.map (eO 3 eI))]], .box (eCu v1.2), false)}), (5, {lend := some (some [.d false [.sl none (([0, 13]).map eI)]], [.p (iV v2.1)], .box (eCu v2.2), false), fix := some (12, .d false [.sl none (([0, 13]).map eI)])}), (7, {lend := some (some [.d false [.sl none (([1, 2, 3, 4, 6, 12, v2.1]).map eI)]], [.p (iV v3.1)], .box (eCu v3.2), false), fix := some (14, .d false [.sl none (([1, 2, 3, 4, 6, 12, v2.1]).map eI)])})] (B6 (wk_spec_l1Cur_anyGraph hv1) (show ([.d false [.sl none (eraL (([0, 13]).map eI))]] : List Arg) = [.d false [.sl none (([0, 13]).map eI)]] from (by simp only [eraL_enc (h := eI) er_I])) (wk_spec_l1Cur_among hv2) (show (SV.d false (eraR [.sl (some 3) (([0, 13]).map eI)]) : SV) = .d false [.sl none (([0, 13]).map eI)] from (congrArg (fun z => SV.d false z) (erc_sl (eraL_enc er_I) rfl))) (show ([.d false [.sl none (eraL (([1, 2, 3, 4, 6, 12, v2.1]).map eI))]] : List Arg) = [.d false [.sl none (([1, 2, 3, 4, 6, 12, v2.1]).map eI)]] from (by simp only [eraL_enc (h := eI) er_I])) (wk_spec_l1Cur_among hv3) (A1 (show (SV.d false (eraR [.sl (some 3) (([1, 2, 3, 4, 6, 12, v2.1]).map eI)]) : SV) = .d false [.sl none (([1, 2, 3, 4, 6, 12, v2.1]).map eI)] from (congrArg (fun z => SV.d false z) (erc_sl (eraL_enc er_I) rfl)))))) ?_
 refine k_ret ?_
 obtain rfl := oi h
 exact er [(.ov false [.sl (some 26) (v1.1.map (eO 3 eI))], 2), (.p (iV v3.1), 3)]
theorem wk_impl_isLength {a0 : (List (List Int))} {a1 : Int}  {r : Bool} (h : impl_isLength a0 a1 = some r) : Meets Try.prog 82 [.d false [.sl none (a0.map (eF eI))], wI a1] { vals := [.p (.bool r)] } := by
 refine mo Try.func82 [(0, .d false [.sl none (a0.map (eF eI))]), (1, .p (iV a1))] ?_
 unfold impl_isLength at h
 refine k_sreg (r_gq [(0, .d false [.sl none (a0.map (eF eI))]), (1, .p (iV a1))] [] trivial) ?_
 replace h := bs h
 obtain ⟨v1, hv1, h⟩ := h
 replace h := bs h
 obtain ⟨w3, hw3, h⟩ := h
 refine k_sreg (l1 := [(4, .p (.bool w3))]) ?_ ?_
 ·clear h
  rcases ft v1 with ha0 | ha0
  ·replace hw3 := ite_t ha0 hw3
   replace hw3 := bs hw3
   obtain ⟨v2, hv2, hw3⟩ := hw3
   have hw3 := oi hw3
   subst hw3
   exact (r_gq [(4, .p (.bool v2))] [(1, {call := some (none, [.p (.bool v1)], true)}), (3, gT), (4, {g := some true, call := some (none, [.p (.bool v2)], true)}), (5, bT)] (A5 (wk_impl_isGraph hv1) ha0 ha0 (wk_impl_within hv2) ha0))
  ·replace hw3 := ite_f ha0 hw3
   have hw3 := oi hw3
   subst hw3
   exact (r_gq [(4, .p (.bool false))] [(1, {call := some (none, [.p (.bool v1)], true)}), (3, gF), (4, gF), (5, bF)] (A4 (wk_impl_isGraph hv1) ha0 ha0 ha0))
 ·refine k_ret ?_
  obtain rfl := oi h
  exact er [(.p (.bool w3), 4)]
theorem wk_impl_moebius {a0 : Int}  {r : Int} (h : impl_moebius a0 = some r) : Meets Try.prog 132 [wI a0] { vals := [.p (iV r)] } := by
 refine mo Try.func132 [(0, .p (iV a0))] ?_
 unfold impl_moebius at h
 refine k_sreg (r_gq [(0, .p (iV a0))] [] trivial) ?_
 refine k_sreg (r_gq [(0, .p (iV a0)), (3, .p (iV 1))] [] trivial) ?_
 refine k_join (J := fun (x : Int) => [(3, .p (iV x))]) (K := fun x => impl_moebius_k1 x = some r) (fun x1 h => ?_) ?_
 ·unfold impl_moebius_k1 at h
  refine k_sreg (r_gq [(2, .p (iV x1))] [] trivial) ?_
  refine k_ret ?_
  obtain rfl := oi h
  exact er [(.p (iV x1), 2)]
 ·refine k_sreg (r_gq [(0, .p (iV a0)), (3, .p (iV 1)), (4, .p (iV 2))] [] trivial) ?_
  refine k_block ?_
  obtain ⟨y3, hl_x2, hk_x2⟩ := bs h
  clear h
  refine k_loop (J := fun (x : (Int × Int × Int)) => [(0, .p (iV x.1)), (3, .p (iV x.2.1)), (4, .p (iV x.2.2))]) hl_x2 (wk_of (by kernel_rfl) (by kernel_rfl)) (fun x2 o_x2 h hy_x2 => ?_)
  unfold impl_moebius_b1 at h
  refine k_seq ?_
  refine k_sreg (r_gq [(0, .p (iV x2.1)), (3, .p (iV x2.2.1)), (4, .p (iV x2.2.2)), (7, .p (.bool (decide (x2.2.2 ≤ x2.1))))] [] trivial) ?_
  refine kc (decide (x2.2.2 ≤ x2.1)) (fun hc5_3 => ?_) (fun hc5_3 => ?_)
  ·replace h := ite_t hc5_3 h
   refine k_skip ?_
   refine q_n ?_
   refine k_seq ?_
   refine k_block ?_
   replace h := bs h
   obtain ⟨u5, hu5, h⟩ := h
   refine k_sreg (r_gq [(0, .p (iV x2.1)), (3, .p (iV x2.2.1)), (4, .p (iV x2.2.2)), (13, .p (.bool ((Int.tmod x2.1 x2.2.2) == 0)))] [] (A1 (guardO_some hu5))) ?_
   refine kc ((Int.tmod x2.1 x2.2.2) == 0) (fun hc6_5 => ?_) (fun hc6_5 => ?_)
   ·replace h := ite_t hc6_5 h
    refine k_sreg (r_gq [(0, .p (iV (w64 (Int.tdiv x2.1 x2.2.2)))), (3, .p (iV x2.2.1)), (4, .p (iV x2.2.2))] [] (A1 (guardO_some hu5))) ?_
    refine k_sreg (r_gq [(0, .p (iV (w64 (Int.tdiv x2.1 x2.2.2)))), (3, .p (iV (w64 (0 - x2.2.1)))), (4, .p (iV x2.2.2))] [] trivial) ?_
    refine k_sreg (r_gq [(0, .p (iV (w64 (Int.tdiv x2.1 x2.2.2)))), (3, .p (iV (w64 (0 - x2.2.1)))), (4, .p (iV x2.2.2)), (22, .p (.bool ((Int.tmod (w64 (Int.tdiv x2.1 x2.2.2)) x2.2.2) == 0)))] [] (A1 (guardO_some hu5))) ?_
    refine kc ((Int.tmod (w64 (Int.tdiv x2.1 x2.2.2)) x2.2.2) == 0) (fun hc6_6 => ?_) (fun hc6_6 => ?_)
    ·replace h := ite_t hc6_6 h
     refine k_sreg (r_gq [(2, .p (iV 0))] [] trivial) ?_
     refine k_ret ?_
     refine b_r ?_
     refine q_r ?_
     refine lq_r ?_
     refine b_r ?_
     refine q_r ?_
     have hyy := hy_x2 _ (oi h).symm
     subst hyy
     have h := hk_x2
     dsimp only [Sum.elim] at h
     obtain rfl := oi h
     exact er [(.p (iV 0), 2)]
    ·replace h := ite_f hc6_6 h
     refine k_skip ?_
     refine b_n ?_
     refine q_n ?_
     refine k_reg (r_gq [(0, .p (iV (w64 (Int.tdiv x2.1 x2.2.2)))), (3, .p (iV (w64 (0 - x2.2.1)))), (4, .p (iV (w64 (x2.2.2 + 1))))] [] trivial) ?_
     exact lqn ((w64 (Int.tdiv x2.1 x2.2.2)), (w64 (0 - x2.2.1)), (w64 (x2.2.2 + 1))) h
   ·replace h := ite_f hc6_5 h
    refine k_skip ?_
    refine b_n ?_
    refine q_n ?_
    refine k_reg (r_gq [(0, .p (iV x2.1)), (3, .p (iV x2.2.1)), (4, .p (iV (w64 (x2.2.2 + 1))))] [] trivial) ?_
    exact lqn (x2.1, x2.2.1, (w64 (x2.2.2 + 1))) h
  ·replace h := ite_f hc5_3 h
   refine k_exit ?_
   refine q_x ?_
   refine lq_x ?_
   refine b_x ?_
   have hyy := hy_x2 _ (oi h).symm
   subst hyy
   have h := hk_x2
   dsimp only [Sum.elim] at h
   refine q_n ?_
   exact jx x2.2.1 h
theorem wk_impl_cycleCount {a0 : (List (List Int))} {a1 : Int}  {r : (Int × Bool)} (h : impl_cycleCount a0 a1 = some r) : Meets Try.prog 83 [.d false [.sl none (a0.map (eF eI))], wI a1] { vals := [.p (iV r.1), .p (.bool r.2)] } := by
 refine mo Try.func83 [(0, .d false [.sl none (a0.map (eF eI))]), (1, .p (iV a1))] ?_
 unfold impl_cycleCount at h
 refine k_sreg (r_gq [(0, .d false [.sl none (a0.map (eF eI))]), (1, .p (iV a1))] [] trivial) ?_
 refine k_sreg (r_gq [(0, .d false [.sl none (a0.map (eF eI))]), (1, .p (iV a1)), (6, .p (iV 0))] [] trivial) ?_
 refine k_join (J := fun (x : Int) => [(1, .p (iV a1)), (6, .p (iV x))]) (K := fun x => impl_cycleCount_k1 a1 x = some r) (fun x1 h => ?_) ?_
 ·unfold impl_cycleCount_k1 at h
  replace h := bs h
  obtain ⟨u2, hu2, h⟩ := h
  refine k_sreg (r_gq [(4, .p (iV (w64 (Int.tdiv x1 a1)))), (5, .p (.bool true))] [] (A1 (guardO_some hu2))) ?_
  refine k_ret ?_
  obtain rfl := oi h
  exact er [(.p (iV (w64 (Int.tdiv x1 a1))), 4), (.p (.bool true), 5)]
 ·refine k_sreg (r_gq [(0, .d false [.sl none (a0.map (eF eI))]), (1, .p (iV a1)), (6, .p (iV 0)), (7, .p (iV 1))] [] trivial) ?_
  refine k_block ?_
  obtain ⟨y4, hl_x3, hk_x3⟩ := bs h
  clear h
  refine k_loop (J := fun (x : Qr) => [(0, .d false [.sl none (a0.map (eF eI))]), (1, .p (iV a1)), (6, .p (iV x.1)), (7, .p (iV x.2))]) hl_x3 (wk_of (by kernel_rfl) (by kernel_rfl)) (fun x3 o_x3 h hy_x3 => ?_)
  unfold impl_cycleCount_b1 at h
  refine k_seq ?_
  refine k_sreg (r_gq [(0, .d false [.sl none (a0.map (eF eI))]), (1, .p (iV a1)), (6, .p (iV x3.1)), (7, .p (iV x3.2)), (12, .p (.bool (decide (x3.2 ≤ a1))))] [] trivial) ?_
  refine kc (decide (x3.2 ≤ a1)) (fun hc5_4 => ?_) (fun hc5_4 => ?_)
  ·replace h := ite_t hc5_4 h
   refine k_skip ?_
   refine q_n ?_
   refine k_seq ?_
   refine k_block ?_
   replace h := bs h
   obtain ⟨u6, hu6, h⟩ := h
   refine k_sreg (r_gq [(0, .d false [.sl none (a0.map (eF eI))]), (1, .p (iV a1)), (6, .p (iV x3.1)), (7, .p (iV x3.2)), (18, .p (.bool ((Int.tmod a1 x3.2) == 0)))] [] (A1 (guardO_some hu6))) ?_
   refine kc ((Int.tmod a1 x3.2) == 0) (fun hc6_6 => ?_) (fun hc6_6 => ?_)
   ·replace h := ite_t hc6_6 h
    replace h := bs h
    obtain ⟨v8, hv8, h⟩ := h
    refine k_sreg (r_gq [(0, .d false [.sl none (a0.map (eF eI))]), (1, .p (iV a1)), (6, .p (iV x3.1)), (7, .p (iV x3.2)), (8, .p (iV v8.1)), (9, .p (.bool v8.2))] [(2, {call := some (none, [.p (iV v8.1), .p (.bool v8.2)], true)})] (A1 (wk_impl_closedWalks hv8))) ?_
    refine k_seq ?_
    refine k_sreg (r_gq [(0, .d false [.sl none (a0.map (eF eI))]), (1, .p (iV a1)), (6, .p (iV x3.1)), (7, .p (iV x3.2)), (8, .p (iV v8.1)), (26, .p (.bool (!v8.2)))] [] trivial) ?_
    refine kc (!v8.2) (fun hc7_8 => ?_) (fun hc7_8 => ?_)
    ·replace h := ite_t hc7_8 h
     refine k_sreg (r_gq [(4, .p (iV 0)), (5, .p (.bool false))] [] trivial) ?_
     refine k_ret ?_
     refine q_r ?_
     refine b_r ?_
     refine q_r ?_
     refine lq_r ?_
     refine b_r ?_
     refine q_r ?_
     have hyy := hy_x3 _ (oi h).symm
     subst hyy
     have h := hk_x3
     dsimp only [Sum.elim] at h
     obtain rfl := oi h
     exact er [(.p (iV 0), 4), (.p (.bool false), 5)]
    ·replace h := ite_f hc7_8 h
     refine k_skip ?_
     refine q_n ?_
     replace h := bs h
     obtain ⟨v10, hv10, h⟩ := h
     refine k_reg (r_gq [(0, .d false [.sl none (a0.map (eF eI))]), (1, .p (iV a1)), (6, .p (iV (w64 (x3.1 + (w64 (v10 * v8.1)))))), (7, .p (iV x3.2))] [(4, {call := some (none, [.p (iV v10)], true)})] (A2 (guardO_some hu6) (wk_impl_moebius hv10))) ?_
     refine b_n ?_
     refine q_n ?_
     refine k_reg (r_gq [(0, .d false [.sl none (a0.map (eF eI))]), (1, .p (iV a1)), (6, .p (iV (w64 (x3.1 + (w64 (v10 * v8.1)))))), (7, .p (iV (w64 (x3.2 + 1))))] [] trivial) ?_
     exact lqn ((w64 (x3.1 + (w64 (v10 * v8.1)))), (w64 (x3.2 + 1))) h
   ·replace h := ite_f hc6_6 h
    refine k_skip ?_
    refine b_n ?_
    refine q_n ?_
    refine k_reg (r_gq [(0, .d false [.sl none (a0.map (eF eI))]), (1, .p (iV a1)), (6, .p (iV x3.1)), (7, .p (iV (w64 (x3.2 + 1))))] [] trivial) ?_
    exact lqn (x3.1, (w64 (x3.2 + 1))) h
  ·replace h := ite_f hc5_4 h
   refine k_exit ?_
   refine q_x ?_
   refine lq_x ?_
   refine b_x ?_
   have hyy := hy_x3 _ (oi h).symm
   subst hyy
   have h := hk_x3
   dsimp only [Sum.elim] at h
   refine q_n ?_
   exact jx x3.1 h
theorem wk_impl_CycleCount {a0 : (List (List Int))} {a1 : Int}  {r : (Int × Bool)} (h : impl_CycleCount a0 a1 = some r) : Meets Try.prog 24 [.d false [.sl none (a0.map (eF eI))], wI a1] { vals := [.p (iV r.1), .p (.bool r.2)] } := by
 refine mo Try.func24 [(0, .d false [.sl none (a0.map (eF eI))]), (1, .p (iV a1))] ?_
 unfold impl_CycleCount at h
 refine k_sreg (r_gq [(0, .d false [.sl none (a0.map (eF eI))]), (1, .p (iV a1))] [] trivial) ?_
 refine k_seq ?_
 replace h := bs h
 obtain ⟨v1, hv1, h⟩ := h
 refine k_sreg (r_gq [(0, .d false [.sl none (a0.map (eF eI))]), (1, .p (iV a1)), (9, .p (.bool (!v1)))] [(2, {call := some (none, [.p (.bool v1)], true)})] (A1 (wk_impl_isLength hv1))) ?_
 refine kc (!v1) (fun hc2_1 => ?_) (fun hc2_1 => ?_)
 ·replace h := ite_t hc2_1 h
  refine k_sreg (r_gq [(4, .p (iV 0)), (5, .p (.bool false))] [] trivial) ?_
  refine k_ret ?_
  refine q_r ?_
  obtain rfl := oi h
  exact er [(.p (iV 0), 4), (.p (.bool false), 5)]
 ·replace h := ite_f hc2_1 h
  refine k_skip ?_
  refine q_n ?_
  replace h := bs h
  obtain ⟨v3, hv3, h⟩ := h
  refine k_sreg (r_gq [(4, .p (iV v3.1)), (5, .p (.bool v3.2))] [(2, {call := some (none, [.p (iV v3.1), .p (.bool v3.2)], true)})] (A1 (wk_impl_cycleCount hv3))) ?_
  refine k_ret ?_
  obtain rfl := oi h
  exact er [(.p (iV v3.1), 4), (.p (.bool v3.2), 5)]
theorem wk_spec_CycleCount {a0 : (List (List Int))} {a1 : Int}  {r : (Int × Bool)} (h : spec_CycleCount a0 a1 = some r) : Meets Try.prog 60 [.d false [.sl none (a0.map (eF eI))], wI a1] { vals := [.p (iV r.1), .p (.bool r.2)] } := by
 refine mo Try.func60 [(0, .d false [.sl none (a0.map (eF eI))]), (1, .p (iV a1))] ?_
 unfold spec_CycleCount at h
 refine k_sreg (r_gq [(0, .d false [.sl none (a0.map (eF eI))]), (1, .p (iV a1))] [] trivial) ?_
 refine k_seq ?_
 replace h := bs h
 obtain ⟨v1, hv1, h⟩ := h
 replace h := bs h
 obtain ⟨w4, hw4, h⟩ := h
 refine k_sreg (l1 := [(0, .d false [.sl none (a0.map (eF eI))]), (1, .p (iV a1)), (19, .p (.bool w4))]) ?_ ?_
 ·clear h
  rcases ft (!v1) with ha0 | ha0
  ·replace hw4 := ite_t ha0 hw4
   have hw4 := oi hw4
   subst hw4
   exact (r_gq [(0, .d false [.sl none (a0.map (eF eI))]), (1, .p (iV a1)), (19, .p (.bool true))] [(1, {call := some (none, [.p (.bool v1)], true)}), (4, gT), (5, gT), (6, gT), (7, bT), (9, gT), (10, gT), (11, gT), (12, gT), (13, bT)] (B6 (wk_spec_grGood hv1) ha0 ha0 ha0 ha0 (show true = true from rfl) (A4 (show true = true from rfl) (show true = true from rfl) (show true = true from rfl) (show true = true from rfl))))
  ·replace hw4 := ite_f ha0 hw4
   replace hw4 := bs hw4
   obtain ⟨v2, hv2, hw4⟩ := hw4
   rcases ft (!v2) with ha1 | ha1
   ·replace hw4 := ite_t ha1 hw4
    have hw4 := oi hw4
    subst hw4
    exact (r_gq [(0, .d false [.sl none (a0.map (eF eI))]), (1, .p (iV a1)), (19, .p (.bool true))] [(1, {call := some (none, [.p (.bool v1)], true)}), (4, gF), (5, {g := some false, call := some (none, [.p (.bool v2)], true)}), (6, gF), (7, bF), (9, gT), (10, gT), (11, gT), (12, gT), (13, bT)] (B6 (wk_spec_grGood hv1) ha0 ha0 (wk_spec_zeLength hv2) ha0 ha0 (A5 ha1 ha1 ha1 ha1 ha1)))
   ·replace hw4 := ite_f ha1 hw4
    replace hw4 := bs hw4
    obtain ⟨v3, hv3, hw4⟩ := hw4
    have hw4 := oi hw4
    subst hw4
    exact (r_gq [(0, .d false [.sl none (a0.map (eF eI))]), (1, .p (iV a1)), (19, .p (.bool (decide (v3 < 0))))] [(1, {call := some (none, [.p (.bool v1)], true)}), (4, gF), (5, {g := some false, call := some (none, [.p (.bool v2)], true)}), (6, gF), (7, bF), (9, gF), (10, gF), (11, {g := some false, call := some (none, [.p (iV v3)], true)}), (12, gF), (13, bF)] (B6 (wk_spec_grGood hv1) ha0 ha0 (wk_spec_zeLength hv2) ha0 ha0 (A6 ha1 ha1 ha1 (wk_spec_zeCycles hv3) ha1 ha1)))
 ·refine kc w4 (fun hc2_4 => ?_) (fun hc2_4 => ?_)
  ·replace h := ite_t hc2_4 h
   refine k_sreg (r_gq [(4, .p (iV 0)), (5, .p (.bool false))] [] trivial) ?_
   refine k_ret ?_
   refine q_r ?_
   obtain rfl := oi h
   exact er [(.p (iV 0), 4), (.p (.bool false), 5)]
  ·replace h := ite_f hc2_4 h
   refine k_skip ?_
   refine q_n ?_
   replace h := bs h
   obtain ⟨v6, hv6, h⟩ := h
   refine k_sreg (r_gq [(4, .p (iV v6)), (5, .p (.bool true))] [(2, {call := some (none, [.p (iV v6)], true)})] (A1 (wk_spec_zeCycles hv6))) ?_
   refine k_ret ?_
   obtain rfl := oi h
   exact er [(.p (iV v6), 4), (.p (.bool true), 5)]
end Go.PV

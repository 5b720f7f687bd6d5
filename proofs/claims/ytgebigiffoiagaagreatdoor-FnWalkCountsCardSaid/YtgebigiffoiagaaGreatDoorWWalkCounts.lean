/-
  Walks through the functions that the law reaches: each answers as its plain definition does.
  Conditions: none.
-/
import Derived.KernelRfl
import Derived.Shelf.LaysM
import Derived.Shelf.Strconv.Itoa3
import Derived.Test.YtgebigiffoiagaaGreatDoorWWalkCountsPartA
import Derived.Test.YtgebigiffoiagaaGreatDoorProg
open Go Go.PV Go.Proofs
set_option linter.all false
namespace Go.PV
attribute [local irreducible] pvC pvL pvD sOp seqQ blockQ Meets MeetsB Ok OkL RegOk agree endQ seqL blockL loopQ endL endLB
theorem wk_impl_GrowsFaster {a0 : (List (List Int))} {a1 : (List (List Int))}  {r : (Bool × Bool)} (h : impl_GrowsFaster a0 a1 = some r) : Meets Tryz.prog 10 [.d false [.sl none (a0.map (eF eI))], .d false [.sl none (a1.map (eF eI))]] { vals := [.p (.bool r.1), .p (.bool r.2)] } := by
 refine mo Tryz.func10 [(0, .d false [.sl none (a0.map (eF eI))]), (1, .d false [.sl none (a1.map (eF eI))])] ?_
 unfold impl_GrowsFaster at h
 refine k_sreg (r_gq [(0, .d false [.sl none (a0.map (eF eI))]), (1, .d false [.sl none (a1.map (eF eI))])] [] trivial) ?_
 replace h := bs h
 obtain ⟨v1, hv1, h⟩ := h
 refine k_sreg (r_gq [(1, .d false [.sl none (a1.map (eF eI))]), (6, .box (eRt v1.1)), (9, .p (.bool v1.2.2.2))] [(1, {call := some (none, [.p (vRt v1.1), .p (vRt v1.2.1), .p (iV v1.2.2.1), .p (.bool v1.2.2.2)], true)})] (A1 (wk_impl_BestGrowth hv1))) ?_
 replace h := bs h
 obtain ⟨v2, hv2, h⟩ := h
 refine k_sreg (r_gq [(6, .box (eRt v1.1)), (9, .p (.bool v1.2.2.2)), (11, .box (eRt v2.2.1)), (13, .p (.bool v2.2.2.2))] [(1, {call := some (none, [.p (vRt v2.1), .p (vRt v2.2.1), .p (iV v2.2.2.1), .p (.bool v2.2.2.2)], true)})] (A1 (wk_impl_BestGrowth hv2))) ?_
 refine k_seq ?_
 refine k_sreg (l1 := [(6, .box (eRt v1.1)), (11, .box (eRt v2.2.1)), (33, .p (.bool ((!v1.2.2.2) || (!v2.2.2.2))))]) ?_ ?_
 ·rcases ft (!v1.2.2.2) with ha0 | ha0
  ·exact RegOk.of_eq (l2 := [(6, .box (eRt v1.1)), (11, .box (eRt v2.2.1)), (33, .p (.bool ((!v1.2.2.2) || (!v2.2.2.2))))]) (r_gq [(6, .box (eRt v1.1)), (11, .box (eRt v2.2.1)), (33, .p (.bool true))] [(3, gT), (4, gT), (5, bT)] (A3 ha0 ha0 ha0)) (by simp [ha0])
  ·exact RegOk.of_eq (l2 := [(6, .box (eRt v1.1)), (11, .box (eRt v2.2.1)), (33, .p (.bool ((!v1.2.2.2) || (!v2.2.2.2))))]) (r_gq [(6, .box (eRt v1.1)), (11, .box (eRt v2.2.1)), (33, .p (.bool (!v2.2.2.2)))] [(3, gF), (4, gF), (5, bF)] (A3 ha0 ha0 ha0)) (by simp [ha0])
 ·refine kc ((!v1.2.2.2) || (!v2.2.2.2)) (fun hc2_2 => ?_) (fun hc2_2 => ?_)
  ·replace h := ite_t hc2_2 h
   refine k_sreg (r_gq [(4, .p (.bool false)), (5, .p (.bool false))] [] trivial) ?_
   refine k_ret ?_
   refine q_r ?_
   obtain rfl := oi h
   exact er [(.p (.bool false), 4), (.p (.bool false), 5)]
  ·replace h := ite_f hc2_2 h
   refine k_skip ?_
   refine q_n ?_
   replace h := bs h
   obtain ⟨v4, hv4, h⟩ := h
   refine k_sreg (r_gq [(4, .p (.bool v4)), (5, .p (.bool true))] [(2, {call := some (none, [.p (.bool v4)], true)})] (A1 (wk_impl_less hv4))) ?_
   refine k_ret ?_
   obtain rfl := oi h
   exact er [(.p (.bool v4), 4), (.p (.bool true), 5)]
theorem wk_spec_gwTimes {a0 : (List (List Int))} {a1 : (List Int)}  {r : (List Int)} (h : spec_gwTimes a0 a1 = some r) : Meets Tryz.prog 78 [.d false [.sl none (a0.map (eF eI))], .d false [.sl none (a1.map eI)]] { vals := [.ov false [.sl (some 3) (r.map eI)]] } := by
 refine mo Tryz.func78 [(0, .d false [.sl none (a0.map (eF eI))]), (1, .d false [.sl none (a1.map eI)])] ?_
 unfold spec_gwTimes at h
 refine k_sreg (r_gq [(0, .d false [.sl none (a0.map (eF eI))]), (1, .d false [.sl none (a1.map eI)])] [] trivial) ?_
 refine k_sreg (r_gq [(0, .d false [.sl none (a0.map (eF eI))]), (1, .d false [.sl none (a1.map eI)]), (5, .ov false [.sl (some 3) []])] [] trivial) ?_
 refine k_join (J := fun (x : (List Int)) => [(5, .ov false [.sl (some 3) (x.map eI)])]) (K := fun x => spec_gwTimes_k1 x = some r) (fun x1 h => ?_) ?_
 ·unfold spec_gwTimes_k1 at h
  refine k_sreg (r_gq [(4, .ov false [.sl (some 3) (x1.map eI)])] [] trivial) ?_
  refine k_ret ?_
  obtain rfl := oi h
  exact er [(.ov false [.sl (some 3) (x1.map eI)], 4)]
 ·refine k_sreg (r_gq [(1, .d false [.sl none (a1.map eI)]), (5, .ov false [.sl (some 3) []]), (11, .d false [.sl none (a0.map (eF eI))]), (12, .p (iV (a0.length : Int))), (13, .p (iV 0))] [(1, {n := some a0.length})] (A1 (show (a0.map (eF eI)).length = a0.length from (List.length_map ..)))) ?_
  refine k_block ?_
  obtain ⟨y3, hl_x2, hk_x2⟩ := bs h
  clear h
  refine k_loop (J := fun (x : ((List Int) × Int)) => [(1, .d false [.sl none (a1.map eI)]), (5, .ov false [.sl (some 3) (x.1.map eI)]), (11, .d false [.sl none (a0.map (eF eI))]), (12, .p (iV (a0.length : Int))), (13, .p (iV x.2))]) hl_x2 (wk_of (by kernel_rfl) (by kernel_rfl)) (fun x2 o_x2 h hy_x2 => ?_)
  unfold spec_gwTimes_b1 at h
  refine k_sreg (r_gq [(1, .d false [.sl none (a1.map eI)]), (5, .ov false [.sl (some 3) (x2.1.map eI)]), (11, .d false [.sl none (a0.map (eF eI))]), (12, .p (iV (a0.length : Int))), (13, .p (iV x2.2)), (14, .p (.bool (decide (x2.2 < (a0.length : Int)))))] [] trivial) ?_
  refine k_seq ?_
  refine kc (decide (x2.2 < (a0.length : Int))) (fun hc5_3 => ?_) (fun hc5_3 => ?_)
  ·replace h := ite_t hc5_3 h
   refine k_skip ?_
   refine q_n ?_
   refine k_join (J := fun (x : (List Int)) => [(1, .d false [.sl none (a1.map eI)]), (5, .ov false [.sl (some 3) (x.map eI)]), (11, .d false [.sl none (a0.map (eF eI))]), (12, .p (iV (a0.length : Int))), (13, .p (iV x2.2))]) (K := fun x => spec_gwTimes_k2 x2 x = some o_x2) (fun x5 h => ?_) ?_
   ·unfold spec_gwTimes_k2 at h
    refine k_reg (r_gq [(1, .d false [.sl none (a1.map eI)]), (5, .ov false [.sl (some 3) (x5.map eI)]), (11, .d false [.sl none (a0.map (eF eI))]), (12, .p (iV (a0.length : Int))), (13, .p (iV (w64 (x2.2 + 1))))] [] trivial) ?_
    exact lqn (x5, (w64 (x2.2 + 1))) h
   ·refine k_block ?_
    replace h := bs h
    obtain ⟨v6, hv6, h⟩ := h
    refine k_sreg (r_gq [(1, .d false [.sl none (a1.map eI)]), (5, .ov false [.sl (some 3) (x2.1.map eI)]), (7, .d false [.sl none (v6.map eI)]), (11, .d false [.sl none (a0.map (eF eI))]), (12, .p (iV (a0.length : Int))), (13, .p (iV x2.2))] [(0, {row := some [.sl none (v6.map eI)]})] (A2 (idxO_some hv6).1 (map_get (eF eI) (idxO_some hv6).2))) ?_
    refine k_sreg (r_gq [(1, .d false [.sl none (a1.map eI)]), (5, .ov false [.sl (some 3) (x2.1.map eI)]), (7, .d false [.sl none (v6.map eI)]), (8, .p (iV 0)), (11, .d false [.sl none (a0.map (eF eI))]), (12, .p (iV (a0.length : Int))), (13, .p (iV x2.2))] [] trivial) ?_
    refine k_join (J := fun (x : Int) => [(1, .d false [.sl none (a1.map eI)]), (5, .ov false [.sl (some 3) (x2.1.map eI)]), (8, .p (iV x)), (11, .d false [.sl none (a0.map (eF eI))]), (12, .p (iV (a0.length : Int))), (13, .p (iV x2.2))]) (K := fun x => spec_gwTimes_k3 x2 x = some o_x2) (fun x7 h => ?_) ?_
    ·unfold spec_gwTimes_k3 at h
     replace h := bs h
     obtain ⟨u8, hu8, h⟩ := h
     refine k_reg (r_gq [(1, .d false [.sl none (a1.map eI)]), (5, .ov false [.sl (some 3) ((x2.1 ++ [x7]).map eI)]), (11, .d false [.sl none (a0.map (eF eI))]), (12, .p (iV (a0.length : Int))), (13, .p (iV x2.2))] [(3, {fix := some (36, .ov false [.sl (some 3) ((x2.1 ++ [x7]).map eI)])})] (A3 (show List.length ((x2.1.map eI) : List (List C)) + List.length ((([x7]).map eI) : List (List C)) ≤ 1099511627776 from (by have hg := (guardO_some hu8); simpa using hg)) (show ∀ row ∈ ((([x7]).map eI) : List (List C)), row.length = 1 from (rows_len fun _ => rfl)) (show (SV.ov false [.sl (some 3) ((x2.1.map eI) ++ (([x7]).map eI))] : SV) = .ov false [.sl (some 3) ((x2.1 ++ [x7]).map eI)] from (congrArg (fun z => SV.ov false [.sl (some 3) z]) (List.map_append ..).symm)))) ?_
     refine b_n ?_
     refine q_n ?_
     exact jx (x2.1 ++ [x7]) h
    ·refine k_sreg (r_gq [(1, .d false [.sl none (a1.map eI)]), (5, .ov false [.sl (some 3) (x2.1.map eI)]), (8, .p (iV 0)), (11, .d false [.sl none (a0.map (eF eI))]), (12, .p (iV (a0.length : Int))), (13, .p (iV x2.2)), (17, .d false [.sl none (v6.map eI)]), (18, .p (iV (v6.length : Int))), (19, .p (iV 0))] [(1, {n := some v6.length})] (A1 (show (v6.map eI).length = v6.length from (List.length_map ..)))) ?_
     refine k_block ?_
     obtain ⟨y10, hl_x9, hk_x9⟩ := bs h
     clear h
     refine k_loop (J := fun (x : Qr) => [(1, .d false [.sl none (a1.map eI)]), (5, .ov false [.sl (some 3) (x2.1.map eI)]), (8, .p (iV x.1)), (11, .d false [.sl none (a0.map (eF eI))]), (12, .p (iV (a0.length : Int))), (13, .p (iV x2.2)), (17, .d false [.sl none (v6.map eI)]), (18, .p (iV (v6.length : Int))), (19, .p (iV x.2))]) hl_x9 (wk_of (by kernel_rfl) (by kernel_rfl)) (fun x9 o_x9 h hy_x9 => ?_)
     unfold spec_gwTimes_b2 at h
     refine k_sreg (r_gq [(1, .d false [.sl none (a1.map eI)]), (5, .ov false [.sl (some 3) (x2.1.map eI)]), (8, .p (iV x9.1)), (11, .d false [.sl none (a0.map (eF eI))]), (12, .p (iV (a0.length : Int))), (13, .p (iV x2.2)), (17, .d false [.sl none (v6.map eI)]), (18, .p (iV (v6.length : Int))), (19, .p (iV x9.2)), (20, .p (.bool (decide (x9.2 < (v6.length : Int)))))] [] trivial) ?_
     refine k_seq ?_
     refine kc (decide (x9.2 < (v6.length : Int))) (fun hc10_10 => ?_) (fun hc10_10 => ?_)
     ·replace h := ite_t hc10_10 h
      refine k_skip ?_
      refine q_n ?_
      refine k_seq ?_
      refine k_block ?_
      replace h := bs h
      obtain ⟨v12, hv12, h⟩ := h
      refine k_sreg (r_gq [(1, .d false [.sl none (a1.map eI)]), (5, .ov false [.sl (some 3) (x2.1.map eI)]), (8, .p (iV x9.1)), (9, .p (iV x9.2)), (10, .p (iV v12)), (11, .d false [.sl none (a0.map (eF eI))]), (12, .p (iV (a0.length : Int))), (13, .p (iV x2.2)), (17, .d false [.sl none (v6.map eI)]), (18, .p (iV (v6.length : Int))), (19, .p (iV x9.2))] [(1, {row := some (eI v12)})] (A2 (idxO_some hv12).1 (map_get eI (idxO_some hv12).2))) ?_
      replace h := bs h
      obtain ⟨v13, hv13, h⟩ := h
      refine k_reg (r_gq [(1, .d false [.sl none (a1.map eI)]), (5, .ov false [.sl (some 3) (x2.1.map eI)]), (8, .p (iV (w64 (x9.1 + (w64 (v12 * v13)))))), (11, .d false [.sl none (a0.map (eF eI))]), (12, .p (iV (a0.length : Int))), (13, .p (iV x2.2)), (17, .d false [.sl none (v6.map eI)]), (18, .p (iV (v6.length : Int))), (19, .p (iV x9.2))] [(4, {row := some (eI v13)})] (A2 (idxO_some hv13).1 (map_get eI (idxO_some hv13).2))) ?_
      refine b_n ?_
      refine q_n ?_
      refine k_reg (r_gq [(1, .d false [.sl none (a1.map eI)]), (5, .ov false [.sl (some 3) (x2.1.map eI)]), (8, .p (iV (w64 (x9.1 + (w64 (v12 * v13)))))), (11, .d false [.sl none (a0.map (eF eI))]), (12, .p (iV (a0.length : Int))), (13, .p (iV x2.2)), (17, .d false [.sl none (v6.map eI)]), (18, .p (iV (v6.length : Int))), (19, .p (iV (w64 (x9.2 + 1))))] [] trivial) ?_
      exact lqn ((w64 (x9.1 + (w64 (v12 * v13)))), (w64 (x9.2 + 1))) h
     ·replace h := ite_f hc10_10 h
      refine k_exit ?_
      refine q_x ?_
      refine lq_x ?_
      refine b_x ?_
      have hyy := hy_x9 _ (oi h).symm
      subst hyy
      have h := hk_x9
      refine q_n ?_
      exact jx x9.1 h
  ·replace h := ite_f hc5_3 h
   refine k_exit ?_
   refine q_x ?_
   refine lq_x ?_
   refine b_x ?_
   have hyy := hy_x2 _ (oi h).symm
   subst hyy
   have h := hk_x2
   refine q_n ?_
   exact jx x2.1 h
theorem wk_spec_gwVector {a0 : (List Int)}  {r : Bool} (h : spec_gwVector a0 = some r) : Meets Tryz.prog 79 [.d false [.sl none (a0.map eI)]] { vals := [.p (.bool r)] } := by
 refine mo Tryz.func79 [(0, .d false [.sl none (a0.map eI)])] ?_
 unfold spec_gwVector at h
 refine k_sreg (r_gq [(0, .d false [.sl none (a0.map eI)])] [] trivial) ?_
 replace h := bs h
 obtain ⟨v1, hv1, h⟩ := h
 replace h := bs h
 obtain ⟨w3, hw3, h⟩ := h
 refine k_sreg (l1 := [(2, .p (.bool w3))]) ?_ ?_
 ·clear h
  rcases ft v1 with ha0 | ha0
  ·replace hw3 := ite_t ha0 hw3
   replace hw3 := bs hw3
   obtain ⟨v2, hv2, hw3⟩ := hw3
   have hw3 := oi hw3
   subst hw3
   exact (r_gq [(2, .p (.bool v2))] [(1, {n := some a0.length}), (2, {call := some (none, [.p (.bool v1)], true)}), (4, gT), (5, {g := some true, call := some (none, [.p (.bool v2)], true)}), (6, bT)] (A6 (show (a0.map eI).length = a0.length from (List.length_map ..)) (wk_spec_l1In hv1) ha0 ha0 (wk_spec_l1All hv2) ha0))
  ·replace hw3 := ite_f ha0 hw3
   have hw3 := oi hw3
   subst hw3
   exact (r_gq [(2, .p (.bool false))] [(1, {n := some a0.length}), (2, {call := some (none, [.p (.bool v1)], true)}), (4, gF), (5, gF), (6, bF)] (A5 (show (a0.map eI).length = a0.length from (List.length_map ..)) (wk_spec_l1In hv1) ha0 ha0 ha0))
 ·refine k_ret ?_
  obtain rfl := oi h
  exact er [(.p (.bool w3), 2)]
theorem wk_spec_gwWalks {a0 : (List (List Int))} {a1 : Int}  {r : ((List Int) × Bool)} (h : spec_gwWalks a0 a1 = some r) : Meets Tryz.prog 54 [.d false [.sl none (a0.map (eF eI))], wI a1] { vals := [.ov false [.sl (some 3) (r.1.map eI)], .p (.bool r.2)] } := by
 refine mo Tryz.func54 [(0, .d false [.sl none (a0.map (eF eI))]), (1, .p (iV a1))] ?_
 unfold spec_gwWalks at h
 refine k_sreg (r_gq [(0, .d false [.sl none (a0.map (eF eI))]), (1, .p (iV a1))] [] trivial) ?_
 replace h := bs h
 obtain ⟨u1, hu1, h⟩ := h
 refine k_sreg (r_gq [(0, .d false [.sl none (a0.map (eF eI))]), (1, .p (iV a1)), (6, .ov false [.sl (some 3) ((List.replicate (Int.toNat (a0.length : Int)) (0 : Int)).map eI)])] [(1, {n := some a0.length}), (2, {fix := some (12, .ov false [.sl (some 3) ((List.replicate (Int.toNat (a0.length : Int)) (0 : Int)).map eI)])})] (A5 (show (a0.map (eF eI)).length = a0.length from (List.length_map ..)) (show (a0.length : Int) = (a0.length : Int) from rfl) (guardO_some hu1).1 (guardO_some hu1).2 (show (SV.ov false [.sl (some 3) (List.replicate (Int.toNat (a0.length : Int)) [rI 0])] : SV) = .ov false [.sl (some 3) ((List.replicate (Int.toNat (a0.length : Int)) (0 : Int)).map eI)] from (congrArg (fun z => SV.ov false [.sl (some 3) z]) (rep_fix eI (0 : Int)))))) ?_
 refine k_join (J := fun (x : (List Int)) => [(0, .d false [.sl none (a0.map (eF eI))]), (1, .p (iV a1)), (6, .ov false [.sl (some 3) (x.map eI)])]) (K := fun x => spec_gwWalks_k1 a0 a1 x = some r) (fun x2 h => ?_) ?_
 ·unfold spec_gwWalks_k1 at h
  refine k_join (J := fun (x : (List Int)) => [(6, .ov false [.sl (some 3) (x.map eI)])]) (K := fun x => spec_gwWalks_k2 x = some r) (fun x3 h => ?_) ?_
  ·unfold spec_gwWalks_k2 at h
   refine k_sreg (r_gq [(4, .ov false [.sl (some 3) (x3.map eI)]), (5, .p (.bool true))] [] trivial) ?_
   refine k_ret ?_
   obtain rfl := oi h
   exact er [(.ov false [.sl (some 3) (x3.map eI)], 4), (.p (.bool true), 5)]
  ·refine k_block ?_
   obtain ⟨y5, hl_x4, hk_x4⟩ := bs h
   clear h
   refine k_loop (J := fun (x : (Int × (List Int))) => [(0, .d false [.sl none (a0.map (eF eI))]), (1, .p (iV x.1)), (6, .ov false [.sl (some 3) (x.2.map eI)])]) hl_x4 (wk_of (by kernel_rfl) (by kernel_rfl)) (fun x4 o_x4 h hy_x4 => ?_)
   unfold spec_gwWalks_b1 at h
   refine k_seq ?_
   refine k_sreg (r_gq [(0, .d false [.sl none (a0.map (eF eI))]), (1, .p (iV x4.1)), (6, .ov false [.sl (some 3) (x4.2.map eI)]), (23, .p (.bool (decide (x4.1 > 0))))] [] trivial) ?_
   refine kc (decide (x4.1 > 0)) (fun hc5_5 => ?_) (fun hc5_5 => ?_)
   ·replace h := ite_t hc5_5 h
    refine k_skip ?_
    refine q_n ?_
    refine k_join (J := fun (x : (List Int)) => [(0, .d false [.sl none (a0.map (eF eI))]), (1, .p (iV x4.1)), (6, .ov false [.sl (some 3) (x.map eI)])]) (K := fun x => spec_gwWalks_k3 x4 x = some o_x4) (fun x7 h => ?_) ?_
    ·unfold spec_gwWalks_k3 at h
     refine k_reg (r_gq [(0, .d false [.sl none (a0.map (eF eI))]), (1, .p (iV (w64 (x4.1 - 1)))), (6, .ov false [.sl (some 3) (x7.map eI)])] [] trivial) ?_
     exact lqn ((w64 (x4.1 - 1)), x7) h
    ·refine k_block ?_
     refine k_join (J := fun (x : (List Int)) => [(0, .d false [.sl none (a0.map (eF eI))]), (1, .p (iV x4.1)), (6, .ov false [.sl (some 3) (x.map eI)])]) (K := fun x => spec_gwWalks_k4 x4 x = some o_x4) (fun x8 h => ?_) ?_
     ·unfold spec_gwWalks_k4 at h
      replace h := bs h
      obtain ⟨v9, hv9, h⟩ := h
      refine k_sreg (r_gq [(0, .d false [.sl none (a0.map (eF eI))]), (1, .p (iV x4.1)), (6, .ov false [.sl (some 3) (x8.map eI)]), (45, .p (.bool (!v9)))] [(1, {call := some (some [.d false [.sl none (x8.map eI)]], [.p (.bool v9)], true)})] (A2 (show ([.d false [.sl none (eraL (x8.map eI))]] : List Arg) = [.d false [.sl none (x8.map eI)]] from (by simp only [eraL_enc (h := eI) er_I])) (wk_spec_gwVector hv9))) ?_
      refine kc (!v9) (fun hc6_9 => ?_) (fun hc6_9 => ?_)
      ·replace h := ite_t hc6_9 h
       refine k_sreg (r_gq [(4, .ov false [.sl (some 3) []]), (5, .p (.bool false))] [] trivial) ?_
       refine k_ret ?_
       refine b_r ?_
       refine q_r ?_
       refine lq_r ?_
       refine b_r ?_
       refine q_r ?_
       have hyy := hy_x4 _ (oi h).symm
       subst hyy
       have h := hk_x4
       dsimp only [Sum.elim] at h
       obtain rfl := oi h
       exact er [(.ov false [.sl (some 3) []], 4), (.p (.bool false), 5)]
      ·replace h := ite_f hc6_9 h
       refine k_skip ?_
       refine b_n ?_
       refine q_n ?_
       exact jx x8 h
     ·replace h := bs h
      obtain ⟨v11, hv11, h⟩ := h
      refine k_sreg (r_gq [(0, .d false [.sl none (a0.map (eF eI))]), (1, .p (iV x4.1)), (6, .ov false [.sl (some 3) (x4.2.map eI)]), (28, .ov false [.sl (some 3) (v11.map eI)]), (29, .p (iV (v11.length : Int))), (30, .p (iV 0))] [(2, {call := some (some [.d false [.sl none (a0.map (eF eI))], .d false [.sl none (x4.2.map eI)]], [.ov false [.sl (some 3) (v11.map eI)]], true)}), (3, {n := some v11.length})] (A4 (show ([.d false [.sl none (a0.map (eF eI))], .d false [.sl none (eraL (x4.2.map eI))]] : List Arg) = [.d false [.sl none (a0.map (eF eI))], .d false [.sl none (x4.2.map eI)]] from (by simp only [eraL_enc (h := eI) er_I])) (wk_spec_gwTimes hv11) (show List.all [.ov false [.sl (some 3) (v11.map eI)]] simpleR = true from (sa_o (wnR1 (wnL_enc wn_I) rfl) rfl)) (show (v11.map eI).length = v11.length from (List.length_map ..)))) ?_
      refine k_block ?_
      obtain ⟨y13, hl_x12, hk_x12⟩ := bs h
      clear h
      refine k_loop (J := fun (x : ((List Int) × Int)) => [(0, .d false [.sl none (a0.map (eF eI))]), (1, .p (iV x4.1)), (6, .ov false [.sl (some 3) (x.1.map eI)]), (28, .ov false [.sl (some 3) (v11.map eI)]), (29, .p (iV (v11.length : Int))), (30, .p (iV x.2))]) hl_x12 (wk_of (by kernel_rfl) (by kernel_rfl)) (fun x12 o_x12 h hy_x12 => ?_)
      unfold spec_gwWalks_b2 at h
      refine k_sreg (r_gq [(0, .d false [.sl none (a0.map (eF eI))]), (1, .p (iV x4.1)), (6, .ov false [.sl (some 3) (x12.1.map eI)]), (28, .ov false [.sl (some 3) (v11.map eI)]), (29, .p (iV (v11.length : Int))), (30, .p (iV x12.2)), (31, .p (.bool (decide (x12.2 < (v11.length : Int)))))] [] trivial) ?_
      refine k_seq ?_
      refine kc (decide (x12.2 < (v11.length : Int))) (fun hc10_13 => ?_) (fun hc10_13 => ?_)
      ·replace h := ite_t hc10_13 h
       refine k_skip ?_
       refine q_n ?_
       refine k_seq ?_
       refine k_block ?_
       replace h := bs h
       obtain ⟨v15, hv15, h⟩ := h
       refine k_sreg (r_gq [(0, .d false [.sl none (a0.map (eF eI))]), (1, .p (iV x4.1)), (6, .ov false [.sl (some 3) (x12.1.map eI)]), (8, .p (iV x12.2)), (9, .p (iV v15)), (28, .ov false [.sl (some 3) (v11.map eI)]), (29, .p (iV (v11.length : Int))), (30, .p (iV x12.2))] [(1, {row := some (eI v15)}), (2, {row := some (eI v15)})] (A3 (idxO_some hv15).1 (map_get eI (idxO_some hv15).2) (show getRow [[.sl (some 3) (v11.map eI)]] [(0, 0), ((Int.toNat x12.2), 0)] = some (eI v15) from ((gr0 rfl).trans (gre (map_get eI (idxO_some hv15).2)))))) ?_
       replace h := bs h
       obtain ⟨v16, hv16, h⟩ := h
       refine k_reg (r_gq [(0, .d false [.sl none (a0.map (eF eI))]), (1, .p (iV x4.1)), (6, .ov false [.sl (some 3) ((x12.1.set (Int.toNat x12.2) (w64 (v16 + v15))).map eI)]), (28, .ov false [.sl (some 3) (v11.map eI)]), (29, .p (iV (v11.length : Int))), (30, .p (iV x12.2))] [(2, {row := some (eI v16)}), (3, {row := some (eI v16)}), (6, {row := some (eI v16)}), (7, {row := some (eI v16), fix := some (6, .ov false [.sl (some 3) ((x12.1.set (Int.toNat x12.2) (w64 (v16 + v15))).map eI)])})] (B6 (idxO_some hv16).1 (map_get eI (idxO_some hv16).2) (show getRow [[.sl (some 3) (x12.1.map eI)]] [(0, 0), ((Int.toNat x12.2), 0)] = some (eI v16) from ((gr0 rfl).trans (gre (map_get eI (idxO_some hv16).2)))) (idxO_some hv16).1 (map_get eI (idxO_some hv16).2) (show getRow [[.sl (some 3) (x12.1.map eI)]] [(0, 0), ((Int.toNat x12.2), 0)] = some (eI v16) from ((gr0 rfl).trans (gre (map_get eI (idxO_some hv16).2)))) (A1 (show (SV.ov false [.sl (some 3) (setL (x12.1.map eI) [((Int.toNat x12.2), 0)] [rI (w64 (v16 + v15))])] : SV) = .ov false [.sl (some 3) ((x12.1.set (Int.toNat x12.2) (w64 (v16 + v15))).map eI)] from (congrArg (fun z => SV.ov false [.sl (some 3) z]) (set1 (f := eI) (y := (w64 (v16 + v15))) (idxO_some hv16).2 rfl)))))) ?_
       refine b_n ?_
       refine q_n ?_
       refine k_reg (r_gq [(0, .d false [.sl none (a0.map (eF eI))]), (1, .p (iV x4.1)), (6, .ov false [.sl (some 3) ((x12.1.set (Int.toNat x12.2) (w64 (v16 + v15))).map eI)]), (28, .ov false [.sl (some 3) (v11.map eI)]), (29, .p (iV (v11.length : Int))), (30, .p (iV (w64 (x12.2 + 1))))] [] trivial) ?_
       exact lqn ((x12.1.set (Int.toNat x12.2) (w64 (v16 + v15))), (w64 (x12.2 + 1))) h
      ·replace h := ite_f hc10_13 h
       refine k_exit ?_
       refine q_x ?_
       refine lq_x ?_
       refine b_x ?_
       have hyy := hy_x12 _ (oi h).symm
       subst hyy
       have h := hk_x12
       refine q_n ?_
       exact jx x12.1 h
   ·replace h := ite_f hc5_5 h
    refine k_exit ?_
    refine q_x ?_
    refine lq_x ?_
    refine b_x ?_
    have hyy := hy_x4 _ (oi h).symm
    subst hyy
    have h := hk_x4
    dsimp only [Sum.elim] at h
    refine q_n ?_
    exact jx x4.2 h
 ·refine k_sreg (r_gq [(0, .d false [.sl none (a0.map (eF eI))]), (1, .p (iV a1)), (6, .ov false [.sl (some 3) ((List.replicate (Int.toNat (a0.length : Int)) (0 : Int)).map eI)]), (14, .p (iV ((List.replicate (Int.toNat (a0.length : Int)) (0 : Int)).length : Int))), (15, .p (iV 0))] [(1, {n := some (List.replicate (Int.toNat (a0.length : Int)) (0 : Int)).length})] (A1 (show ((List.replicate (Int.toNat (a0.length : Int)) (0 : Int)).map eI).length = (List.replicate (Int.toNat (a0.length : Int)) (0 : Int)).length from (List.length_map ..)))) ?_
  refine k_block ?_
  obtain ⟨y18, hl_x17, hk_x17⟩ := bs h
  clear h
  refine k_loop (J := fun (x : ((List Int) × Int)) => [(0, .d false [.sl none (a0.map (eF eI))]), (1, .p (iV a1)), (6, .ov false [.sl (some 3) (x.1.map eI)]), (14, .p (iV ((List.replicate (Int.toNat (a0.length : Int)) (0 : Int)).length : Int))), (15, .p (iV x.2))]) hl_x17 (wk_of (by kernel_rfl) (by kernel_rfl)) (fun x17 o_x17 h hy_x17 => ?_)
  unfold spec_gwWalks_b3 at h
  refine k_sreg (r_gq [(0, .d false [.sl none (a0.map (eF eI))]), (1, .p (iV a1)), (6, .ov false [.sl (some 3) (x17.1.map eI)]), (14, .p (iV ((List.replicate (Int.toNat (a0.length : Int)) (0 : Int)).length : Int))), (15, .p (iV x17.2)), (16, .p (.bool (decide (x17.2 < ((List.replicate (Int.toNat (a0.length : Int)) (0 : Int)).length : Int)))))] [] trivial) ?_
  refine k_seq ?_
  refine kc (decide (x17.2 < ((List.replicate (Int.toNat (a0.length : Int)) (0 : Int)).length : Int))) (fun hc5_18 => ?_) (fun hc5_18 => ?_)
  ·replace h := ite_t hc5_18 h
   refine k_skip ?_
   refine q_n ?_
   refine k_seq ?_
   refine k_block ?_
   refine k_sreg (r_gq [(0, .d false [.sl none (a0.map (eF eI))]), (1, .p (iV a1)), (6, .ov false [.sl (some 3) (x17.1.map eI)]), (7, .p (iV x17.2)), (14, .p (iV ((List.replicate (Int.toNat (a0.length : Int)) (0 : Int)).length : Int))), (15, .p (iV x17.2))] [] trivial) ?_
   replace h := bs h
   obtain ⟨v20, hv20, h⟩ := h
   refine k_reg (r_gq [(0, .d false [.sl none (a0.map (eF eI))]), (1, .p (iV a1)), (6, .ov false [.sl (some 3) ((x17.1.set (Int.toNat x17.2) 1).map eI)]), (14, .p (iV ((List.replicate (Int.toNat (a0.length : Int)) (0 : Int)).length : Int))), (15, .p (iV x17.2))] [(2, {row := some (eI v20)}), (3, {row := some (eI v20), fix := some (6, .ov false [.sl (some 3) ((x17.1.set (Int.toNat x17.2) 1).map eI)])})] (A4 (idxO_some hv20).1 (map_get eI (idxO_some hv20).2) (show getRow [[.sl (some 3) (x17.1.map eI)]] [(0, 0), ((Int.toNat x17.2), 0)] = some (eI v20) from ((gr0 rfl).trans (gre (map_get eI (idxO_some hv20).2)))) (show (SV.ov false [.sl (some 3) (setL (x17.1.map eI) [((Int.toNat x17.2), 0)] [rI 1])] : SV) = .ov false [.sl (some 3) ((x17.1.set (Int.toNat x17.2) 1).map eI)] from (congrArg (fun z => SV.ov false [.sl (some 3) z]) (set1 (f := eI) (y := 1) (idxO_some hv20).2 rfl))))) ?_
   refine b_n ?_
   refine q_n ?_
   refine k_reg (r_gq [(0, .d false [.sl none (a0.map (eF eI))]), (1, .p (iV a1)), (6, .ov false [.sl (some 3) ((x17.1.set (Int.toNat x17.2) 1).map eI)]), (14, .p (iV ((List.replicate (Int.toNat (a0.length : Int)) (0 : Int)).length : Int))), (15, .p (iV (w64 (x17.2 + 1))))] [] trivial) ?_
   exact lqn ((x17.1.set (Int.toNat x17.2) 1), (w64 (x17.2 + 1))) h
  ·replace h := ite_f hc5_18 h
   refine k_exit ?_
   refine q_x ?_
   refine lq_x ?_
   refine b_x ?_
   have hyy := hy_x17 _ (oi h).symm
   subst hyy
   have h := hk_x17
   refine q_n ?_
   exact jx x17.1 h
theorem wk_spec_l1Most {a0 : Int} {a1 : Int}  {r : Int} (h : spec_l1Most a0 a1 = some r) : Meets Tryz.prog 85 [wI a0, wI a1] { vals := [.p (iV r)] } := by
 refine mo Tryz.func85 [(0, .p (iV a0)), (1, .p (iV a1))] ?_
 unfold spec_l1Most at h
 refine k_sreg (r_gq [(0, .p (iV a0)), (1, .p (iV a1))] [] trivial) ?_
 refine k_seq ?_
 refine k_sreg (r_gq [(0, .p (iV a0)), (1, .p (iV a1)), (7, .p (.bool (decide (a0 > a1))))] [] trivial) ?_
 refine kc (decide (a0 > a1)) (fun hc2_0 => ?_) (fun hc2_0 => ?_)
 ·replace h := ite_t hc2_0 h
  refine k_sreg (r_gq [(4, .p (iV a0))] [] trivial) ?_
  refine k_ret ?_
  refine q_r ?_
  obtain rfl := oi h
  exact er [(.p (iV a0), 4)]
 ·replace h := ite_f hc2_0 h
  refine k_skip ?_
  refine q_n ?_
  refine k_sreg (r_gq [(4, .p (iV a1))] [] trivial) ?_
  refine k_ret ?_
  obtain rfl := oi h
  exact er [(.p (iV a1), 4)]
theorem wk_spec_l1Abs {a0 : Int}  {r : Int} (h : spec_l1Abs a0 = some r) : Meets Tryz.prog 62 [wI a0] { vals := [.p (iV r)] } := by
 refine mo Tryz.func62 [(0, .p (iV a0))] ?_
 unfold spec_l1Abs at h
 refine k_sreg (r_gq [(0, .p (iV a0))] [] trivial) ?_
 replace h := bs h
 obtain ⟨v1, hv1, h⟩ := h
 refine k_sreg (r_gq [(2, .p (iV v1))] [(3, {call := some (none, [.p (iV v1)], true)})] (A1 (wk_spec_l1Most hv1))) ?_
 refine k_ret ?_
 obtain rfl := oi h
 exact er [(.p (iV v1), 2)]
theorem wk_spec_raCommon {a0 : Int} {a1 : Int}  {r : Int} (h : spec_raCommon a0 a1 = some r) : Meets Tryz.prog 61 [wI a0, wI a1] { vals := [.p (iV r)] } := by
 refine mo Tryz.func61 [(0, .p (iV a0)), (1, .p (iV a1))] ?_
 unfold spec_raCommon at h
 refine k_sreg (r_gq [(0, .p (iV a0)), (1, .p (iV a1))] [] trivial) ?_
 refine k_join (J := fun (x : Int) => [(0, .p (iV x))]) (K := fun x => spec_raCommon_k1 x = some r) (fun x1 h => ?_) ?_
 ·unfold spec_raCommon_k1 at h
  refine k_sreg (r_gq [(4, .p (iV x1))] [] trivial) ?_
  refine k_ret ?_
  obtain rfl := oi h
  exact er [(.p (iV x1), 4)]
 ·refine k_block ?_
  obtain ⟨y3, hl_x2, hk_x2⟩ := bs h
  clear h
  refine k_loop (J := fun (x : Qr) => [(0, .p (iV x.1)), (1, .p (iV x.2))]) hl_x2 (wk_of (by kernel_rfl) (by kernel_rfl)) (fun x2 o_x2 h hy_x2 => ?_)
  unfold spec_raCommon_b1 at h
  refine k_seq ?_
  refine k_sreg (r_gq [(0, .p (iV x2.1)), (1, .p (iV x2.2)), (7, .p (.bool (decide (x2.2 > 0))))] [] trivial) ?_
  refine kc (decide (x2.2 > 0)) (fun hc5_3 => ?_) (fun hc5_3 => ?_)
  ·replace h := ite_t hc5_3 h
   refine k_skip ?_
   refine q_n ?_
   refine k_block ?_
   replace h := bs h
   obtain ⟨u5, hu5, h⟩ := h
   refine k_sreg (r_gq [(1, .p (iV x2.2)), (5, .p (iV (Int.tmod x2.1 x2.2)))] [] (A1 (guardO_some hu5))) ?_
   refine k_sreg (r_gq [(0, .p (iV x2.2)), (5, .p (iV (Int.tmod x2.1 x2.2)))] [] trivial) ?_
   refine k_reg (r_gq [(0, .p (iV x2.2)), (1, .p (iV (Int.tmod x2.1 x2.2)))] [] trivial) ?_
   refine b_n ?_
   exact lqn (x2.2, (Int.tmod x2.1 x2.2)) h
  ·replace h := ite_f hc5_3 h
   refine k_exit ?_
   refine q_x ?_
   refine lq_x ?_
   refine b_x ?_
   have hyy := hy_x2 _ (oi h).symm
   subst hyy
   have h := hk_x2
   refine q_n ?_
   exact jx x2.1 h
theorem wk_spec_raGood {a0 : Qr}  {r : Bool} (h : spec_raGood a0 = some r) : Meets Tryz.prog 34 [.v (vRt a0)] { vals := [.p (.bool r)] } := by
 refine mo Tryz.func34 [(0, .p (vRt a0))] ?_
 unfold spec_raGood at h
 refine k_sreg (r_gq [(1, .box (eRt a0))] [] trivial) ?_
 replace h := bs h
 obtain ⟨v1, hv1, h⟩ := h
 replace h := bs h
 obtain ⟨w5, hw5, h⟩ := h
 refine k_sreg (l1 := [(2, .p (.bool w5))]) ?_ ?_
 ·clear h
  rcases ft v1 with ha0 | ha0
  ·replace hw5 := ite_t ha0 hw5
   replace hw5 := bs hw5
   obtain ⟨v2, hv2, hw5⟩ := hw5
   rcases ft v2 with ha1 | ha1
   ·replace hw5 := ite_t ha1 hw5
    replace hw5 := bs hw5
    obtain ⟨v3, hv3, hw5⟩ := hw5
    replace hw5 := bs hw5
    obtain ⟨v4, hv4, hw5⟩ := hw5
    have hw5 := oi hw5
    subst hw5
    exact (r_dq Tryz_mixed 14 [] [(2, .p (.bool (v4 == 1)))] [(2, {call := some (none, [.p (.bool v1)], true)}), (4, gT), (5, gT), (6, {g := some true, call := some (none, [.p (.bool v2)], true)}), (7, bT), (9, gT), (10, gT), (11, {g := some true, call := some (none, [.p (iV v3)], true)}), (12, gT), (13, gT), (14, {g := some true, call := some (none, [.p (iV v4)], true)}), (15, gT), (16, bT)] (B6 (wk_spec_l1In hv1) ha0 ha0 ha0 (wk_spec_l1In hv2) ha0 (B6 ha1 ha1 ha1 (wk_spec_l1Abs hv3) ha1 ha1 (A4 ha1 (wk_spec_raCommon hv4) ha1 ha1))))
   ·replace hw5 := ite_f ha1 hw5
    have hw5 := oi hw5
    subst hw5
    exact (r_dq Tryz_mixed 14 [] [(2, .p (.bool false))] [(2, {call := some (none, [.p (.bool v1)], true)}), (4, gT), (5, gT), (6, {g := some true, call := some (none, [.p (.bool v2)], true)}), (7, bT), (9, gF), (10, gF), (11, gF), (12, gF), (13, gF), (14, gF), (15, gF), (16, bF)] (B6 (wk_spec_l1In hv1) ha0 ha0 ha0 (wk_spec_l1In hv2) ha0 (B6 ha1 ha1 ha1 ha1 ha1 ha1 (A2 ha1 ha1))))
  ·replace hw5 := ite_f ha0 hw5
   have hw5 := oi hw5
   subst hw5
   exact (r_dq Tryz_mixed 14 [] [(2, .p (.bool false))] [(2, {call := some (none, [.p (.bool v1)], true)}), (4, gF), (5, gF), (6, gF), (7, bF), (9, gF), (10, gF), (11, gF), (12, gF), (13, gF), (14, gF), (15, gF), (16, bF)] (B6 (wk_spec_l1In hv1) ha0 ha0 ha0 ha0 (show false = false from rfl) (B6 (show false = false from rfl) (show false = false from rfl) (show false = false from rfl) (show false = false from rfl) (show false = false from rfl) (show false = false from rfl) (A1 (show false = false from rfl)))))
 ·refine k_ret ?_
  obtain rfl := oi h
  exact er [(.p (.bool w5), 2)]
theorem wk_spec_raMake {a0 : Int} {a1 : Int}  {r : (Qr × Bool)} (h : spec_raMake a0 a1 = some r) : Meets Tryz.prog 57 [wI a0, wI a1] { vals := [.p (vRt r.1), .p (.bool r.2)] } := by
 refine mo Tryz.func57 [(0, .p (iV a0)), (1, .p (iV a1))] ?_
 unfold spec_raMake at h
 refine k_sreg (r_gq [(0, .p (iV a0)), (1, .p (iV a1)), (4, .box [rI 0, rI 0])] [] trivial) ?_
 refine k_seq ?_
 refine k_sreg (r_gq [(0, .p (iV a0)), (1, .p (iV a1)), (4, .box [rI 0, rI 0]), (9, .p (.bool (a1 == 0)))] [] trivial) ?_
 refine kc (a1 == 0) (fun hc2_0 => ?_) (fun hc2_0 => ?_)
 ·replace h := ite_t hc2_0 h
  refine k_sreg (r_gq [(4, .box [rI 0, rI 0]), (5, .p (.bool false))] [] trivial) ?_
  refine k_ret ?_
  refine q_r ?_
  obtain rfl := oi h
  exact er [(.p (.agg #[.int .i64 0, .int .i64 0]), 4), (.p (.bool false), 5)]
 ·replace h := ite_f hc2_0 h
  refine k_skip ?_
  refine q_n ?_
  replace h := bs h
  obtain ⟨v2, hv2, h⟩ := h
  replace h := bs h
  obtain ⟨v3, hv3, h⟩ := h
  replace h := bs h
  obtain ⟨v4, hv4, h⟩ := h
  refine k_sreg (r_gq [(0, .p (iV a0)), (1, .p (iV a1)), (4, .box [rI 0, rI 0]), (6, .p (iV v4))] [(1, {call := some (none, [.p (iV v2)], true)}), (3, {call := some (none, [.p (iV v3)], true)}), (4, {call := some (none, [.p (iV v4)], true)})] (A3 (wk_spec_l1Abs hv2) (wk_spec_l1Abs hv3) (wk_spec_raCommon hv4))) ?_
  refine k_join (J := fun (x : Int) => [(0, .p (iV a0)), (1, .p (iV a1)), (4, .box [rI 0, rI 0]), (6, .p (iV x))]) (K := fun x => spec_raMake_k1 a0 a1 x = some r) (fun x5 h => ?_) ?_
  ·unfold spec_raMake_k1 at h
   replace h := bs h
   obtain ⟨u6, hu6, h⟩ := h
   refine k_sreg (r_dq Tryz_mixed 8 [] [(4, .box [rI 0, rI 0]), (7, .box [rI (w64 (Int.tdiv a0 x5)), rI (w64 (Int.tdiv a1 x5))])] [] (A2 (guardO_some hu6) (guardO_some hu6))) ?_
   refine k_seq ?_
   replace h := bs h
   obtain ⟨v7, hv7, h⟩ := h
   refine k_sreg (r_gq [(4, .box [rI 0, rI 0]), (7, .box [rI (w64 (Int.tdiv a0 x5)), rI (w64 (Int.tdiv a1 x5))]), (29, .p (.bool (!v7)))] [(1, {call := some (none, [.p (.bool v7)], true)})] (A1 (wk_spec_raGood hv7))) ?_
   refine kc (!v7) (fun hc2_7 => ?_) (fun hc2_7 => ?_)
   ·replace h := ite_t hc2_7 h
    refine k_sreg (r_gq [(4, .box [rI 0, rI 0]), (5, .p (.bool false))] [] trivial) ?_
    refine k_ret ?_
    refine q_r ?_
    obtain rfl := oi h
    exact er [(.p (.agg #[.int .i64 0, .int .i64 0]), 4), (.p (.bool false), 5)]
   ·replace h := ite_f hc2_7 h
    refine k_skip ?_
    refine q_n ?_
    refine k_sreg (r_gq [(4, .box [rI (w64 (Int.tdiv a0 x5)), rI (w64 (Int.tdiv a1 x5))]), (5, .p (.bool true))] [] trivial) ?_
    refine k_ret ?_
    obtain rfl := oi h
    exact er [(.p (.agg #[.int .i64 (w64 (Int.tdiv a0 x5)), .int .i64 (w64 (Int.tdiv a1 x5))]), 4), (.p (.bool true), 5)]
  ·refine k_sreg (r_gq [(0, .p (iV a0)), (1, .p (iV a1)), (4, .box [rI 0, rI 0]), (6, .p (iV v4)), (17, .p (.bool (decide (a1 < 0))))] [] trivial) ?_
   refine kc (decide (a1 < 0)) (fun hc2_8 => ?_) (fun hc2_8 => ?_)
   ·replace h := ite_t hc2_8 h
    refine k_reg (r_gq [(0, .p (iV a0)), (1, .p (iV a1)), (4, .box [rI 0, rI 0]), (6, .p (iV (w64 (0 - v4))))] [] trivial) ?_
    refine q_n ?_
    exact jx (w64 (0 - v4)) h
   ·replace h := ite_f hc2_8 h
    refine k_skip ?_
    refine q_n ?_
    exact jx v4 h
theorem wk_spec_gwRatios {a0 : (List (List Int))} {a1 : (List Int)}  {r : (List Qr)} (h : spec_gwRatios a0 a1 = some r) : Meets Tryz.prog 80 [.d false [.sl none (a0.map (eF eI))], .d false [.sl none (a1.map eI)]] { vals := [.ov false [.sl (some 33) (r.map eRt)]] } := by
 refine mo Tryz.func80 [(0, .d false [.sl none (a0.map (eF eI))]), (1, .d false [.sl none (a1.map eI)])] ?_
 unfold spec_gwRatios at h
 refine k_sreg (r_gq [(0, .d false [.sl none (a0.map (eF eI))]), (1, .d false [.sl none (a1.map eI)])] [] trivial) ?_
 refine k_sreg (r_gq [(0, .d false [.sl none (a0.map (eF eI))]), (1, .d false [.sl none (a1.map eI)]), (5, .ov false [.sl (some 33) []])] [] trivial) ?_
 refine k_join (J := fun (x : (List Qr)) => [(5, .ov false [.sl (some 33) (x.map eRt)])]) (K := fun x => spec_gwRatios_k1 x = some r) (fun x1 h => ?_) ?_
 ·unfold spec_gwRatios_k1 at h
  refine k_sreg (r_gq [(4, .ov false [.sl (some 33) (x1.map eRt)])] [] trivial) ?_
  refine k_ret ?_
  obtain rfl := oi h
  exact er [(.ov false [.sl (some 33) (x1.map eRt)], 4)]
 ·replace h := bs h
  obtain ⟨v2, hv2, h⟩ := h
  refine k_sreg (r_gq [(1, .d false [.sl none (a1.map eI)]), (5, .ov false [.sl (some 33) []]), (12, .ov false [.sl (some 3) (v2.map eI)]), (13, .p (iV (v2.length : Int))), (14, .p (iV 0))] [(2, {call := some (none, [.ov false [.sl (some 3) (v2.map eI)]], true)}), (3, {n := some v2.length})] (A3 (wk_spec_gwTimes hv2) (show List.all [.ov false [.sl (some 3) (v2.map eI)]] simpleR = true from (sa_o (wnR1 (wnL_enc wn_I) rfl) rfl)) (show (v2.map eI).length = v2.length from (List.length_map ..)))) ?_
  refine k_block ?_
  obtain ⟨y4, hl_x3, hk_x3⟩ := bs h
  clear h
  refine k_loop (J := fun (x : ((List Qr) × Int)) => [(1, .d false [.sl none (a1.map eI)]), (5, .ov false [.sl (some 33) (x.1.map eRt)]), (12, .ov false [.sl (some 3) (v2.map eI)]), (13, .p (iV (v2.length : Int))), (14, .p (iV x.2))]) hl_x3 (wk_of (by kernel_rfl) (by kernel_rfl)) (fun x3 o_x3 h hy_x3 => ?_)
  unfold spec_gwRatios_b1 at h
  refine k_sreg (r_gq [(1, .d false [.sl none (a1.map eI)]), (5, .ov false [.sl (some 33) (x3.1.map eRt)]), (12, .ov false [.sl (some 3) (v2.map eI)]), (13, .p (iV (v2.length : Int))), (14, .p (iV x3.2)), (15, .p (.bool (decide (x3.2 < (v2.length : Int)))))] [] trivial) ?_
  refine k_seq ?_
  refine kc (decide (x3.2 < (v2.length : Int))) (fun hc5_4 => ?_) (fun hc5_4 => ?_)
  ·replace h := ite_t hc5_4 h
   refine k_skip ?_
   refine q_n ?_
   refine k_seq ?_
   refine k_block ?_
   replace h := bs h
   obtain ⟨v6, hv6, h⟩ := h
   refine k_sreg (r_gq [(1, .d false [.sl none (a1.map eI)]), (5, .ov false [.sl (some 33) (x3.1.map eRt)]), (6, .p (iV x3.2)), (7, .p (iV v6)), (12, .ov false [.sl (some 3) (v2.map eI)]), (13, .p (iV (v2.length : Int))), (14, .p (iV x3.2))] [(1, {row := some (eI v6)}), (2, {row := some (eI v6)})] (A3 (idxO_some hv6).1 (map_get eI (idxO_some hv6).2) (show getRow [[.sl (some 3) (v2.map eI)]] [(0, 0), ((Int.toNat x3.2), 0)] = some (eI v6) from ((gr0 rfl).trans (gre (map_get eI (idxO_some hv6).2)))))) ?_
   replace h := bs h
   obtain ⟨v7, hv7, h⟩ := h
   replace h := bs h
   obtain ⟨v8, hv8, h⟩ := h
   refine k_sreg (r_gq [(1, .d false [.sl none (a1.map eI)]), (5, .ov false [.sl (some 33) (x3.1.map eRt)]), (8, .box (eRt v8.1)), (12, .ov false [.sl (some 3) (v2.map eI)]), (13, .p (iV (v2.length : Int))), (14, .p (iV x3.2))] [(3, {row := some (eI v7)}), (5, {call := some (none, [.p (vRt v8.1), .p (.bool v8.2)], true)})] (A3 (idxO_some hv7).1 (map_get eI (idxO_some hv7).2) (wk_spec_raMake hv8))) ?_
   replace h := bs h
   obtain ⟨u9, hu9, h⟩ := h
   refine k_reg (r_gq [(1, .d false [.sl none (a1.map eI)]), (5, .ov false [.sl (some 33) ((x3.1 ++ [v8.1]).map eRt)]), (12, .ov false [.sl (some 3) (v2.map eI)]), (13, .p (iV (v2.length : Int))), (14, .p (iV x3.2))] [(3, {fix := some (31, .ov false [.sl (some 33) ((x3.1 ++ [v8.1]).map eRt)])})] (A3 (show List.length ((x3.1.map eRt) : List (List C)) + List.length ((([v8.1]).map eRt) : List (List C)) ≤ 1099511627776 from (by have hg := (guardO_some hu9); simpa using hg)) (show ∀ row ∈ ((([v8.1]).map eRt) : List (List C)), row.length = 2 from (rows_len fun _ => rfl)) (show (SV.ov false [.sl (some 33) ((x3.1.map eRt) ++ (([v8.1]).map eRt))] : SV) = .ov false [.sl (some 33) ((x3.1 ++ [v8.1]).map eRt)] from (congrArg (fun z => SV.ov false [.sl (some 33) z]) (List.map_append ..).symm)))) ?_
   refine b_n ?_
   refine q_n ?_
   refine k_reg (r_gq [(1, .d false [.sl none (a1.map eI)]), (5, .ov false [.sl (some 33) ((x3.1 ++ [v8.1]).map eRt)]), (12, .ov false [.sl (some 3) (v2.map eI)]), (13, .p (iV (v2.length : Int))), (14, .p (iV (w64 (x3.2 + 1))))] [] trivial) ?_
   exact lqn ((x3.1 ++ [v8.1]), (w64 (x3.2 + 1))) h
  ·replace h := ite_f hc5_4 h
   refine k_exit ?_
   refine q_x ?_
   refine lq_x ?_
   refine b_x ?_
   have hyy := hy_x3 _ (oi h).symm
   subst hyy
   have h := hk_x3
   refine q_n ?_
   exact jx x3.1 h
theorem wk_spec_l1Sign {a0 : Int}  {r : Int} (h : spec_l1Sign a0 = some r) : Meets Tryz.prog 56 [wI a0] { vals := [.p (iV r)] } := by
 refine mo Tryz.func56 [(0, .p (iV a0))] ?_
 unfold spec_l1Sign at h
 refine k_sreg (r_gq [(0, .p (iV a0))] [] trivial) ?_
 refine k_seq ?_
 refine k_block ?_
 refine k_sreg (r_gq [(0, .p (iV a0)), (3, .p (.bool (decide (a0 > 0))))] [] trivial) ?_
 refine kc (decide (a0 > 0)) (fun hc3_0 => ?_) (fun hc3_0 => ?_)
 ·replace h := ite_t hc3_0 h
  refine k_sreg (r_gq [(2, .p (iV 1))] [] trivial) ?_
  refine k_ret ?_
  refine b_r ?_
  refine q_r ?_
  obtain rfl := oi h
  exact er [(.p (iV 1), 2)]
 ·replace h := ite_f hc3_0 h
  refine k_sreg (r_gq [(6, .p (.bool (decide (a0 < 0))))] [] trivial) ?_
  refine kc (decide (a0 < 0)) (fun hc3_1 => ?_) (fun hc3_1 => ?_)
  ·replace h := ite_t hc3_1 h
   refine k_sreg (r_gq [(2, .p (iV (-1)))] [] trivial) ?_
   refine k_ret ?_
   refine b_r ?_
   refine q_r ?_
   obtain rfl := oi h
   exact er [(.p (iV (-1)), 2)]
  ·replace h := ite_f hc3_1 h
   refine k_skip ?_
   refine b_n ?_
   refine q_n ?_
   refine k_sreg (r_gq [(2, .p (iV 0))] [] trivial) ?_
   refine k_ret ?_
   obtain rfl := oi h
   exact er [(.p (iV 0), 2)]
theorem wk_spec_raCmp {a0 : Qr} {a1 : Qr}  {r : Int} (h : spec_raCmp a0 a1 = some r) : Meets Tryz.prog 28 [.v (vRt a0), .v (vRt a1)] { vals := [.p (iV r)] } := by
 refine mo Tryz.func28 [(0, .p (vRt a0)), (1, .p (vRt a1))] ?_
 unfold spec_raCmp at h
 refine k_sreg (r_gq [(2, .box (eRt a0)), (3, .box (eRt a1))] [] trivial) ?_
 replace h := bs h
 obtain ⟨v1, hv1, h⟩ := h
 refine k_sreg (r_gq [(4, .p (iV v1))] [(11, {call := some (none, [.p (iV v1)], true)})] (A1 (wk_spec_l1Sign hv1))) ?_
 refine k_ret ?_
 obtain rfl := oi h
 exact er [(.p (iV v1), 4)]
theorem wk_spec_ivLess {a0 : Qr} {a1 : Qr}  {r : Qr} (h : spec_ivLess a0 a1 = some r) : Meets Tryz.prog 81 [.v (vRt a0), .v (vRt a1)] { vals := [.p (vRt r)] } := by
 refine mo Tryz.func81 [(0, .p (vRt a0)), (1, .p (vRt a1))] ?_
 unfold spec_ivLess at h
 refine k_sreg (r_gq [(2, .box (eRt a0)), (3, .box (eRt a1)), (4, .box [rI 0, rI 0])] [] trivial) ?_
 refine k_seq ?_
 replace h := bs h
 obtain ⟨v1, hv1, h⟩ := h
 refine k_sreg (r_gq [(2, .box (eRt a0)), (3, .box (eRt a1)), (4, .box [rI 0, rI 0]), (8, .p (.bool (decide (v1 < 0))))] [(2, {call := some (none, [.p (iV v1)], true)})] (A1 (wk_spec_raCmp hv1))) ?_
 refine kc (decide (v1 < 0)) (fun hc2_1 => ?_) (fun hc2_1 => ?_)
 ·replace h := ite_t hc2_1 h
  refine k_sreg (r_gq [(4, .box (eRt a0))] [] trivial) ?_
  refine k_ret ?_
  refine q_r ?_
  obtain rfl := oi h
  exact er [(.p (vRt a0), 4)]
 ·replace h := ite_f hc2_1 h
  refine k_skip ?_
  refine q_n ?_
  refine k_sreg (r_gq [(4, .box (eRt a1))] [] trivial) ?_
  refine k_ret ?_
  obtain rfl := oi h
  exact er [(.p (vRt a1), 4)]
theorem wk_spec_ivGreater {a0 : Qr} {a1 : Qr}  {r : Qr} (h : spec_ivGreater a0 a1 = some r) : Meets Tryz.prog 82 [.v (vRt a0), .v (vRt a1)] { vals := [.p (vRt r)] } := by
 refine mo Tryz.func82 [(0, .p (vRt a0)), (1, .p (vRt a1))] ?_
 unfold spec_ivGreater at h
 refine k_sreg (r_gq [(2, .box (eRt a0)), (3, .box (eRt a1)), (4, .box [rI 0, rI 0])] [] trivial) ?_
 refine k_seq ?_
 replace h := bs h
 obtain ⟨v1, hv1, h⟩ := h
 refine k_sreg (r_gq [(2, .box (eRt a0)), (3, .box (eRt a1)), (4, .box [rI 0, rI 0]), (8, .p (.bool (decide (v1 < 0))))] [(2, {call := some (none, [.p (iV v1)], true)})] (A1 (wk_spec_raCmp hv1))) ?_
 refine kc (decide (v1 < 0)) (fun hc2_1 => ?_) (fun hc2_1 => ?_)
 ·replace h := ite_t hc2_1 h
  refine k_sreg (r_gq [(4, .box (eRt a1))] [] trivial) ?_
  refine k_ret ?_
  refine q_r ?_
  obtain rfl := oi h
  exact er [(.p (vRt a1), 4)]
 ·replace h := ite_f hc2_1 h
  refine k_skip ?_
  refine q_n ?_
  refine k_sreg (r_gq [(4, .box (eRt a0))] [] trivial) ?_
  refine k_ret ?_
  obtain rfl := oi h
  exact er [(.p (vRt a0), 4)]
theorem wk_spec_gwBounds {a0 : (List (List Int))} {a1 : (List Int)}  {r : Qp} (h : spec_gwBounds a0 a1 = some r) : Meets Tryz.prog 55 [.d false [.sl none (a0.map (eF eI))], .d false [.sl none (a1.map eI)]] { vals := [.p (vRt r.1), .p (vRt r.2)] } := by
 refine mo Tryz.func55 [(0, .d false [.sl none (a0.map (eF eI))]), (1, .d false [.sl none (a1.map eI)])] ?_
 unfold spec_gwBounds at h
 refine k_sreg (r_gq [(0, .d false [.sl none (a0.map (eF eI))]), (1, .d false [.sl none (a1.map eI)]), (4, .box [rI 0, rI 0]), (5, .box [rI 0, rI 0])] [] trivial) ?_
 replace h := bs h
 obtain ⟨v1, hv1, h⟩ := h
 refine k_sreg (r_gq [(4, .box [rI 0, rI 0]), (5, .box [rI 0, rI 0]), (6, .ov false [.sl (some 33) (v1.map eRt)])] [(2, {call := some (none, [.ov false [.sl (some 33) (v1.map eRt)]], true)})] (A2 (wk_spec_gwRatios hv1) (show List.all [.ov false [.sl (some 33) (v1.map eRt)]] simpleR = true from (sa_o (wnR1 (wnL_enc (wn_P wn_I wn_I)) rfl) rfl)))) ?_
 replace h := bs h
 obtain ⟨v2, hv2, h⟩ := h
 refine k_sreg (r_dq Tryz_mixed 9 [(8, 7)] [(4, .box [rI 0, rI 0]), (5, .box [rI 0, rI 0]), (6, .ov false [.sl (some 33) (v1.map eRt)]), (7, .box (eRt v2)), (8, .box (eRt v2))] [(1, {row := some (eRt v2)}), (2, {row := some (eRt v2)}), (4, {row := some (eRt v2)}), (5, {row := some (eRt v2)})] (A6 (idxO_some hv2).1 (map_get eRt (idxO_some hv2).2) (show getRow [[.sl (some 33) (v1.map eRt)]] [(0, 0), ((Int.toNat 0), 0)] = some (eRt v2) from ((gr0 rfl).trans (gre (map_get eRt (idxO_some hv2).2)))) (idxO_some hv2).1 (map_get eRt (idxO_some hv2).2) (show getRow [[.sl (some 33) (v1.map eRt)]] [(0, 0), ((Int.toNat 0), 0)] = some (eRt v2) from ((gr0 rfl).trans (gre (map_get eRt (idxO_some hv2).2)))))) ?_
 refine k_join (J := fun (x : (Int × Int × Int × Int)) => [(4, .box [rI 0, rI 0]), (5, .box [rI 0, rI 0]), (7, .box [rI x.1, rI x.2.1]), (8, .box (eRt x.2.2))]) (K := fun x => spec_gwBounds_k1 x = some r) (fun x3 h => ?_) ?_
 ·unfold spec_gwBounds_k1 at h
  refine k_sreg (r_dq Tryz_mixed 3 [(2, 4)] [(4, .box [rI x3.1, rI x3.2.1]), (5, .box (eRt x3.2.2))] [] trivial) ?_
  refine k_ret ?_
  obtain rfl := oi h
  exact er [(.p (.agg #[.int .i64 x3.1, .int .i64 x3.2.1]), 4), (.p (vRt x3.2.2), 5)]
 ·refine k_sreg (r_gq [(4, .box [rI 0, rI 0]), (5, .box [rI 0, rI 0]), (6, .ov false [.sl (some 33) (v1.map eRt)]), (7, .box (eRt v2)), (8, .box (eRt v2)), (20, .ref 6 [(0, 0)] none), (21, .p (iV (v1.length : Int))), (22, .p (iV 0))] [(1, {n := some v1.length})] (A1 (show (v1.map eRt).length = v1.length from (List.length_map ..)))) ?_
  refine k_block ?_
  obtain ⟨y5, hl_x4, hk_x4⟩ := bs h
  clear h
  refine k_loop (J := fun (x : (Int × Int × Int × Int × Int)) => [(4, .box [rI 0, rI 0]), (5, .box [rI 0, rI 0]), (6, .ov false [.sl (some 33) (v1.map eRt)]), (7, .box [rI x.1, rI x.2.1]), (8, .box [rI x.2.2.1, rI x.2.2.2.1]), (20, .ref 6 [(0, 0)] none), (21, .p (iV (v1.length : Int))), (22, .p (iV x.2.2.2.2))]) hl_x4 (wk_of (by kernel_rfl) (by kernel_rfl)) (fun x4 o_x4 h hy_x4 => ?_)
  unfold spec_gwBounds_b1 at h
  refine k_sreg (r_gq [(4, .box [rI 0, rI 0]), (5, .box [rI 0, rI 0]), (6, .ov false [.sl (some 33) (v1.map eRt)]), (7, .box [rI x4.1, rI x4.2.1]), (8, .box [rI x4.2.2.1, rI x4.2.2.2.1]), (20, .ref 6 [(0, 0)] none), (21, .p (iV (v1.length : Int))), (22, .p (iV x4.2.2.2.2)), (23, .p (.bool (decide (x4.2.2.2.2 < (v1.length : Int)))))] [] trivial) ?_
  refine k_seq ?_
  refine kc (decide (x4.2.2.2.2 < (v1.length : Int))) (fun hc5_5 => ?_) (fun hc5_5 => ?_)
  ·replace h := ite_t hc5_5 h
   refine k_skip ?_
   refine q_n ?_
   refine k_seq ?_
   refine k_block ?_
   replace h := bs h
   obtain ⟨v7, hv7, h⟩ := h
   refine k_sreg (r_gq [(4, .box [rI 0, rI 0]), (5, .box [rI 0, rI 0]), (6, .ov false [.sl (some 33) (v1.map eRt)]), (7, .box [rI x4.1, rI x4.2.1]), (8, .box [rI x4.2.2.1, rI x4.2.2.2.1]), (10, .box (eRt v7)), (20, .ref 6 [(0, 0)] none), (21, .p (iV (v1.length : Int))), (22, .p (iV x4.2.2.2.2))] [(0, {row := some (eRt v7)}), (1, {row := some (eRt v7)})] (A3 (idxO_some hv7).1 (map_get eRt (idxO_some hv7).2) (show getRow [[.sl (some 33) (v1.map eRt)]] [(0, 0), ((Int.toNat x4.2.2.2.2), 0)] = some (eRt v7) from ((gr0 rfl).trans (gre (map_get eRt (idxO_some hv7).2)))))) ?_
   replace h := bs h
   obtain ⟨v8, hv8, h⟩ := h
   refine k_sreg (r_gq [(4, .box [rI 0, rI 0]), (5, .box [rI 0, rI 0]), (6, .ov false [.sl (some 33) (v1.map eRt)]), (7, .box (eRt v8)), (8, .box [rI x4.2.2.1, rI x4.2.2.2.1]), (10, .box (eRt v7)), (20, .ref 6 [(0, 0)] none), (21, .p (iV (v1.length : Int))), (22, .p (iV x4.2.2.2.2))] [(2, {call := some (none, [.p (vRt v8)], true)})] (A1 (wk_spec_ivLess hv8))) ?_
   replace h := bs h
   obtain ⟨v9, hv9, h⟩ := h
   refine k_reg (r_gq [(4, .box [rI 0, rI 0]), (5, .box [rI 0, rI 0]), (6, .ov false [.sl (some 33) (v1.map eRt)]), (7, .box (eRt v8)), (8, .box (eRt v9)), (20, .ref 6 [(0, 0)] none), (21, .p (iV (v1.length : Int))), (22, .p (iV x4.2.2.2.2))] [(2, {call := some (none, [.p (vRt v9)], true)})] (A1 (wk_spec_ivGreater hv9))) ?_
   refine b_n ?_
   refine q_n ?_
   refine k_reg (r_gq [(4, .box [rI 0, rI 0]), (5, .box [rI 0, rI 0]), (6, .ov false [.sl (some 33) (v1.map eRt)]), (7, .box (eRt v8)), (8, .box (eRt v9)), (20, .ref 6 [(0, 0)] none), (21, .p (iV (v1.length : Int))), (22, .p (iV (w64 (x4.2.2.2.2 + 1))))] [] trivial) ?_
   exact lqn (v8.1, v8.2, v9.1, v9.2, (w64 (x4.2.2.2.2 + 1))) h
  ·replace h := ite_f hc5_5 h
   refine k_exit ?_
   refine q_x ?_
   refine lq_x ?_
   refine b_x ?_
   have hyy := hy_x4 _ (oi h).symm
   subst hyy
   have h := hk_x4
   refine q_n ?_
   exact jx (x4.1, x4.2.1, x4.2.2.1, x4.2.2.2.1) h
theorem wk_spec_gwBest {a0 : (List (List Int))}  {r : (Qr × Qr × Int)} (h : spec_gwBest a0 = some r) : Meets Tryz.prog 27 [.d false [.sl none (a0.map (eF eI))]] { vals := [.p (vRt r.1), .p (vRt r.2.1), .p (iV r.2.2)] } := by
 refine mo Tryz.func27 [(0, .d false [.sl none (a0.map (eF eI))])] ?_
 unfold spec_gwBest at h
 refine k_sreg (r_gq [(0, .d false [.sl none (a0.map (eF eI))]), (2, .box [rI 0, rI 0]), (3, .box [rI 0, rI 0])] [] trivial) ?_
 refine k_sreg (r_gq [(0, .d false [.sl none (a0.map (eF eI))]), (2, .box [rI 0, rI 0]), (3, .box [rI 0, rI 0]), (5, .p (iV 0))] [] trivial) ?_
 replace h := bs h
 obtain ⟨v1, hv1, h⟩ := h
 refine k_sreg (r_gq [(0, .d false [.sl none (a0.map (eF eI))]), (2, .box [rI 0, rI 0]), (3, .box [rI 0, rI 0]), (5, .p (iV 0)), (6, .ov false [.sl (some 3) (v1.1.map eI)])] [(1, {call := some (none, [.ov false [.sl (some 3) (v1.1.map eI)], .p (.bool v1.2)], true)})] (A2 (wk_spec_gwWalks hv1) (show List.all [.ov false [.sl (some 3) (v1.1.map eI)], .p (.bool v1.2)] simpleR = true from (sa_o (wnR1 (wnL_enc wn_I) rfl) (sa_p rfl))))) ?_
 refine k_join (J := fun (x : (Int × (List Int))) => [(0, .d false [.sl none (a0.map (eF eI))]), (2, .box [rI 0, rI 0]), (3, .box [rI 0, rI 0]), (5, .p (iV x.1)), (6, .ov false [.sl (some 3) (x.2.map eI)])]) (K := fun x => spec_gwBest_k1 a0 x = some r) (fun x2 h => ?_) ?_
 ·unfold spec_gwBest_k1 at h
  replace h := bs h
  obtain ⟨v3, hv3, h⟩ := h
  refine k_sreg (r_gq [(2, .box [rI 0, rI 0]), (3, .box [rI 0, rI 0]), (5, .p (iV x2.1)), (10, .box (eRt v3.1)), (11, .box (eRt v3.2))] [(2, {call := some (some [.d false [.sl none (a0.map (eF eI))], .d false [.sl none (x2.2.map eI)]], [.p (vRt v3.1), .p (vRt v3.2)], true)})] (A2 (show ([.d false [.sl none (a0.map (eF eI))], .d false [.sl none (eraL (x2.2.map eI))]] : List Arg) = [.d false [.sl none (a0.map (eF eI))], .d false [.sl none (x2.2.map eI)]] from (by simp only [eraL_enc (h := eI) er_I])) (wk_spec_gwBounds hv3))) ?_
  refine k_sreg (r_dq Tryz_mixed 5 [(3, 2), (4, 3)] [(2, .box (eRt v3.1)), (3, .box (eRt v3.2)), (4, .p (iV x2.1))] [] trivial) ?_
  refine k_ret ?_
  obtain rfl := oi h
  exact er [(.p (vRt v3.1), 2), (.p (vRt v3.2), 3), (.p (iV x2.1), 4)]
 ·refine k_block ?_
  obtain ⟨y5, hl_x4, hk_x4⟩ := bs h
  clear h
  refine k_loop (J := fun (x : (Int × (List Int))) => [(0, .d false [.sl none (a0.map (eF eI))]), (2, .box [rI 0, rI 0]), (3, .box [rI 0, rI 0]), (5, .p (iV x.1)), (6, .ov false [.sl (some 3) (x.2.map eI)])]) hl_x4 (wk_of (by kernel_rfl) (by kernel_rfl)) (fun x4 o_x4 h hy_x4 => ?_)
  unfold spec_gwBest_b1 at h
  refine k_seq ?_
  refine k_sreg (r_gq [(0, .d false [.sl none (a0.map (eF eI))]), (2, .box [rI 0, rI 0]), (3, .box [rI 0, rI 0]), (5, .p (iV x4.1)), (6, .ov false [.sl (some 3) (x4.2.map eI)]), (18, .p (.bool (decide (x4.1 < 20))))] [] trivial) ?_
  refine kc (decide (x4.1 < 20)) (fun hc5_5 => ?_) (fun hc5_5 => ?_)
  ·replace h := ite_t hc5_5 h
   refine k_skip ?_
   refine q_n ?_
   refine k_block ?_
   replace h := bs h
   obtain ⟨v7, hv7, h⟩ := h
   refine k_sreg (r_gq [(0, .d false [.sl none (a0.map (eF eI))]), (2, .box [rI 0, rI 0]), (3, .box [rI 0, rI 0]), (5, .p (iV x4.1)), (6, .ov false [.sl (some 3) (x4.2.map eI)]), (8, .ov false [.sl (some 3) (v7.1.map eI)]), (9, .p (.bool v7.2))] [(3, {call := some (none, [.ov false [.sl (some 3) (v7.1.map eI)], .p (.bool v7.2)], true)})] (A2 (wk_spec_gwWalks hv7) (show List.all [.ov false [.sl (some 3) (v7.1.map eI)], .p (.bool v7.2)] simpleR = true from (sa_o (wnR1 (wnL_enc wn_I) rfl) (sa_p rfl))))) ?_
   refine k_seq ?_
   refine k_sreg (r_gq [(0, .d false [.sl none (a0.map (eF eI))]), (2, .box [rI 0, rI 0]), (3, .box [rI 0, rI 0]), (5, .p (iV x4.1)), (6, .ov false [.sl (some 3) (x4.2.map eI)]), (8, .ov false [.sl (some 3) (v7.1.map eI)]), (27, .p (.bool (!v7.2)))] [] trivial) ?_
   refine kc (!v7.2) (fun hc6_7 => ?_) (fun hc6_7 => ?_)
   ·replace h := ite_t hc6_7 h
    refine k_exit ?_
    refine q_x ?_
    refine b_y rfl ?_
    refine lq_x ?_
    refine b_x ?_
    have hyy := hy_x4 _ (oi h).symm
    subst hyy
    have h := hk_x4
    refine q_n ?_
    exact jx x4 h
   ·replace h := ite_f hc6_7 h
    refine k_skip ?_
    refine q_n ?_
    refine k_sreg (r_gq [(0, .d false [.sl none (a0.map (eF eI))]), (2, .box [rI 0, rI 0]), (3, .box [rI 0, rI 0]), (5, .p (iV x4.1)), (6, .ov false [.sl (some 3) (v7.1.map eI)])] [] trivial) ?_
    refine k_reg (r_gq [(0, .d false [.sl none (a0.map (eF eI))]), (2, .box [rI 0, rI 0]), (3, .box [rI 0, rI 0]), (5, .p (iV (w64 (x4.1 + 1)))), (6, .ov false [.sl (some 3) (v7.1.map eI)])] [] trivial) ?_
    refine b_n ?_
    exact lqn ((w64 (x4.1 + 1)), v7.1) h
  ·replace h := ite_f hc5_5 h
   refine k_exit ?_
   refine q_x ?_
   refine lq_x ?_
   refine b_x ?_
   have hyy := hy_x4 _ (oi h).symm
   subst hyy
   have h := hk_x4
   refine q_n ?_
   exact jx x4 h
theorem wk_spec_GrowsFaster {a0 : (List (List Int))} {a1 : (List (List Int))}  {r : (Bool × Bool)} (h : spec_GrowsFaster a0 a1 = some r) : Meets Tryz.prog 11 [.d false [.sl none (a0.map (eF eI))], .d false [.sl none (a1.map (eF eI))]] { vals := [.p (.bool r.1), .p (.bool r.2)] } := by
 refine mo Tryz.func11 [(0, .d false [.sl none (a0.map (eF eI))]), (1, .d false [.sl none (a1.map (eF eI))])] ?_
 unfold spec_GrowsFaster at h
 refine k_sreg (r_gq [(0, .d false [.sl none (a0.map (eF eI))]), (1, .d false [.sl none (a1.map (eF eI))])] [] trivial) ?_
 refine k_seq ?_
 replace h := bs h
 obtain ⟨v1, hv1, h⟩ := h
 replace h := bs h
 obtain ⟨w3, hw3, h⟩ := h
 refine k_sreg (l1 := [(0, .d false [.sl none (a0.map (eF eI))]), (1, .d false [.sl none (a1.map (eF eI))]), (19, .p (.bool w3))]) ?_ ?_
 ·clear h
  rcases ft (!v1) with ha0 | ha0
  ·replace hw3 := ite_t ha0 hw3
   have hw3 := oi hw3
   subst hw3
   exact (r_gq [(0, .d false [.sl none (a0.map (eF eI))]), (1, .d false [.sl none (a1.map (eF eI))]), (19, .p (.bool true))] [(1, {call := some (none, [.p (.bool v1)], true)}), (4, gT), (5, gT), (6, gT), (7, bT)] (A5 (wk_spec_grGood hv1) ha0 ha0 ha0 ha0))
  ·replace hw3 := ite_f ha0 hw3
   replace hw3 := bs hw3
   obtain ⟨v2, hv2, hw3⟩ := hw3
   have hw3 := oi hw3
   subst hw3
   exact (r_gq [(0, .d false [.sl none (a0.map (eF eI))]), (1, .d false [.sl none (a1.map (eF eI))]), (19, .p (.bool (!v2)))] [(1, {call := some (none, [.p (.bool v1)], true)}), (4, gF), (5, {g := some false, call := some (none, [.p (.bool v2)], true)}), (6, gF), (7, bF)] (A6 (wk_spec_grGood hv1) ha0 ha0 (wk_spec_grGood hv2) ha0 ha0))
 ·refine kc w3 (fun hc2_3 => ?_) (fun hc2_3 => ?_)
  ·replace h := ite_t hc2_3 h
   refine k_sreg (r_gq [(4, .p (.bool false)), (5, .p (.bool false))] [] trivial) ?_
   refine k_ret ?_
   refine q_r ?_
   obtain rfl := oi h
   exact er [(.p (.bool false), 4), (.p (.bool false), 5)]
  ·replace h := ite_f hc2_3 h
   refine k_skip ?_
   refine q_n ?_
   replace h := bs h
   obtain ⟨v5, hv5, h⟩ := h
   refine k_sreg (r_gq [(1, .d false [.sl none (a1.map (eF eI))]), (6, .box (eRt v5.1))] [(1, {call := some (none, [.p (vRt v5.1), .p (vRt v5.2.1), .p (iV v5.2.2)], true)})] (A1 (wk_spec_gwBest hv5))) ?_
   replace h := bs h
   obtain ⟨v6, hv6, h⟩ := h
   refine k_sreg (r_gq [(6, .box (eRt v5.1)), (10, .box (eRt v6.2.1))] [(1, {call := some (none, [.p (vRt v6.1), .p (vRt v6.2.1), .p (iV v6.2.2)], true)})] (A1 (wk_spec_gwBest hv6))) ?_
   replace h := bs h
   obtain ⟨v7, hv7, h⟩ := h
   refine k_sreg (r_gq [(4, .p (.bool (decide (v7 > 0)))), (5, .p (.bool true))] [(2, {call := some (none, [.p (iV v7)], true)})] (A1 (wk_spec_raCmp hv7))) ?_
   refine k_ret ?_
   obtain rfl := oi h
   exact er [(.p (.bool (decide (v7 > 0))), 4), (.p (.bool true), 5)]
theorem wk_spec_raInt {a0 : Int}  {r : Qr} (h : spec_raInt a0 = some r) : Meets Tryz.prog 58 [wI a0] { vals := [.p (vRt r)] } := by
 refine mo Tryz.func58 [(0, .p (iV a0))] ?_
 unfold spec_raInt at h
 refine k_sreg (r_gq [(0, .p (iV a0)), (2, .box [rI 0, rI 0])] [] trivial) ?_
 refine k_sreg (r_gq [(2, .box [rI a0, rI 1])] [] trivial) ?_
 refine k_ret ?_
 obtain rfl := oi h
 exact er [(.p (.agg #[.int .i64 a0, .int .i64 1]), 2)]
theorem wk_spec_l1Cur_rat {a0 : Cu}  {r : (Qr × Cu)} (h : spec_l1Cur_rat a0 = some r) : MeetsB Tryz.prog 29 (.box (eCu a0)) [] [.p (vRt r.1)] (.box (eCu r.2)) := by
 refine mob Tryz.func29 [(0, .box (eCu a0))] ?_
 unfold spec_l1Cur_rat at h
 refine k_sreg (r_gq [(0, .box (eCu a0)), (2, .box [rI 0, rI 0])] [] trivial) ?_
 replace h := bs h
 obtain ⟨v1, hv1, h⟩ := h
 replace h := bs h
 obtain ⟨v2, hv2, h⟩ := h
 replace h := bs h
 obtain ⟨v3, hv3, h⟩ := h
 replace h := bs h
 obtain ⟨v4, hv4, h⟩ := h
 replace h := bs h
 obtain ⟨v5, hv5, h⟩ := h
 replace h := bs h
 obtain ⟨v6, hv6, h⟩ := h
 replace h := bs h
 obtain ⟨v7, hv7, h⟩ := h
 refine k_sreg (r_gq [(0, .box (eCu v6.2)), (2, .box [rI 0, rI 0]), (3, .box (eRt v7.1)), (4, .p (.bool v7.2))] [(2, {lend := some (none, [.p (iV v1.1)], .box (eCu v1.2), false)}), (5, {lend := some (none, [.p (iV v2.1)], .box (eCu v2.2), false)}), (8, {lend := some (some [.d false [.sl none (([0, 1, 2, 3, (-1), (-5), (w64 (v1.1 - 20)), (w64 (v2.1 - 1000)), 1000000000, (-1000000000)]).map eI)]], [.p (iV v3.1)], .box (eCu v3.2), false), fix := some (13, .d false [.sl none (([0, 1, 2, 3, (-1), (-5), (w64 (v1.1 - 20)), (w64 (v2.1 - 1000)), 1000000000, (-1000000000)]).map eI)])}), (11, {lend := some (none, [.p (iV v4.1)], .box (eCu v4.2), false)}), (14, {lend := some (none, [.p (iV v5.1)], .box (eCu v5.2), false)}), (17, {lend := some (some [.d false [.sl none (([1, 2, 3, 4, 8, 7, (w64 (1 + v4.1)), (w64 (1 + v5.1)), 1000000000, 999999999]).map eI)]], [.p (iV v6.1)], .box (eCu v6.2), false), fix := some (22, .d false [.sl none (([1, 2, 3, 4, 8, 7, (w64 (1 + v4.1)), (w64 (1 + v5.1)), 1000000000, 999999999]).map eI)])}), (18, {call := some (none, [.p (vRt v7.1), .p (.bool v7.2)], true)})] (B6 (wk_spec_l1Cur_pick hv1) (wk_spec_l1Cur_pick hv2) (show ([.d false [.sl none (eraL (([0, 1, 2, 3, (-1), (-5), (w64 (v1.1 - 20)), (w64 (v2.1 - 1000)), 1000000000, (-1000000000)]).map eI))]] : List Arg) = [.d false [.sl none (([0, 1, 2, 3, (-1), (-5), (w64 (v1.1 - 20)), (w64 (v2.1 - 1000)), 1000000000, (-1000000000)]).map eI)]] from (by simp only [eraL_enc (h := eI) er_I])) (wk_spec_l1Cur_among hv3) (show (SV.d false (eraR [.sl (some 3) (([0, 1, 2, 3, (-1), (-5), (w64 (v1.1 - 20)), (w64 (v2.1 - 1000)), 1000000000, (-1000000000)]).map eI)]) : SV) = .d false [.sl none (([0, 1, 2, 3, (-1), (-5), (w64 (v1.1 - 20)), (w64 (v2.1 - 1000)), 1000000000, (-1000000000)]).map eI)] from (congrArg (fun z => SV.d false z) (erc_sl (eraL_enc er_I) rfl))) (wk_spec_l1Cur_pick hv4) (A5 (wk_spec_l1Cur_pick hv5) (show ([.d false [.sl none (eraL (([1, 2, 3, 4, 8, 7, (w64 (1 + v4.1)), (w64 (1 + v5.1)), 1000000000, 999999999]).map eI))]] : List Arg) = [.d false [.sl none (([1, 2, 3, 4, 8, 7, (w64 (1 + v4.1)), (w64 (1 + v5.1)), 1000000000, 999999999]).map eI)]] from (by simp only [eraL_enc (h := eI) er_I])) (wk_spec_l1Cur_among hv6) (show (SV.d false (eraR [.sl (some 3) (([1, 2, 3, 4, 8, 7, (w64 (1 + v4.1)), (w64 (1 + v5.1)), 1000000000, 999999999]).map eI)]) : SV) = .d false [.sl none (([1, 2, 3, 4, 8, 7, (w64 (1 + v4.1)), (w64 (1 + v5.1)), 1000000000, 999999999]).map eI)] from (congrArg (fun z => SV.d false z) (erc_sl (eraL_enc er_I) rfl))) (wk_spec_raMake hv7)))) ?_
 refine k_seq ?_
 refine k_sreg (r_gq [(0, .box (eCu v6.2)), (2, .box [rI 0, rI 0]), (3, .box (eRt v7.1)), (28, .p (.bool (!v7.2)))] [] trivial) ?_
 refine kc (!v7.2) (fun hc2_7 => ?_) (fun hc2_7 => ?_)
 ·replace h := ite_t hc2_7 h
  replace h := bs h
  obtain ⟨v9, hv9, h⟩ := h
  refine k_sreg (r_gq [(0, .box (eCu v6.2)), (2, .box (eRt v9))] [(0, {call := some (none, [.p (vRt v9)], true)})] (A1 (wk_spec_raInt hv9))) ?_
  refine k_ret ?_
  refine q_r ?_
  obtain rfl := oi h
  exact ebr [(.p (vRt v9), 2)]
 ·replace h := ite_f hc2_7 h
  refine k_skip ?_
  refine q_n ?_
  refine k_sreg (r_gq [(0, .box (eCu v6.2)), (2, .box (eRt v7.1))] [] trivial) ?_
  refine k_ret ?_
  obtain rfl := oi h
  exact ebr [(.p (vRt v7.1), 2)]
theorem wk_spec_l1Cur_anyRat {a0 : Cu}  {r : (Qr × Cu)} (h : spec_l1Cur_anyRat a0 = some r) : MeetsB Tryz.prog 31 (.box (eCu a0)) [] [.p (vRt r.1)] (.box (eCu r.2)) := by
 refine mob Tryz.func31 [(0, .box (eCu a0))] ?_
 unfold spec_l1Cur_anyRat at h
 refine k_sreg (r_gq [(0, .box (eCu a0)), (2, .box [rI 0, rI 0])] [] trivial) ?_
 replace h := bs h
 obtain ⟨v1, hv1, h⟩ := h
 refine k_sreg (r_gq [(0, .box (eCu v1.2)), (2, .box [rI 0, rI 0]), (3, .box (eRt v1.1))] [(1, {lend := some (none, [.p (vRt v1.1)], .box (eCu v1.2), false)})] (A1 (wk_spec_l1Cur_rat hv1))) ?_
 refine k_seq ?_
 replace h := bs h
 obtain ⟨v2, hv2, h⟩ := h
 refine k_sreg (r_gq [(0, .box (eCu v2.2)), (2, .box [rI 0, rI 0]), (3, .box (eRt v1.1)), (7, .p (iV v2.1))] [(1, {lend := some (none, [.p (iV v2.1)], .box (eCu v2.2), false)})] (A1 (wk_spec_l1Cur_pick hv2))) ?_
 refine k_block ?_
 refine k_sreg (r_gq [(0, .box (eCu v2.2)), (2, .box [rI 0, rI 0]), (3, .box (eRt v1.1)), (7, .p (iV v2.1)), (8, .p (.bool (v2.1 == 0)))] [] trivial) ?_
 refine kc (v2.1 == 0) (fun hc3_2 => ?_) (fun hc3_2 => ?_)
 ·replace h := ite_t hc3_2 h
  replace h := bs h
  obtain ⟨v4, hv4, h⟩ := h
  refine k_reg (r_gq [(0, .box (eCu v4.2)), (2, .box [rI 0, rI 0]), (3, .box [rI v1.1.1, rI v4.1])] [(2, {lend := some (some [.d false [.sl none (([0, (-1), 1000000001]).map eI)]], [.p (iV v4.1)], .box (eCu v4.2), false), fix := some (11, .d false [.sl none (([0, (-1), 1000000001]).map eI)])})] (A3 (show ([.d false [.sl none (eraL (([0, (-1), 1000000001]).map eI))]] : List Arg) = [.d false [.sl none (([0, (-1), 1000000001]).map eI)]] from (by simp only [eraL_enc (h := eI) er_I])) (wk_spec_l1Cur_among hv4) (show (SV.d false (eraR [.sl (some 3) (([0, (-1), 1000000001]).map eI)]) : SV) = .d false [.sl none (([0, (-1), 1000000001]).map eI)] from (congrArg (fun z => SV.d false z) (erc_sl (eraL_enc er_I) rfl))))) ?_
  refine b_n ?_
  refine q_n ?_
  refine k_sreg (r_gq [(0, .box (eCu v4.2)), (2, .box [rI v1.1.1, rI v4.1])] [] trivial) ?_
  refine k_ret ?_
  obtain rfl := oi h
  exact ebr [(.p (.agg #[.int .i64 v1.1.1, .int .i64 v4.1]), 2)]
 ·replace h := ite_f hc3_2 h
  refine k_sreg (r_gq [(0, .box (eCu v2.2)), (2, .box [rI 0, rI 0]), (3, .box (eRt v1.1)), (7, .p (iV v2.1)), (14, .p (.bool (v2.1 == 1)))] [] trivial) ?_
  refine kc (v2.1 == 1) (fun hc3_4 => ?_) (fun hc3_4 => ?_)
  ·replace h := ite_t hc3_4 h
   replace h := bs h
   obtain ⟨v6, hv6, h⟩ := h
   refine k_reg (r_gq [(0, .box (eCu v6.2)), (2, .box [rI 0, rI 0]), (3, .box [rI v6.1, rI v1.1.2])] [(2, {lend := some (some [.d false [.sl none (([1000000001, (-1000000001), (-9223372036854775808)]).map eI)]], [.p (iV v6.1)], .box (eCu v6.2), false), fix := some (17, .d false [.sl none (([1000000001, (-1000000001), (-9223372036854775808)]).map eI)])})] (A3 (show ([.d false [.sl none (eraL (([1000000001, (-1000000001), (-9223372036854775808)]).map eI))]] : List Arg) = [.d false [.sl none (([1000000001, (-1000000001), (-9223372036854775808)]).map eI)]] from (by simp only [eraL_enc (h := eI) er_I])) (wk_spec_l1Cur_among hv6) (show (SV.d false (eraR [.sl (some 3) (([1000000001, (-1000000001), (-9223372036854775808)]).map eI)]) : SV) = .d false [.sl none (([1000000001, (-1000000001), (-9223372036854775808)]).map eI)] from (congrArg (fun z => SV.d false z) (erc_sl (eraL_enc er_I) rfl))))) ?_
   refine b_n ?_
   refine q_n ?_
   refine k_sreg (r_gq [(0, .box (eCu v6.2)), (2, .box [rI v6.1, rI v1.1.2])] [] trivial) ?_
   refine k_ret ?_
   obtain rfl := oi h
   exact ebr [(.p (.agg #[.int .i64 v6.1, .int .i64 v1.1.2]), 2)]
  ·replace h := ite_f hc3_4 h
   refine k_sreg (r_gq [(0, .box (eCu v2.2)), (2, .box [rI 0, rI 0]), (3, .box (eRt v1.1)), (20, .p (.bool (v2.1 == 2)))] [] trivial) ?_
   refine kc (v2.1 == 2) (fun hc3_6 => ?_) (fun hc3_6 => ?_)
   ·replace h := ite_t hc3_6 h
    replace h := bs h
    obtain ⟨v8, hv8, h⟩ := h
    replace h := bs h
    obtain ⟨v9, hv9, h⟩ := h
    refine k_reg (r_gq [(0, .box (eCu v9.2)), (2, .box [rI 0, rI 0]), (3, .box [rI v8.1, rI v9.1])] [(2, {lend := some (some [.d false [.sl none (([2, 0, (-4)]).map eI)]], [.p (iV v8.1)], .box (eCu v8.2), false), fix := some (23, .d false [.sl none (([2, 0, (-4)]).map eI)])}), (5, {lend := some (some [.d false [.sl none (([2, 4, 6]).map eI)]], [.p (iV v9.1)], .box (eCu v9.2), false), fix := some (26, .d false [.sl none (([2, 4, 6]).map eI)])})] (A6 (show ([.d false [.sl none (eraL (([2, 0, (-4)]).map eI))]] : List Arg) = [.d false [.sl none (([2, 0, (-4)]).map eI)]] from (by simp only [eraL_enc (h := eI) er_I])) (wk_spec_l1Cur_among hv8) (show (SV.d false (eraR [.sl (some 3) (([2, 0, (-4)]).map eI)]) : SV) = .d false [.sl none (([2, 0, (-4)]).map eI)] from (congrArg (fun z => SV.d false z) (erc_sl (eraL_enc er_I) rfl))) (show ([.d false [.sl none (eraL (([2, 4, 6]).map eI))]] : List Arg) = [.d false [.sl none (([2, 4, 6]).map eI)]] from (by simp only [eraL_enc (h := eI) er_I])) (wk_spec_l1Cur_among hv9) (show (SV.d false (eraR [.sl (some 3) (([2, 4, 6]).map eI)]) : SV) = .d false [.sl none (([2, 4, 6]).map eI)] from (congrArg (fun z => SV.d false z) (erc_sl (eraL_enc er_I) rfl))))) ?_
    refine b_n ?_
    refine q_n ?_
    refine k_sreg (r_gq [(0, .box (eCu v9.2)), (2, .box [rI v8.1, rI v9.1])] [] trivial) ?_
    refine k_ret ?_
    obtain rfl := oi h
    exact ebr [(.p (.agg #[.int .i64 v8.1, .int .i64 v9.1]), 2)]
   ·replace h := ite_f hc3_6 h
    refine k_skip ?_
    refine b_n ?_
    refine q_n ?_
    refine k_sreg (r_gq [(0, .box (eCu v2.2)), (2, .box (eRt v1.1))] [] trivial) ?_
    refine k_ret ?_
    obtain rfl := oi h
    exact ebr [(.p (vRt v1.1), 2)]
theorem wk_spec_DrawBoundsText {a0 : (List Int)}  {r : Qp} (h : spec_DrawBoundsText a0 = some r) : Meets Tryz.prog 12 [.d false [.sl none (a0.map (eU .u8))]] { vals := [.p (vRt r.1), .p (vRt r.2)] } := by
 refine mo Tryz.func12 [(0, .d false [.sl none (a0.map (eU .u8))])] ?_
 unfold spec_DrawBoundsText at h
 refine k_sreg (r_gq [(0, .d false [.sl none (a0.map (eU .u8))]), (2, .box [rI 0, rI 0]), (3, .box [rI 0, rI 0])] [] trivial) ?_
 refine k_sreg (r_gq [(2, .box [rI 0, rI 0]), (3, .box [rI 0, rI 0]), (4, .addr 9 [(0, 0)]), (9, .box (eCu (a0, 0, 0)))] [] trivial) ?_
 replace h := bs h
 obtain ⟨v1, hv1, h⟩ := h
 replace h := bs h
 obtain ⟨v2, hv2, h⟩ := h
 refine k_sreg (r_gq [(2, .box [rI 0, rI 0]), (3, .box [rI 0, rI 0]), (4, .addr 9 [(0, 0)]), (5, .box (eRt v1.1)), (6, .box (eRt v2.1)), (9, .box (eCu v2.2))] [(1, {lend := some (none, [.p (vRt v1.1)], .box (eCu v1.2), false)}), (3, {lend := some (none, [.p (vRt v2.1)], .box (eCu v2.2), false)})] (A2 (wk_spec_l1Cur_rat hv1) (wk_spec_l1Cur_rat hv2))) ?_
 refine k_seq ?_
 replace h := bs h
 obtain ⟨v3, hv3, h⟩ := h
 replace h := bs h
 obtain ⟨w5, hw5, h⟩ := h
 refine k_sreg (l1 := [(2, .box [rI 0, rI 0]), (3, .box [rI 0, rI 0]), (4, .addr 9 [(0, 0)]), (5, .box (eRt v1.1)), (6, .box (eRt v2.1)), (9, .box (eCu (w5.1, w5.2.1, w5.2.2.1))), (22, .p (.bool w5.2.2.2))]) ?_ ?_
 ·clear h
  rcases ft (decide (v3 > 0)) with ha0 | ha0
  ·replace hw5 := ite_t ha0 hw5
   replace hw5 := bs hw5
   obtain ⟨v4, hv4, hw5⟩ := hw5
   have hw5 := oi hw5
   subst hw5
   exact (r_gq [(2, .box [rI 0, rI 0]), (3, .box [rI 0, rI 0]), (4, .addr 9 [(0, 0)]), (5, .box (eRt v1.1)), (6, .box (eRt v2.1)), (9, .box (eCu v4.2)), (22, .p (.bool (!v4.1)))] [(2, {call := some (none, [.p (iV v3)], true)}), (5, gT), (6, {g := some true, lend := some (none, [.p (.bool v4.1)], .box (eCu v4.2), false)}), (7, gT), (8, bT)] (A6 (wk_spec_raCmp hv3) ha0 ha0 (wk_spec_l1Cur_one hv4) ha0 ha0))
  ·replace hw5 := ite_f ha0 hw5
   have hw5 := oi hw5
   subst hw5
   exact (r_gq [(2, .box [rI 0, rI 0]), (3, .box [rI 0, rI 0]), (4, .addr 9 [(0, 0)]), (5, .box (eRt v1.1)), (6, .box (eRt v2.1)), (9, .box (eCu v2.2)), (22, .p (.bool false))] [(2, {call := some (none, [.p (iV v3)], true)}), (5, gF), (6, gF), (7, gF), (8, bF)] (A5 (wk_spec_raCmp hv3) ha0 ha0 ha0 ha0))
 ·refine kc w5.2.2.2 (fun hc2_5 => ?_) (fun hc2_5 => ?_)
  ·replace h := ite_t hc2_5 h
   refine k_sreg (r_dq Tryz_mixed 3 [(2, 2)] [(2, .box (eRt v2.1)), (3, .box (eRt v1.1))] [] trivial) ?_
   refine k_ret ?_
   refine q_r ?_
   obtain rfl := oi h
   exact er [(.p (vRt v2.1), 2), (.p (vRt v1.1), 3)]
  ·replace h := ite_f hc2_5 h
   refine k_skip ?_
   refine q_n ?_
   refine k_join (J := fun (x : Qr) => [(2, .box [rI 0, rI 0]), (3, .box [rI 0, rI 0]), (5, .box (eRt v1.1)), (6, .box (eRt x))]) (K := fun x => spec_DrawBoundsText_k1 v1 x = some r) (fun x7 h => ?_) ?_
   ·unfold spec_DrawBoundsText_k1 at h
    refine k_sreg (r_dq Tryz_mixed 3 [(2, 2)] [(2, .box (eRt v1.1)), (3, .box (eRt x7))] [] trivial) ?_
    refine k_ret ?_
    obtain rfl := oi h
    exact er [(.p (vRt v1.1), 2), (.p (vRt x7), 3)]
   ·replace h := bs h
    obtain ⟨v8, hv8, h⟩ := h
    refine k_sreg (r_gq [(2, .box [rI 0, rI 0]), (3, .box [rI 0, rI 0]), (4, .addr 9 [(0, 0)]), (5, .box (eRt v1.1)), (6, .box (eRt v2.1)), (9, .box (eCu v8.2)), (26, .p (.bool v8.1))] [(1, {lend := some (none, [.p (.bool v8.1)], .box (eCu v8.2), false)})] (A1 (wk_spec_l1Cur_one hv8))) ?_
    refine kc v8.1 (fun hc2_8 => ?_) (fun hc2_8 => ?_)
    ·replace h := ite_t hc2_8 h
     replace h := bs h
     obtain ⟨v10, hv10, h⟩ := h
     refine k_reg (r_gq [(2, .box [rI 0, rI 0]), (3, .box [rI 0, rI 0]), (5, .box (eRt v1.1)), (6, .box (eRt v10.1))] [(1, {lend := some (none, [.p (vRt v10.1)], .box (eCu v10.2), false)})] (A1 (wk_spec_l1Cur_anyRat hv10))) ?_
     refine q_n ?_
     exact jx v10.1 h
    ·replace h := ite_f hc2_8 h
     refine k_skip ?_
     refine q_n ?_
     exact jx v2.1 h
theorem wk_impl_areRats {a0 : (List Qr)}  {r : Bool} (h : impl_areRats a0 = some r) : Meets Tryz.prog 32 [.d false [.sl none (a0.map eRt)]] { vals := [.p (.bool r)] } := by
 refine mo Tryz.func32 [(0, .d false [.sl none (a0.map eRt)])] ?_
 unfold impl_areRats at h
 refine k_sreg (r_gq [(0, .d false [.sl none (a0.map eRt)])] [] trivial) ?_
 refine k_join (J := fun (x : Unit) => []) (K := fun x => impl_areRats_k1 x = some r) (fun x1 h => ?_) ?_
 ·unfold impl_areRats_k1 at h
  refine k_sreg (r_gq [(2, .p (.bool true))] [] trivial) ?_
  refine k_ret ?_
  obtain rfl := oi h
  exact er [(.p (.bool true), 2)]
 ·refine k_sreg (r_gq [(5, .d false [.sl none (a0.map eRt)]), (6, .p (iV (a0.length : Int))), (7, .p (iV 0))] [(1, {n := some a0.length})] (A1 (show (a0.map eRt).length = a0.length from (List.length_map ..)))) ?_
  refine k_block ?_
  obtain ⟨y3, hl_x2, hk_x2⟩ := bs h
  clear h
  refine k_loop (J := fun (x : Int) => [(5, .d false [.sl none (a0.map eRt)]), (6, .p (iV (a0.length : Int))), (7, .p (iV x))]) hl_x2 (wk_of (by kernel_rfl) (by kernel_rfl)) (fun x2 o_x2 h hy_x2 => ?_)
  unfold impl_areRats_b1 at h
  refine k_sreg (r_gq [(5, .d false [.sl none (a0.map eRt)]), (6, .p (iV (a0.length : Int))), (7, .p (iV x2)), (8, .p (.bool (decide (x2 < (a0.length : Int)))))] [] trivial) ?_
  refine k_seq ?_
  refine kc (decide (x2 < (a0.length : Int))) (fun hc5_3 => ?_) (fun hc5_3 => ?_)
  ·replace h := ite_t hc5_3 h
   refine k_skip ?_
   refine q_n ?_
   refine k_seq ?_
   refine k_block ?_
   replace h := bs h
   obtain ⟨v5, hv5, h⟩ := h
   refine k_sreg (r_gq [(4, .box (eRt v5)), (5, .d false [.sl none (a0.map eRt)]), (6, .p (iV (a0.length : Int))), (7, .p (iV x2))] [(0, {row := some (eRt v5)})] (A2 (idxO_some hv5).1 (map_get eRt (idxO_some hv5).2))) ?_
   replace h := bs h
   obtain ⟨v6, hv6, h⟩ := h
   refine k_sreg (r_gq [(5, .d false [.sl none (a0.map eRt)]), (6, .p (iV (a0.length : Int))), (7, .p (iV x2)), (13, .p (.bool (!v6)))] [(1, {call := some (none, [.p (.bool v6)], true)})] (A1 (wk_impl_isRat hv6))) ?_
   refine kc (!v6) (fun hc6_6 => ?_) (fun hc6_6 => ?_)
   ·replace h := ite_t hc6_6 h
    refine k_sreg (r_gq [(2, .p (.bool false))] [] trivial) ?_
    refine k_ret ?_
    refine b_r ?_
    refine q_r ?_
    refine lq_r ?_
    refine b_r ?_
    refine q_r ?_
    have hyy := hy_x2 _ (oi h).symm
    subst hyy
    have h := hk_x2
    dsimp only [Sum.elim] at h
    obtain rfl := oi h
    exact er [(.p (.bool false), 2)]
   ·replace h := ite_f hc6_6 h
    refine k_skip ?_
    refine b_n ?_
    refine q_n ?_
    refine k_reg (r_gq [(5, .d false [.sl none (a0.map eRt)]), (6, .p (iV (a0.length : Int))), (7, .p (iV (w64 (x2 + 1))))] [] trivial) ?_
    exact lqn (w64 (x2 + 1)) h
  ·replace h := ite_f hc5_3 h
   refine k_exit ?_
   refine q_x ?_
   refine lq_x ?_
   refine b_x ?_
   have hyy := hy_x2 _ (oi h).symm
   subst hyy
   have h := hk_x2
   dsimp only [Sum.elim] at h
   refine q_n ?_
   exact jx () h
end Go.PV
namespace Go.Proofs
open Go.Shelf
def Tryz.laysM171_ren : Go.Shelf.Ren := ⟨fun | 171 => 60 | 243 => 84 | 246 => 90 | 283 => 93 | 284 => 94 | 285 => 95 | 286 => 96 | 129 => 98 | 317 => 97 | 318 => 99 | 319 => 100 | 320 => 101 | 337 => 102 | 338 => 103 | n => n, fun | 3 => 3 | 9 => 9 | 2 => 2 | 4 => 4 | 171 => 99 | 0 => 0 | 53 => 50 | 37 => 22 | 5 => 5 | 173 => 102 | 212 => 105 | 51 => 94 | 20 => 20 | 213 => 106 | 46 => 38 | 232 => 109 | 233 => 110 | n => n, fun | 17 => 0 | 18 => 1 | 19 => 2 | n => n⟩
theorem Tryz.laysM171 : Go.Proofs.LaysM.n171 Tryz.prog Tryz.laysM171_ren := {
 mixed := by kernel_rfl
 f129 := Tryz.func98.trans (congrArg some (by kernel_rfl))
 f171 := Tryz.func60.trans (congrArg some (by kernel_rfl))
 f243 := Tryz.func84.trans (congrArg some (by kernel_rfl))
 f246 := Tryz.func90.trans (congrArg some (by kernel_rfl))
 f283 := Tryz.func93.trans (congrArg some (by kernel_rfl))
 f284 := Tryz.func94.trans (congrArg some (by kernel_rfl))
 f285 := Tryz.func95.trans (congrArg some (by kernel_rfl))
 f286 := Tryz.func96.trans (congrArg some (by kernel_rfl))
 f317 := Tryz.func97.trans (congrArg some (by kernel_rfl))
 f318 := Tryz.func99.trans (congrArg some (by kernel_rfl))
 f319 := Tryz.func100.trans (congrArg some (by kernel_rfl))
 f320 := Tryz.func101.trans (congrArg some (by kernel_rfl))
 f337 := Tryz.func102.trans (congrArg some (by kernel_rfl))
 f338 := Tryz.func103.trans (congrArg some (by kernel_rfl))
 t0 := Tryz.underlying0
 a0 := Tryz.isAgg0
 z0 := Tryz.sizeOf0
 v0 := Tryz.zeroValue0
 t2 := Tryz.underlying2
 a2 := Tryz.isAgg2
 z2 := Tryz.sizeOf2
 v2 := Tryz.zeroValue2
 t3 := Tryz.underlying3
 a3 := Tryz.isAgg3
 z3 := Tryz.sizeOf3
 v3 := Tryz.zeroValue3
 t4 := Tryz.underlying4
 a4 := Tryz.isAgg4
 z4 := Tryz.sizeOf4
 v4 := Tryz.zeroValue4
 t5 := Tryz.underlying5
 a5 := Tryz.isAgg5
 z5 := Tryz.sizeOf5
 v5 := Tryz.zeroValue5
 t9 := Tryz.underlying9
 a9 := Tryz.isAgg9
 z9 := Tryz.sizeOf9
 v9 := Tryz.zeroValue9
 t20 := Tryz.underlying20
 a20 := Tryz.isAgg20
 z20 := Tryz.sizeOf20
 v20 := Tryz.zeroValue20
 t37 := Tryz.underlying22
 a37 := Tryz.isAgg22
 z37 := Tryz.sizeOf22
 v37 := Tryz.zeroValue22
 t46 := Tryz.underlying38
 a46 := Tryz.isAgg38
 z46 := Tryz.sizeOf38
 v46 := Tryz.zeroValue38
 t51 := Tryz.underlying94
 a51 := Tryz.isAgg94
 z51 := Tryz.sizeOf94
 v51 := Tryz.zeroValue94
 t53 := Tryz.underlying50
 a53 := Tryz.isAgg50
 z53 := Tryz.sizeOf50
 v53 := Tryz.zeroValue50
 t171 := Tryz.underlying99
 a171 := Tryz.isAgg99
 z171 := Tryz.sizeOf99
 v171 := Tryz.zeroValue99
 t173 := Tryz.underlying102
 a173 := Tryz.isAgg102
 z173 := Tryz.sizeOf102
 v173 := Tryz.zeroValue102
 t212 := Tryz.underlying105
 a212 := Tryz.isAgg105
 z212 := Tryz.sizeOf105
 v212 := Tryz.zeroValue105
 t213 := Tryz.underlying106
 a213 := Tryz.isAgg106
 z213 := Tryz.sizeOf106
 t232 := Tryz.underlying109
 a232 := Tryz.isAgg109
 z232 := Tryz.sizeOf109
 v232 := Tryz.zeroValue109
 t233 := Tryz.underlying110
 a233 := Tryz.isAgg110
 z233 := Tryz.sizeOf110
 v233 := Tryz.zeroValue110
 g17 := by kernel_rfl
 g18 := by kernel_rfl
 g19 := by kernel_rfl
 i0 := by kernel_rfl
 i2 := by kernel_rfl
 i3 := by kernel_rfl
 i4 := by kernel_rfl
 i5 := by kernel_rfl
 i9 := by kernel_rfl
 i20 := by kernel_rfl
 i37 := by kernel_rfl
 i46 := by kernel_rfl
 i51 := by kernel_rfl
 i53 := by kernel_rfl
 i171 := by kernel_rfl
 i173 := by kernel_rfl
 i212 := by kernel_rfl
 i232 := by kernel_rfl
 i233 := by kernel_rfl
 m17 := by kernel_rfl
 m18 := by kernel_rfl
 m19 := by kernel_rfl }
open Go.RowKit Go.Sort Go.Lib in
theorem Tryz.strconv_Itoa (n : Int) (h0 : -9223372036854775808 ≤ n) (h1 : n ≤ 9223372036854775807) (w : World) (htab : Lib.TabIs Tryz.prog w "internal/strconv.uint64pow10" .u64 Lib.pow10Tab) :
  Calls Tryz.prog 60 #[.int .i64 n] w fun e w' => e = .returned (.string ⟨(Lib.itoa n).toArray⟩) ∧ ∃ k os, w' = grow (w.drewN k) os := Any.strconv_Itoa Tryz.laysM171 n h0 h1 w htab
end Go.Proofs
namespace Go.PV
open Go Go.PV Go.Proofs
theorem wk_strconv_Itoa {a0 : Int} {r : ByteArray} (h : strconv_Itoa a0 = some r) : Meets Tryz.prog 60 [wI a0] { vals := [.p (.string r)] } := by
 unfold strconv_Itoa at h
 obtain ⟨u1, hu1, h⟩ := bind_some' h
 have hg := guardO_some hu1
 obtain rfl := Option.some.inj h
 exact meets_itoa (by kernel_rfl) (by kernel_rfl) fun w hw => Go.Proofs.Tryz.strconv_Itoa a0 hg.1 hg.2 w hw
theorem wk_impl_ratText {a0 : Qr}  {r : ByteArray} (h : impl_ratText a0 = some r) : Meets Tryz.prog 33 [.v (vRt a0)] { vals := [.p (.string r)] } := by
 refine mo Tryz.func33 [(0, .p (vRt a0))] ?_
 unfold impl_ratText at h
 refine k_sreg (r_gq [(1, .box (eRt a0))] [] trivial) ?_
 replace h := bs h
 obtain ⟨v1, hv1, h⟩ := h
 replace h := bs h
 obtain ⟨u2, hu2, h⟩ := h
 replace h := bs h
 obtain ⟨v3, hv3, h⟩ := h
 replace h := bs h
 obtain ⟨u4, hu4, h⟩ := h
 refine k_sreg (r_dq Tryz_mixed 7 [] [(2, .p (.string ((v1 ++ (ByteArray.mk #[47])) ++ v3)))] [(2, {call := some (none, [.p (.string v1)], true)}), (6, {call := some (none, [.p (.string v3)], true)})] (A4 (wk_strconv_Itoa hv1) (guardO_some hu2) (wk_strconv_Itoa hv3) (guardO_some hu4))) ?_
 refine k_ret ?_
 obtain rfl := oi h
 exact er [(.p (.string ((v1 ++ (ByteArray.mk #[47])) ++ v3)), 2)]
theorem wk_impl_BoundsText {a0 : Qr} {a1 : Qr}  {r : (ByteArray × Bool)} (h : impl_BoundsText a0 a1 = some r) : Meets Tryz.prog 13 [.v (vRt a0), .v (vRt a1)] { vals := [.p (.string r.1), .p (.bool r.2)] } := by
 refine mo Tryz.func13 [(0, .p (vRt a0)), (1, .p (vRt a1))] ?_
 unfold impl_BoundsText at h
 refine k_sreg (r_gq [(2, .box (eRt a0)), (3, .box (eRt a1))] [] trivial) ?_
 refine k_seq ?_
 replace h := bs h
 obtain ⟨v1, hv1, h⟩ := h
 replace h := bs h
 obtain ⟨w3, hw3, h⟩ := h
 refine k_sreg (l1 := [(2, .box (eRt a0)), (3, .box (eRt a1)), (15, .p (.bool w3))]) ?_ ?_
 ·clear h
  rcases ft (!v1) with ha0 | ha0
  ·replace hw3 := ite_t ha0 hw3
   have hw3 := oi hw3
   subst hw3
   exact (r_gq [(2, .box (eRt a0)), (3, .box (eRt a1)), (15, .p (.bool true))] [(3, {call := some (some [.d false [.sl none (([a0, a1]).map eRt)]], [.p (.bool v1)], true)}), (6, gT), (7, gT), (8, gT), (9, bT)] (A6 (show ([.d false [.sl none (eraL (([a0, a1]).map eRt))]] : List Arg) = [.d false [.sl none (([a0, a1]).map eRt)]] from (by simp only [eraL_enc (h := eRt) (era_P er_I er_I)])) (wk_impl_areRats hv1) ha0 ha0 ha0 ha0))
  ·replace hw3 := ite_f ha0 hw3
   replace hw3 := bs hw3
   obtain ⟨v2, hv2, hw3⟩ := hw3
   have hw3 := oi hw3
   subst hw3
   exact (r_gq [(2, .box (eRt a0)), (3, .box (eRt a1)), (15, .p (.bool v2))] [(3, {call := some (some [.d false [.sl none (([a0, a1]).map eRt)]], [.p (.bool v1)], true)}), (6, gF), (7, gF), (8, {g := some false, call := some (none, [.p (.bool v2)], true)}), (9, bF)] (B6 (show ([.d false [.sl none (eraL (([a0, a1]).map eRt))]] : List Arg) = [.d false [.sl none (([a0, a1]).map eRt)]] from (by simp only [eraL_enc (h := eRt) (era_P er_I er_I)])) (wk_impl_areRats hv1) ha0 ha0 ha0 (wk_impl_less hv2) (A1 ha0)))
 ·refine kc w3 (fun hc2_3 => ?_) (fun hc2_3 => ?_)
  ·replace h := ite_t hc2_3 h
   refine k_sreg (r_gq [(4, .p (.string ByteArray.empty)), (5, .p (.bool false))] [] trivial) ?_
   refine k_ret ?_
   refine q_r ?_
   obtain rfl := oi h
   exact er [(.p (.string ByteArray.empty), 4), (.p (.bool false), 5)]
  ·replace h := ite_f hc2_3 h
   refine k_skip ?_
   refine q_n ?_
   replace h := bs h
   obtain ⟨v5, hv5, h⟩ := h
   replace h := bs h
   obtain ⟨u6, hu6, h⟩ := h
   replace h := bs h
   obtain ⟨v7, hv7, h⟩ := h
   replace h := bs h
   obtain ⟨u8, hu8, h⟩ := h
   refine k_sreg (r_dq Tryz_mixed 5 [] [(4, .p (.string ((v5 ++ (ByteArray.mk #[46, 46])) ++ v7))), (5, .p (.bool true))] [(1, {call := some (none, [.p (.string v5)], true)}), (4, {call := some (none, [.p (.string v7)], true)})] (A4 (wk_impl_ratText hv5) (guardO_some hu6) (wk_impl_ratText hv7) (guardO_some hu8))) ?_
   refine k_ret ?_
   obtain rfl := oi h
   exact er [(.p (.string ((v5 ++ (ByteArray.mk #[46, 46])) ++ v7)), 4), (.p (.bool true), 5)]
theorem wk_spec_l1Num_r {rc : (Int → Option ByteArray)} {a0 : Int} (hrc : ∀ x0 y, rc x0 = some y → Meets Tryz.prog 64 [wI x0] { vals := [.p (.string y)] }) {r : ByteArray} (h : spec_l1Num_r rc a0 = some r) : Meets Tryz.prog 64 [wI a0] { vals := [.p (.string r)] } := by
 refine mo Tryz.func64 [(0, .p (iV a0))] ?_
 unfold spec_l1Num_r at h
 refine k_sreg (r_gq [(0, .p (iV a0))] [] trivial) ?_
 refine k_seq ?_
 refine k_sreg (r_gq [(0, .p (iV a0)), (4, .p (.bool (decide (a0 < 10))))] [] trivial) ?_
 refine kc (decide (a0 < 10)) (fun hc2_0 => ?_) (fun hc2_0 => ?_)
 ·replace h := ite_t hc2_0 h
  refine k_sreg (r_gq [(2, .p (.string (byteB (IntKind.wrap .u8 (w64 (48 + a0))))))] [(2, {pv := some (.int .u8 (IntKind.wrap .u8 (w64 (48 + a0))))}), (4, {bts := some [UInt8.ofNat (Int.toNat (IntKind.wrap .u8 (w64 (48 + a0))))]})] (A2 (show PureAt Tryz.prog (.convert 3 5 (.tmp 6)) [.int .i64 (w64 (48 + a0))] (.int .u8 (IntKind.wrap .u8 (w64 (48 + a0)))) from (pure_conv Tryz_und3 Tryz_und5)) (show ([UInt8.ofNat (Int.toNat (IntKind.wrap .u8 (w64 (48 + a0))))] ≠ [] ∧ [[C.raw (.int .u8 (IntKind.wrap .u8 (w64 (48 + a0))))]] = [UInt8.ofNat (Int.toNat (IntKind.wrap .u8 (w64 (48 + a0))))].map fun c => [C.raw (.int .u8 (c.toNat : Int))]) from bts1))) ?_
  refine k_ret ?_
  refine q_r ?_
  obtain rfl := oi h
  exact er [(.p (.string (byteB (IntKind.wrap .u8 (w64 (48 + a0))))), 2)]
 ·replace h := ite_f hc2_0 h
  refine k_skip ?_
  refine q_n ?_
  replace h := bs h
  obtain ⟨v2, hv2, h⟩ := h
  replace h := bs h
  obtain ⟨u3, hu3, h⟩ := h
  refine k_sreg (r_dq Tryz_mixed 9 [] [(2, .p (.string (v2 ++ (byteB (IntKind.wrap .u8 (w64 (48 + (Int.tmod a0 10))))))))] [(2, {call := some (none, [.p (.string v2)], true)}), (6, {pv := some (.int .u8 (IntKind.wrap .u8 (w64 (48 + (Int.tmod a0 10)))))}), (8, {bts := some [UInt8.ofNat (Int.toNat (IntKind.wrap .u8 (w64 (48 + (Int.tmod a0 10)))))]})] (A6 (show 10 ≠ (0 : Int) from (by decide)) (hrc _ _ hv2) (show 10 ≠ (0 : Int) from (by decide)) (show PureAt Tryz.prog (.convert 3 5 (.tmp 15)) [.int .i64 (w64 (48 + (Int.tmod a0 10)))] (.int .u8 (IntKind.wrap .u8 (w64 (48 + (Int.tmod a0 10))))) from (pure_conv Tryz_und3 Tryz_und5)) (show ([UInt8.ofNat (Int.toNat (IntKind.wrap .u8 (w64 (48 + (Int.tmod a0 10)))))] ≠ [] ∧ [[C.raw (.int .u8 (IntKind.wrap .u8 (w64 (48 + (Int.tmod a0 10)))))]] = [UInt8.ofNat (Int.toNat (IntKind.wrap .u8 (w64 (48 + (Int.tmod a0 10)))))].map fun c => [C.raw (.int .u8 (c.toNat : Int))]) from bts1) (guardO_some hu3))) ?_
  refine k_ret ?_
  obtain rfl := oi h
  exact er [(.p (.string (v2 ++ (byteB (IntKind.wrap .u8 (w64 (48 + (Int.tmod a0 10))))))), 2)]
theorem wk_spec_l1Num_f : ∀ (k : Nat) {a0 : Int} {r : ByteArray} (h : spec_l1Num_f k a0 = some r), Meets Tryz.prog 64 [wI a0] { vals := [.p (.string r)] }
 | 0, _, _, h => by cases h
 | k + 1, _, _, h => wk_spec_l1Num_r (fun _ _ hy => wk_spec_l1Num_f k hy) h
theorem wk_spec_l1Num {a0 : Int} {r : ByteArray} (h : spec_l1Num a0 = some r) : Meets Tryz.prog 64 [wI a0] { vals := [.p (.string r)] } := by
 obtain ⟨k, hk⟩ := fuelO_some h
 exact wk_spec_l1Num_f k hk
theorem wk_spec_l1Int {a0 : Int}  {r : ByteArray} (h : spec_l1Int a0 = some r) : Meets Tryz.prog 63 [wI a0] { vals := [.p (.string r)] } := by
 refine mo Tryz.func63 [(0, .p (iV a0))] ?_
 unfold spec_l1Int at h
 refine k_sreg (r_gq [(0, .p (iV a0))] [] trivial) ?_
 refine k_seq ?_
 refine k_sreg (r_gq [(0, .p (iV a0)), (4, .p (.bool (decide (a0 < 0))))] [] trivial) ?_
 refine kc (decide (a0 < 0)) (fun hc2_0 => ?_) (fun hc2_0 => ?_)
 ·replace h := ite_t hc2_0 h
  replace h := bs h
  obtain ⟨v2, hv2, h⟩ := h
  replace h := bs h
  obtain ⟨u3, hu3, h⟩ := h
  refine k_sreg (r_gq [(2, .p (.string ((ByteArray.mk #[45]) ++ v2)))] [(2, {call := some (none, [.p (.string v2)], true)})] (A2 (wk_spec_l1Num hv2) (guardO_some hu3))) ?_
  refine k_ret ?_
  refine q_r ?_
  obtain rfl := oi h
  exact er [(.p (.string ((ByteArray.mk #[45]) ++ v2)), 2)]
 ·replace h := ite_f hc2_0 h
  refine k_skip ?_
  refine q_n ?_
  replace h := bs h
  obtain ⟨v4, hv4, h⟩ := h
  refine k_sreg (r_gq [(2, .p (.string v4))] [(1, {call := some (none, [.p (.string v4)], true)})] (A1 (wk_spec_l1Num hv4))) ?_
  refine k_ret ?_
  obtain rfl := oi h
  exact er [(.p (.string v4), 2)]
theorem wk_spec_raText {a0 : Qr}  {r : ByteArray} (h : spec_raText a0 = some r) : Meets Tryz.prog 35 [.v (vRt a0)] { vals := [.p (.string r)] } := by
 refine mo Tryz.func35 [(0, .p (vRt a0))] ?_
 unfold spec_raText at h
 refine k_sreg (r_gq [(1, .box (eRt a0))] [] trivial) ?_
 replace h := bs h
 obtain ⟨v1, hv1, h⟩ := h
 replace h := bs h
 obtain ⟨u2, hu2, h⟩ := h
 replace h := bs h
 obtain ⟨v3, hv3, h⟩ := h
 replace h := bs h
 obtain ⟨u4, hu4, h⟩ := h
 refine k_sreg (r_dq Tryz_mixed 7 [] [(2, .p (.string ((v1 ++ (ByteArray.mk #[47])) ++ v3)))] [(2, {call := some (none, [.p (.string v1)], true)}), (6, {call := some (none, [.p (.string v3)], true)})] (A4 (wk_spec_l1Int hv1) (guardO_some hu2) (wk_spec_l1Num hv3) (guardO_some hu4))) ?_
 refine k_ret ?_
 obtain rfl := oi h
 exact er [(.p (.string ((v1 ++ (ByteArray.mk #[47])) ++ v3)), 2)]
theorem wk_spec_BoundsText {a0 : Qr} {a1 : Qr}  {r : (ByteArray × Bool)} (h : spec_BoundsText a0 a1 = some r) : Meets Tryz.prog 14 [.v (vRt a0), .v (vRt a1)] { vals := [.p (.string r.1), .p (.bool r.2)] } := by
 refine mo Tryz.func14 [(0, .p (vRt a0)), (1, .p (vRt a1))] ?_
 unfold spec_BoundsText at h
 refine k_sreg (r_gq [(2, .box (eRt a0)), (3, .box (eRt a1))] [] trivial) ?_
 refine k_seq ?_
 replace h := bs h
 obtain ⟨v1, hv1, h⟩ := h
 replace h := bs h
 obtain ⟨w4, hw4, h⟩ := h
 refine k_sreg (l1 := [(2, .box (eRt a0)), (3, .box (eRt a1)), (19, .p (.bool w4))]) ?_ ?_
 ·clear h
  rcases ft (!v1) with ha0 | ha0
  ·replace hw4 := ite_t ha0 hw4
   have hw4 := oi hw4
   subst hw4
   exact (r_gq [(2, .box (eRt a0)), (3, .box (eRt a1)), (19, .p (.bool true))] [(1, {call := some (none, [.p (.bool v1)], true)}), (4, gT), (5, gT), (6, gT), (7, bT), (9, gT), (10, gT), (11, gT), (12, gT), (13, bT)] (B6 (wk_spec_raGood hv1) ha0 ha0 ha0 ha0 (show true = true from rfl) (A4 (show true = true from rfl) (show true = true from rfl) (show true = true from rfl) (show true = true from rfl))))
  ·replace hw4 := ite_f ha0 hw4
   replace hw4 := bs hw4
   obtain ⟨v2, hv2, hw4⟩ := hw4
   rcases ft (!v2) with ha1 | ha1
   ·replace hw4 := ite_t ha1 hw4
    have hw4 := oi hw4
    subst hw4
    exact (r_gq [(2, .box (eRt a0)), (3, .box (eRt a1)), (19, .p (.bool true))] [(1, {call := some (none, [.p (.bool v1)], true)}), (4, gF), (5, {g := some false, call := some (none, [.p (.bool v2)], true)}), (6, gF), (7, bF), (9, gT), (10, gT), (11, gT), (12, gT), (13, bT)] (B6 (wk_spec_raGood hv1) ha0 ha0 (wk_spec_raGood hv2) ha0 ha0 (A5 ha1 ha1 ha1 ha1 ha1)))
   ·replace hw4 := ite_f ha1 hw4
    replace hw4 := bs hw4
    obtain ⟨v3, hv3, hw4⟩ := hw4
    have hw4 := oi hw4
    subst hw4
    exact (r_gq [(2, .box (eRt a0)), (3, .box (eRt a1)), (19, .p (.bool (decide (v3 > 0))))] [(1, {call := some (none, [.p (.bool v1)], true)}), (4, gF), (5, {g := some false, call := some (none, [.p (.bool v2)], true)}), (6, gF), (7, bF), (9, gF), (10, gF), (11, {g := some false, call := some (none, [.p (iV v3)], true)}), (12, gF), (13, bF)] (B6 (wk_spec_raGood hv1) ha0 ha0 (wk_spec_raGood hv2) ha0 ha0 (A6 ha1 ha1 ha1 (wk_spec_raCmp hv3) ha1 ha1)))
 ·refine kc w4 (fun hc2_4 => ?_) (fun hc2_4 => ?_)
  ·replace h := ite_t hc2_4 h
   refine k_sreg (r_gq [(4, .p (.string ByteArray.empty)), (5, .p (.bool false))] [] trivial) ?_
   refine k_ret ?_
   refine q_r ?_
   obtain rfl := oi h
   exact er [(.p (.string ByteArray.empty), 4), (.p (.bool false), 5)]
  ·replace h := ite_f hc2_4 h
   refine k_skip ?_
   refine q_n ?_
   replace h := bs h
   obtain ⟨v6, hv6, h⟩ := h
   replace h := bs h
   obtain ⟨u7, hu7, h⟩ := h
   replace h := bs h
   obtain ⟨v8, hv8, h⟩ := h
   replace h := bs h
   obtain ⟨u9, hu9, h⟩ := h
   refine k_sreg (r_dq Tryz_mixed 5 [] [(4, .p (.string ((v6 ++ (ByteArray.mk #[46, 46])) ++ v8))), (5, .p (.bool true))] [(1, {call := some (none, [.p (.string v6)], true)}), (4, {call := some (none, [.p (.string v8)], true)})] (A4 (wk_spec_raText hv6) (guardO_some hu7) (wk_spec_raText hv8) (guardO_some hu9))) ?_
   refine k_ret ?_
   obtain rfl := oi h
   exact er [(.p (.string ((v6 ++ (ByteArray.mk #[46, 46])) ++ v8)), 4), (.p (.bool true), 5)]
theorem wk_slices_IndexFunc_LLint_Lint_v {a0 : (List (List Int))} {a1 : ((List Int) → Option Bool)} {F1 : FuncId} (hp1 : ∀ x0 y, a1 x0 = some y → Meets Tryz.prog F1 ([.d false [.sl none (x0.map eI)]] ++ []) { vals := [.p (.bool y)] }) {r : Int} (h : slices_IndexFunc_LLint_Lint a0 a1 = some r) : Meets Tryz.prog 65 [.d false [.sl none (a0.map (eF eI))], .v (.func (.func F1) #[] #[])] { vals := [.p (iV r)] } := by
 refine mo Tryz.func65 [(0, .d false [.sl none (a0.map (eF eI))]), (1, .p (.func (.func F1) #[] #[]))] ?_
 unfold slices_IndexFunc_LLint_Lint at h
 refine k_sreg (r_gq [(0, .d false [.sl none (a0.map (eF eI))]), (1, .p (.func (.func F1) #[] #[]))] [] trivial) ?_
 refine k_join (J := fun (x : Unit) => []) (K := fun x => slices_IndexFunc_LLint_Lint_k1 x = some r) (fun x1 h => ?_) ?_
 ·unfold slices_IndexFunc_LLint_Lint_k1 at h
  refine k_sreg (r_gq [(4, .p (iV (-1)))] [] trivial) ?_
  refine k_ret ?_
  obtain rfl := oi h
  exact er [(.p (iV (-1)), 4)]
 ·refine k_sreg (r_gq [(0, .d false [.sl none (a0.map (eF eI))]), (1, .p (.func (.func F1) #[] #[])), (7, .p (iV (a0.length : Int))), (8, .p (iV 0))] [(1, {n := some a0.length})] (A1 (show (a0.map (eF eI)).length = a0.length from (List.length_map ..)))) ?_
  refine k_block ?_
  obtain ⟨y3, hl_x2, hk_x2⟩ := bs h
  clear h
  refine k_loop (J := fun (x : Int) => [(0, .d false [.sl none (a0.map (eF eI))]), (1, .p (.func (.func F1) #[] #[])), (7, .p (iV (a0.length : Int))), (8, .p (iV x))]) hl_x2 (wk_of (by kernel_rfl) (by kernel_rfl)) (fun x2 o_x2 h hy_x2 => ?_)
  unfold slices_IndexFunc_LLint_Lint_b1 at h
  refine k_sreg (r_gq [(0, .d false [.sl none (a0.map (eF eI))]), (1, .p (.func (.func F1) #[] #[])), (7, .p (iV (a0.length : Int))), (8, .p (iV x2)), (9, .p (.bool (decide (x2 < (a0.length : Int)))))] [] trivial) ?_
  refine k_seq ?_
  refine kc (decide (x2 < (a0.length : Int))) (fun hc5_3 => ?_) (fun hc5_3 => ?_)
  ·replace h := ite_t hc5_3 h
   refine k_skip ?_
   refine q_n ?_
   refine k_seq ?_
   refine k_block ?_
   refine k_sreg (r_gq [(0, .d false [.sl none (a0.map (eF eI))]), (1, .p (.func (.func F1) #[] #[])), (5, .p (iV x2)), (7, .p (iV (a0.length : Int))), (8, .p (iV x2))] [] trivial) ?_
   replace h := bs h
   obtain ⟨v5, hv5, h⟩ := h
   replace h := bs h
   obtain ⟨v6, hv6, h⟩ := h
   refine k_sreg (r_gq [(0, .d false [.sl none (a0.map (eF eI))]), (1, .p (.func (.func F1) #[] #[])), (5, .p (iV x2)), (7, .p (iV (a0.length : Int))), (8, .p (iV x2)), (16, .p (.bool v6))] [(3, {row := some [.sl none (v5.map eI)]}), (5, {call := some (none, [.p (.bool v6)], true)})] (A3 (idxO_some hv5).1 (map_get (eF eI) (idxO_some hv5).2) (hp1 _ _ hv6))) ?_
   refine kc v6 (fun hc6_6 => ?_) (fun hc6_6 => ?_)
   ·replace h := ite_t hc6_6 h
    refine k_sreg (r_gq [(4, .p (iV x2))] [] trivial) ?_
    refine k_ret ?_
    refine b_r ?_
    refine q_r ?_
    refine lq_r ?_
    refine b_r ?_
    refine q_r ?_
    have hyy := hy_x2 _ (oi h).symm
    subst hyy
    have h := hk_x2
    dsimp only [Sum.elim] at h
    obtain rfl := oi h
    exact er [(.p (iV x2), 4)]
   ·replace h := ite_f hc6_6 h
    refine k_skip ?_
    refine b_n ?_
    refine q_n ?_
    refine k_reg (r_gq [(0, .d false [.sl none (a0.map (eF eI))]), (1, .p (.func (.func F1) #[] #[])), (7, .p (iV (a0.length : Int))), (8, .p (iV (w64 (x2 + 1))))] [] trivial) ?_
    exact lqn (w64 (x2 + 1)) h
  ·replace h := ite_f hc5_3 h
   refine k_exit ?_
   refine q_x ?_
   refine lq_x ?_
   refine b_x ?_
   have hyy := hy_x2 _ (oi h).symm
   subst hyy
   have h := hk_x2
   dsimp only [Sum.elim] at h
   refine q_n ?_
   exact jx () h
theorem wk_slices_ContainsFunc_LLint_Lint_v {a0 : (List (List Int))} {a1 : ((List Int) → Option Bool)} {F1 : FuncId} (hp1 : ∀ x0 y, a1 x0 = some y → Meets Tryz.prog F1 ([.d false [.sl none (x0.map eI)]] ++ []) { vals := [.p (.bool y)] }) {r : Bool} (h : slices_ContainsFunc_LLint_Lint a0 a1 = some r) : Meets Tryz.prog 36 [.d false [.sl none (a0.map (eF eI))], .v (.func (.func F1) #[] #[])] { vals := [.p (.bool r)] } := by
 refine mo Tryz.func36 [(0, .d false [.sl none (a0.map (eF eI))]), (1, .p (.func (.func F1) #[] #[]))] ?_
 unfold slices_ContainsFunc_LLint_Lint at h
 refine k_sreg (r_gq [(0, .d false [.sl none (a0.map (eF eI))]), (1, .p (.func (.func F1) #[] #[]))] [] trivial) ?_
 replace h := bs h
 obtain ⟨v1, hv1, h⟩ := h
 refine k_sreg (r_gq [(4, .p (.bool (decide (v1 ≥ 0))))] [(2, {call := some (none, [.p (iV v1)], true)})] (A1 (show Meets Tryz.prog 65 ([.d false [.sl none (a0.map (eF eI))], .v (.func (.func F1) #[] #[])] ++ []) { vals := [.p (iV v1)] } from (wk_slices_IndexFunc_LLint_Lint_v hp1 hv1)))) ?_
 refine k_ret ?_
 obtain rfl := oi h
 exact er [(.p (.bool (decide (v1 ≥ 0))), 4)]
theorem wk_slices_Max_Lint_int {a0 : (List Int)}  {r : Int} (h : slices_Max_Lint_int a0 = some r) : Meets Tryz.prog 38 [.d false [.sl none (a0.map eI)]] { vals := [.p (iV r)] } := by
 refine mo Tryz.func38 [(0, .d false [.sl none (a0.map eI)])] ?_
 unfold slices_Max_Lint_int at h
 refine k_sreg (r_gq [(0, .d false [.sl none (a0.map eI)])] [] trivial) ?_
 refine k_join (J := fun (x : Unit) => [(0, .d false [.sl none (a0.map eI)])]) (K := fun x => slices_Max_Lint_int_k1 a0 x = some r) (fun x1 h => ?_) ?_
 ·unfold slices_Max_Lint_int_k1 at h
  replace h := bs h
  obtain ⟨v2, hv2, h⟩ := h
  refine k_sreg (r_gq [(0, .d false [.sl none (a0.map eI)]), (3, .p (iV v2))] [(1, {row := some (eI v2)})] (A2 (idxO_some hv2).1 (map_get eI (idxO_some hv2).2))) ?_
  refine k_join (J := fun (x : Int) => [(3, .p (iV x))]) (K := fun x => slices_Max_Lint_int_k2 x = some r) (fun x3 h => ?_) ?_
  ·unfold slices_Max_Lint_int_k2 at h
   refine k_sreg (r_gq [(2, .p (iV x3))] [] trivial) ?_
   refine k_ret ?_
   obtain rfl := oi h
   exact er [(.p (iV x3), 2)]
  ·refine k_sreg (r_gq [(0, .d false [.sl none (a0.map eI)]), (3, .p (iV v2)), (4, .p (iV 1))] [] trivial) ?_
   refine k_block ?_
   obtain ⟨y5, hl_x4, hk_x4⟩ := bs h
   clear h
   refine k_loop (J := fun (x : Qr) => [(0, .d false [.sl none (a0.map eI)]), (3, .p (iV x.1)), (4, .p (iV x.2))]) hl_x4 (wk_of (by kernel_rfl) (by kernel_rfl)) (fun x4 o_x4 h hy_x4 => ?_)
   unfold slices_Max_Lint_int_b1 at h
   refine k_seq ?_
   refine k_sreg (r_gq [(0, .d false [.sl none (a0.map eI)]), (3, .p (iV x4.1)), (4, .p (iV x4.2)), (15, .p (.bool (decide (x4.2 < (a0.length : Int)))))] [(2, {n := some a0.length})] (A1 (show (a0.map eI).length = a0.length from (List.length_map ..)))) ?_
   refine kc (decide (x4.2 < (a0.length : Int))) (fun hc5_5 => ?_) (fun hc5_5 => ?_)
   ·replace h := ite_t hc5_5 h
    refine k_skip ?_
    refine q_n ?_
    refine k_seq ?_
    refine k_block ?_
    replace h := bs h
    obtain ⟨v7, hv7, h⟩ := h
    refine k_reg (r_gq [(0, .d false [.sl none (a0.map eI)]), (3, .p (iV (if x4.1 < v7 then v7 else x4.1))), (4, .p (iV x4.2))] [(3, {row := some (eI v7)})] (A2 (idxO_some hv7).1 (map_get eI (idxO_some hv7).2))) ?_
    refine b_n ?_
    refine q_n ?_
    refine k_reg (r_gq [(0, .d false [.sl none (a0.map eI)]), (3, .p (iV (if x4.1 < v7 then v7 else x4.1))), (4, .p (iV (w64 (x4.2 + 1))))] [] trivial) ?_
    exact lqn ((if x4.1 < v7 then v7 else x4.1), (w64 (x4.2 + 1))) h
   ·replace h := ite_f hc5_5 h
    refine k_exit ?_
    refine q_x ?_
    refine lq_x ?_
    refine b_x ?_
    have hyy := hy_x4 _ (oi h).symm
    subst hyy
    have h := hk_x4
    refine q_n ?_
    exact jx x4.1 h
 ·refine k_sreg (r_gq [(0, .d false [.sl none (a0.map eI)]), (7, .p (.bool (decide ((a0.length : Int) < 1))))] [(1, {n := some a0.length})] (A1 (show (a0.map eI).length = a0.length from (List.length_map ..)))) ?_
  refine kc (decide ((a0.length : Int) < 1)) (fun hc2_7 => ?_) (fun hc2_7 => ?_)
  ·replace h := ite_t hc2_7 h
   cases h
  ·replace h := ite_f hc2_7 h
   refine k_skip ?_
   refine q_n ?_
   exact jx () h
theorem wk_impl_PowerOf_1 {a0 : (List Int)}  {r : Bool} (h : impl_PowerOf_1 a0 = some r) : Meets Tryz.prog 37 [.d false [.sl none (a0.map eI)]] { vals := [.p (.bool r)] } := by
 refine mo Tryz.func37 [(0, .d false [.sl none (a0.map eI)])] ?_
 unfold impl_PowerOf_1 at h
 refine k_sreg (r_gq [(0, .d false [.sl none (a0.map eI)])] [] trivial) ?_
 replace h := bs h
 obtain ⟨v1, hv1, h⟩ := h
 refine k_sreg (r_gq [(2, .p (.bool (decide (v1 > 1000000000))))] [(1, {call := some (none, [.p (iV v1)], true)})] (A1 (wk_slices_Max_Lint_int hv1))) ?_
 refine k_ret ?_
 obtain rfl := oi h
 exact er [(.p (.bool (decide (v1 > 1000000000))), 2)]
theorem wk_impl_PowerOf {a0 : (List (List Int))} {a1 : Int}  {r : ((List (List Int)) × Bool)} (h : impl_PowerOf a0 a1 = some r) : Meets Tryz.prog 15 [.d false [.sl none (a0.map (eF eI))], wI a1] { vals := [.ov false [.sl (some 42) (r.1.map (eO 3 eI))], .p (.bool r.2)] } := by
 refine mo Tryz.func15 [(0, .d false [.sl none (a0.map (eF eI))]), (1, .p (iV a1))] ?_
 unfold impl_PowerOf at h
 refine k_sreg (r_gq [(0, .d false [.sl none (a0.map (eF eI))]), (1, .p (iV a1))] [] trivial) ?_
 refine k_seq ?_
 replace h := bs h
 obtain ⟨v1, hv1, h⟩ := h
 refine k_sreg (r_gq [(0, .d false [.sl none (a0.map (eF eI))]), (1, .p (iV a1)), (10, .p (.bool (!v1)))] [(2, {call := some (none, [.p (.bool v1)], true)})] (A1 (wk_impl_isWalk hv1))) ?_
 refine kc (!v1) (fun hc2_1 => ?_) (fun hc2_1 => ?_)
 ·replace h := ite_t hc2_1 h
  refine k_sreg (r_gq [(4, .ov false [.sl (some 42) []]), (5, .p (.bool false))] [] trivial) ?_
  refine k_ret ?_
  refine q_r ?_
  obtain rfl := oi h
  exact er [(.ov false [.sl (some 42) []], 4), (.p (.bool false), 5)]
 ·replace h := ite_f hc2_1 h
  refine k_skip ?_
  refine q_n ?_
  replace h := bs h
  obtain ⟨v3, hv3, h⟩ := h
  refine k_sreg (r_gq [(6, .ov false [.sl (some 42) (v3.map (eO 3 eI))])] [(2, {call := some (none, [.ov false [.sl (some 42) (v3.map (eO 3 eI))]], true)})] (A2 (wk_impl_power hv3) (show List.all [.ov false [.sl (some 42) (v3.map (eO 3 eI))]] simpleR = true from (sa_o (wnR1 (wnL_enc (wn_O wn_I)) rfl) rfl)))) ?_
  refine k_seq ?_
  replace h := bs h
  obtain ⟨v4, hv4, h⟩ := h
  refine k_sreg (r_gq [(6, .ov false [.sl (some 42) (v3.map (eO 3 eI))]), (15, .p (.bool v4))] [(1, {call := some (some [.d false [.sl none (v3.map (eF eI))], .v (.func (.func 37) #[] #[])], [.p (.bool v4)], true)})] (A2 (show ([.d false [.sl none (eraL (v3.map (eO 3 eI)))], .v (.func (.func 37) #[] #[])] : List Arg) = [.d false [.sl none (v3.map (eF eI))], .v (.func (.func 37) #[] #[])] from (by simp only [eraL_enc (h := (eF eI)) (era_O er_I)])) (show Meets Tryz.prog 36 ([.d false [.sl none (v3.map (eF eI))], .v (.func (.func 37) #[] #[])] ++ []) { vals := [.p (.bool v4)] } from (wk_slices_ContainsFunc_LLint_Lint_v (fun x0 y hy => wk_impl_PowerOf_1 hy) hv4)))) ?_
  refine kc v4 (fun hc2_4 => ?_) (fun hc2_4 => ?_)
  ·replace h := ite_t hc2_4 h
   refine k_sreg (r_gq [(4, .ov false [.sl (some 42) []]), (5, .p (.bool false))] [] trivial) ?_
   refine k_ret ?_
   refine q_r ?_
   obtain rfl := oi h
   exact er [(.ov false [.sl (some 42) []], 4), (.p (.bool false), 5)]
  ·replace h := ite_f hc2_4 h
   refine k_skip ?_
   refine q_n ?_
   refine k_sreg (r_gq [(4, .ov false [.sl (some 42) (v3.map (eO 3 eI))]), (5, .p (.bool true))] [] trivial) ?_
   refine k_ret ?_
   obtain rfl := oi h
   exact er [(.ov false [.sl (some 42) (v3.map (eO 3 eI))], 4), (.p (.bool true), 5)]
theorem wk_spec_PowerOf {a0 : (List (List Int))} {a1 : Int}  {r : ((List (List Int)) × Bool)} (h : spec_PowerOf a0 a1 = some r) : Meets Tryz.prog 16 [.d false [.sl none (a0.map (eF eI))], wI a1] { vals := [.d false [.sl none (r.1.map (eF eI))], .p (.bool r.2)] } := by
 refine mo Tryz.func16 [(0, .d false [.sl none (a0.map (eF eI))]), (1, .p (iV a1))] ?_
 unfold spec_PowerOf at h
 refine k_sreg (r_gq [(0, .d false [.sl none (a0.map (eF eI))]), (1, .p (iV a1))] [(1, {pre := some (4, .d false [.sl none []])})] (A1 (show (SV.d false (eraR [.sl (some 42) []]) : SV) = .d false [.sl none []] from (congrArg (fun z => SV.d false z) (erc_sl rfl rfl))))) ?_
 refine k_seq ?_
 replace h := bs h
 obtain ⟨v1, hv1, h⟩ := h
 replace h := bs h
 obtain ⟨w3, hw3, h⟩ := h
 refine k_sreg (l1 := [(0, .d false [.sl none (a0.map (eF eI))]), (1, .p (iV a1)), (16, .p (.bool w3))]) ?_ ?_
 ·clear h
  rcases ft (!v1) with ha0 | ha0
  ·replace hw3 := ite_t ha0 hw3
   have hw3 := oi hw3
   subst hw3
   exact (r_gq [(0, .d false [.sl none (a0.map (eF eI))]), (1, .p (iV a1)), (16, .p (.bool true))] [(1, {call := some (none, [.p (.bool v1)], true)}), (4, gT), (5, gT), (6, gT), (7, bT)] (A5 (wk_spec_grGood hv1) ha0 ha0 ha0 ha0))
  ·replace hw3 := ite_f ha0 hw3
   replace hw3 := bs hw3
   obtain ⟨v2, hv2, hw3⟩ := hw3
   have hw3 := oi hw3
   subst hw3
   exact (r_gq [(0, .d false [.sl none (a0.map (eF eI))]), (1, .p (iV a1)), (16, .p (.bool (!v2)))] [(1, {call := some (none, [.p (.bool v1)], true)}), (4, gF), (5, {g := some false, call := some (none, [.p (.bool v2)], true)}), (6, gF), (7, bF)] (A6 (wk_spec_grGood hv1) ha0 ha0 (wk_spec_grSteps hv2) ha0 ha0))
 ·refine kc w3 (fun hc2_3 => ?_) (fun hc2_3 => ?_)
  ·replace h := ite_t hc2_3 h
   refine k_sreg (r_gq [(4, .d false [.sl none []]), (5, .p (.bool false))] [(1, {pre := some (4, .d false [.sl none []])})] (A1 (show (SV.d false (eraR [.sl (some 42) []]) : SV) = .d false [.sl none []] from (congrArg (fun z => SV.d false z) (erc_sl rfl rfl))))) ?_
   refine k_ret ?_
   refine q_r ?_
   obtain rfl := oi h
   exact er [(.d false [.sl none []], 4), (.p (.bool false), 5)]
  ·replace h := ite_f hc2_3 h
   refine k_skip ?_
   refine q_n ?_
   replace h := bs h
   obtain ⟨v5, hv5, h⟩ := h
   refine k_sreg (r_gq [(6, .d false [.sl none (v5.map (eF eI))])] [(2, {call := some (none, [.ov false [.sl (some 42) (v5.map (eO 3 eI))]], true)}), (3, {pre := some (19, .d false [.sl none (v5.map (eF eI))])})] (A3 (wk_spec_grPower hv5) (show List.all [.ov false [.sl (some 42) (v5.map (eO 3 eI))]] simpleR = true from (sa_o (wnR1 (wnL_enc (wn_O wn_I)) rfl) rfl)) (show (SV.d false (eraR [.sl (some 42) (v5.map (eO 3 eI))]) : SV) = .d false [.sl none (v5.map (eF eI))] from (congrArg (fun z => SV.d false z) (erc_sl (eraL_enc (era_O er_I)) rfl))))) ?_
   refine k_join (J := fun (x : Unit) => [(6, .d false [.sl none (v5.map (eF eI))])]) (K := fun x => spec_PowerOf_k1 v5 x = some r) (fun x6 h => ?_) ?_
   ·unfold spec_PowerOf_k1 at h
    refine k_sreg (r_gq [(4, .d false [.sl none (v5.map (eF eI))]), (5, .p (.bool true))] [] trivial) ?_
    refine k_ret ?_
    obtain rfl := oi h
    exact er [(.d false [.sl none (v5.map (eF eI))], 4), (.p (.bool true), 5)]
   ·refine k_sreg (r_gq [(6, .d false [.sl none (v5.map (eF eI))]), (20, .d false [.sl none (v5.map (eF eI))]), (21, .p (iV (v5.length : Int))), (22, .p (iV 0))] [(1, {n := some v5.length})] (A1 (show (v5.map (eF eI)).length = v5.length from (List.length_map ..)))) ?_
    refine k_block ?_
    obtain ⟨y8, hl_x7, hk_x7⟩ := bs h
    clear h
    refine k_loop (J := fun (x : Int) => [(6, .d false [.sl none (v5.map (eF eI))]), (20, .d false [.sl none (v5.map (eF eI))]), (21, .p (iV (v5.length : Int))), (22, .p (iV x))]) hl_x7 (wk_of (by kernel_rfl) (by kernel_rfl)) (fun x7 o_x7 h hy_x7 => ?_)
    unfold spec_PowerOf_b1 at h
    refine k_sreg (r_gq [(6, .d false [.sl none (v5.map (eF eI))]), (20, .d false [.sl none (v5.map (eF eI))]), (21, .p (iV (v5.length : Int))), (22, .p (iV x7)), (23, .p (.bool (decide (x7 < (v5.length : Int)))))] [] trivial) ?_
    refine k_seq ?_
    refine kc (decide (x7 < (v5.length : Int))) (fun hc5_8 => ?_) (fun hc5_8 => ?_)
    ·replace h := ite_t hc5_8 h
     refine k_skip ?_
     refine q_n ?_
     refine k_seq ?_
     refine k_block ?_
     replace h := bs h
     obtain ⟨v10, hv10, h⟩ := h
     refine k_sreg (r_gq [(6, .d false [.sl none (v5.map (eF eI))]), (8, .d false [.sl none (v10.map eI)]), (20, .d false [.sl none (v5.map (eF eI))]), (21, .p (iV (v5.length : Int))), (22, .p (iV x7))] [(0, {row := some [.sl none (v10.map eI)]})] (A2 (idxO_some hv10).1 (map_get (eF eI) (idxO_some hv10).2))) ?_
     replace h := bs h
     obtain ⟨v11, hv11, h⟩ := h
     refine k_sreg (r_gq [(6, .d false [.sl none (v5.map (eF eI))]), (20, .d false [.sl none (v5.map (eF eI))]), (21, .p (iV (v5.length : Int))), (22, .p (iV x7)), (28, .p (.bool (!v11)))] [(1, {call := some (none, [.p (.bool v11)], true)})] (A1 (wk_spec_l1All hv11))) ?_
     refine kc (!v11) (fun hc6_11 => ?_) (fun hc6_11 => ?_)
     ·replace h := ite_t hc6_11 h
      refine k_sreg (r_gq [(4, .d false [.sl none []]), (5, .p (.bool false))] [(1, {pre := some (4, .d false [.sl none []])})] (A1 (show (SV.d false (eraR [.sl (some 42) []]) : SV) = .d false [.sl none []] from (congrArg (fun z => SV.d false z) (erc_sl rfl rfl))))) ?_
      refine k_ret ?_
      refine b_r ?_
      refine q_r ?_
      refine lq_r ?_
      refine b_r ?_
      refine q_r ?_
      have hyy := hy_x7 _ (oi h).symm
      subst hyy
      have h := hk_x7
      dsimp only [Sum.elim] at h
      obtain rfl := oi h
      exact er [(.d false [.sl none []], 4), (.p (.bool false), 5)]
     ·replace h := ite_f hc6_11 h
      refine k_skip ?_
      refine b_n ?_
      refine q_n ?_
      refine k_reg (r_gq [(6, .d false [.sl none (v5.map (eF eI))]), (20, .d false [.sl none (v5.map (eF eI))]), (21, .p (iV (v5.length : Int))), (22, .p (iV (w64 (x7 + 1))))] [] trivial) ?_
      exact lqn (w64 (x7 + 1)) h
    ·replace h := ite_f hc5_8 h
     refine k_exit ?_
     refine q_x ?_
     refine lq_x ?_
     refine b_x ?_
     have hyy := hy_x7 _ (oi h).symm
     subst hyy
     have h := hk_x7
     dsimp only [Sum.elim] at h
     refine q_n ?_
     exact jx () h
theorem wk_laws_qInts {a0 : (List Int)} {a1 : (List Int)}  {r : Bool} (h : laws_qInts a0 a1 = some r) : Meets Tryz.prog 41 [.d false [.sl none (a0.map eI)], .d false [.sl none (a1.map eI)]] { vals := [.p (.bool r)] } := by
 refine mo Tryz.func41 [(0, .d false [.sl none (a0.map eI)]), (1, .d false [.sl none (a1.map eI)])] ?_
 unfold laws_qInts at h
 refine k_sreg (r_gq [(0, .d false [.sl none (a0.map eI)]), (1, .d false [.sl none (a1.map eI)])] [] trivial) ?_
 refine k_seq ?_
 refine k_sreg (r_gq [(0, .d false [.sl none (a0.map eI)]), (1, .d false [.sl none (a1.map eI)]), (10, .p (.bool ((a0.length : Int) != (a1.length : Int))))] [(1, {n := some a0.length}), (3, {n := some a1.length})] (A2 (show (a0.map eI).length = a0.length from (List.length_map ..)) (show (a1.map eI).length = a1.length from (List.length_map ..)))) ?_
 refine kc ((a0.length : Int) != (a1.length : Int)) (fun hc2_0 => ?_) (fun hc2_0 => ?_)
 ·replace h := ite_t hc2_0 h
  refine k_sreg (r_gq [(4, .p (.bool false))] [] trivial) ?_
  refine k_ret ?_
  refine q_r ?_
  obtain rfl := oi h
  exact er [(.p (.bool false), 4)]
 ·replace h := ite_f hc2_0 h
  refine k_skip ?_
  refine q_n ?_
  refine k_join (J := fun (x : Unit) => []) (K := fun x => laws_qInts_k1 x = some r) (fun x2 h => ?_) ?_
  ·unfold laws_qInts_k1 at h
   refine k_sreg (r_gq [(4, .p (.bool true))] [] trivial) ?_
   refine k_ret ?_
   obtain rfl := oi h
   exact er [(.p (.bool true), 4)]
  ·refine k_sreg (r_gq [(0, .d false [.sl none (a0.map eI)]), (1, .d false [.sl none (a1.map eI)]), (12, .p (iV (a0.length : Int))), (13, .p (iV 0))] [(1, {n := some a0.length})] (A1 (show (a0.map eI).length = a0.length from (List.length_map ..)))) ?_
   refine k_block ?_
   obtain ⟨y4, hl_x3, hk_x3⟩ := bs h
   clear h
   refine k_loop (J := fun (x : Int) => [(0, .d false [.sl none (a0.map eI)]), (1, .d false [.sl none (a1.map eI)]), (12, .p (iV (a0.length : Int))), (13, .p (iV x))]) hl_x3 (wk_of (by kernel_rfl) (by kernel_rfl)) (fun x3 o_x3 h hy_x3 => ?_)
   unfold laws_qInts_b1 at h
   refine k_sreg (r_gq [(0, .d false [.sl none (a0.map eI)]), (1, .d false [.sl none (a1.map eI)]), (12, .p (iV (a0.length : Int))), (13, .p (iV x3)), (14, .p (.bool (decide (x3 < (a0.length : Int)))))] [] trivial) ?_
   refine k_seq ?_
   refine kc (decide (x3 < (a0.length : Int))) (fun hc5_4 => ?_) (fun hc5_4 => ?_)
   ·replace h := ite_t hc5_4 h
    refine k_skip ?_
    refine q_n ?_
    refine k_seq ?_
    refine k_block ?_
    refine k_sreg (r_gq [(0, .d false [.sl none (a0.map eI)]), (1, .d false [.sl none (a1.map eI)]), (5, .p (iV x3)), (12, .p (iV (a0.length : Int))), (13, .p (iV x3))] [] trivial) ?_
    replace h := bs h
    obtain ⟨v6, hv6, h⟩ := h
    replace h := bs h
    obtain ⟨v7, hv7, h⟩ := h
    refine k_sreg (r_dq Tryz_mixed 8 [] [(0, .d false [.sl none (a0.map eI)]), (1, .d false [.sl none (a1.map eI)]), (12, .p (iV (a0.length : Int))), (13, .p (iV x3)), (24, .p (.bool (v6 != v7)))] [(2, {row := some (eI v6)}), (6, {row := some (eI v7)})] (A4 (idxO_some hv6).1 (map_get eI (idxO_some hv6).2) (idxO_some hv7).1 (map_get eI (idxO_some hv7).2))) ?_
    refine kc (v6 != v7) (fun hc6_7 => ?_) (fun hc6_7 => ?_)
    ·replace h := ite_t hc6_7 h
     refine k_sreg (r_gq [(4, .p (.bool false))] [] trivial) ?_
     refine k_ret ?_
     refine b_r ?_
     refine q_r ?_
     refine lq_r ?_
     refine b_r ?_
     refine q_r ?_
     have hyy := hy_x3 _ (oi h).symm
     subst hyy
     have h := hk_x3
     dsimp only [Sum.elim] at h
     obtain rfl := oi h
     exact er [(.p (.bool false), 4)]
    ·replace h := ite_f hc6_7 h
     refine k_skip ?_
     refine b_n ?_
     refine q_n ?_
     refine k_reg (r_gq [(0, .d false [.sl none (a0.map eI)]), (1, .d false [.sl none (a1.map eI)]), (12, .p (iV (a0.length : Int))), (13, .p (iV (w64 (x3 + 1))))] [] trivial) ?_
     exact lqn (w64 (x3 + 1)) h
   ·replace h := ite_f hc5_4 h
    refine k_exit ?_
    refine q_x ?_
    refine lq_x ?_
    refine b_x ?_
    have hyy := hy_x3 _ (oi h).symm
    subst hyy
    have h := hk_x3
    dsimp only [Sum.elim] at h
    refine q_n ?_
    exact jx () h
theorem wk_laws_qLists {a0 : (List (List Int))} {a1 : (List (List Int))}  {r : Bool} (h : laws_qLists a0 a1 = some r) : Meets Tryz.prog 17 [.d false [.sl none (a0.map (eF eI))], .d false [.sl none (a1.map (eF eI))]] { vals := [.p (.bool r)] } := by
 refine mo Tryz.func17 [(0, .d false [.sl none (a0.map (eF eI))]), (1, .d false [.sl none (a1.map (eF eI))])] ?_
 unfold laws_qLists at h
 refine k_sreg (r_gq [(0, .d false [.sl none (a0.map (eF eI))]), (1, .d false [.sl none (a1.map (eF eI))])] [] trivial) ?_
 refine k_seq ?_
 refine k_sreg (r_gq [(0, .d false [.sl none (a0.map (eF eI))]), (1, .d false [.sl none (a1.map (eF eI))]), (10, .p (.bool ((a0.length : Int) != (a1.length : Int))))] [(1, {n := some a0.length}), (3, {n := some a1.length})] (A2 (show (a0.map (eF eI)).length = a0.length from (List.length_map ..)) (show (a1.map (eF eI)).length = a1.length from (List.length_map ..)))) ?_
 refine kc ((a0.length : Int) != (a1.length : Int)) (fun hc2_0 => ?_) (fun hc2_0 => ?_)
 ·replace h := ite_t hc2_0 h
  refine k_sreg (r_gq [(4, .p (.bool false))] [] trivial) ?_
  refine k_ret ?_
  refine q_r ?_
  obtain rfl := oi h
  exact er [(.p (.bool false), 4)]
 ·replace h := ite_f hc2_0 h
  refine k_skip ?_
  refine q_n ?_
  refine k_join (J := fun (x : Unit) => []) (K := fun x => laws_qLists_k1 x = some r) (fun x2 h => ?_) ?_
  ·unfold laws_qLists_k1 at h
   refine k_sreg (r_gq [(4, .p (.bool true))] [] trivial) ?_
   refine k_ret ?_
   obtain rfl := oi h
   exact er [(.p (.bool true), 4)]
  ·refine k_sreg (r_gq [(0, .d false [.sl none (a0.map (eF eI))]), (1, .d false [.sl none (a1.map (eF eI))]), (12, .p (iV (a0.length : Int))), (13, .p (iV 0))] [(1, {n := some a0.length})] (A1 (show (a0.map (eF eI)).length = a0.length from (List.length_map ..)))) ?_
   refine k_block ?_
   obtain ⟨y4, hl_x3, hk_x3⟩ := bs h
   clear h
   refine k_loop (J := fun (x : Int) => [(0, .d false [.sl none (a0.map (eF eI))]), (1, .d false [.sl none (a1.map (eF eI))]), (12, .p (iV (a0.length : Int))), (13, .p (iV x))]) hl_x3 (wk_of (by kernel_rfl) (by kernel_rfl)) (fun x3 o_x3 h hy_x3 => ?_)
   unfold laws_qLists_b1 at h
   refine k_sreg (r_gq [(0, .d false [.sl none (a0.map (eF eI))]), (1, .d false [.sl none (a1.map (eF eI))]), (12, .p (iV (a0.length : Int))), (13, .p (iV x3)), (14, .p (.bool (decide (x3 < (a0.length : Int)))))] [] trivial) ?_
   refine k_seq ?_
   refine kc (decide (x3 < (a0.length : Int))) (fun hc5_4 => ?_) (fun hc5_4 => ?_)
   ·replace h := ite_t hc5_4 h
    refine k_skip ?_
    refine q_n ?_
    refine k_seq ?_
    refine k_block ?_
    refine k_sreg (r_gq [(0, .d false [.sl none (a0.map (eF eI))]), (1, .d false [.sl none (a1.map (eF eI))]), (5, .p (iV x3)), (12, .p (iV (a0.length : Int))), (13, .p (iV x3))] [] trivial) ?_
    replace h := bs h
    obtain ⟨v6, hv6, h⟩ := h
    replace h := bs h
    obtain ⟨v7, hv7, h⟩ := h
    replace h := bs h
    obtain ⟨v8, hv8, h⟩ := h
    refine k_sreg (r_dq Tryz_mixed 8 [] [(0, .d false [.sl none (a0.map (eF eI))]), (1, .d false [.sl none (a1.map (eF eI))]), (12, .p (iV (a0.length : Int))), (13, .p (iV x3)), (25, .p (.bool (!v8)))] [(2, {row := some [.sl none (v6.map eI)]}), (6, {row := some [.sl none (v7.map eI)]}), (8, {call := some (none, [.p (.bool v8)], true)})] (A5 (idxO_some hv6).1 (map_get (eF eI) (idxO_some hv6).2) (idxO_some hv7).1 (map_get (eF eI) (idxO_some hv7).2) (wk_laws_qInts hv8))) ?_
    refine kc (!v8) (fun hc6_8 => ?_) (fun hc6_8 => ?_)
    ·replace h := ite_t hc6_8 h
     refine k_sreg (r_gq [(4, .p (.bool false))] [] trivial) ?_
     refine k_ret ?_
     refine b_r ?_
     refine q_r ?_
     refine lq_r ?_
     refine b_r ?_
     refine q_r ?_
     have hyy := hy_x3 _ (oi h).symm
     subst hyy
     have h := hk_x3
     dsimp only [Sum.elim] at h
     obtain rfl := oi h
     exact er [(.p (.bool false), 4)]
    ·replace h := ite_f hc6_8 h
     refine k_skip ?_
     refine b_n ?_
     refine q_n ?_
     refine k_reg (r_gq [(0, .d false [.sl none (a0.map (eF eI))]), (1, .d false [.sl none (a1.map (eF eI))]), (12, .p (iV (a0.length : Int))), (13, .p (iV (w64 (x3 + 1))))] [] trivial) ?_
     exact lqn (w64 (x3 + 1)) h
   ·replace h := ite_f hc5_4 h
    refine k_exit ?_
    refine q_x ?_
    refine lq_x ?_
    refine b_x ?_
    have hyy := hy_x3 _ (oi h).symm
    subst hyy
    have h := hk_x3
    dsimp only [Sum.elim] at h
    refine q_n ?_
    exact jx () h
theorem wk_laws_FnWalkCounts {a0 : (List Int)} {a1 : (List Int)}  {r : Bool} (h : laws_FnWalkCounts a0 a1 = some r) : Meets Tryz.prog 3 [.d false [.sl none (a0.map (eU .u8))], .d false [.sl none (a1.map (eU .u8))]] { vals := [.p (.bool r)] } := by
 refine mo Tryz.func3 [(0, .d false [.sl none (a0.map (eU .u8))]), (1, .d false [.sl none (a1.map (eU .u8))])] ?_
 unfold laws_FnWalkCounts at h
 refine k_sreg (r_gq [(0, .d false [.sl none (a0.map (eU .u8))]), (1, .d false [.sl none (a1.map (eU .u8))])] [] trivial) ?_
 refine k_seq ?_
 refine k_sreg (r_gq [(0, .d false [.sl none (a0.map (eU .u8))]), (1, .d false [.sl none (a1.map (eU .u8))]), (43, .p (.bool (decide ((w64 ((a0.length : Int) + (a1.length : Int))) > 1048576))))] [(1, {n := some a0.length}), (3, {n := some a1.length})] (A2 (show (a0.map (eU .u8)).length = a0.length from (List.length_map ..)) (show (a1.map (eU .u8)).length = a1.length from (List.length_map ..)))) ?_
 refine kc (decide ((w64 ((a0.length : Int) + (a1.length : Int))) > 1048576)) (fun hc2_0 => ?_) (fun hc2_0 => ?_)
 ·replace h := ite_t hc2_0 h
  refine k_sreg (r_gq [(4, .p (.bool true))] [] trivial) ?_
  refine k_ret ?_
  refine q_r ?_
  obtain rfl := oi h
  exact er [(.p (.bool true), 4)]
 ·replace h := ite_f hc2_0 h
  refine k_skip ?_
  refine q_n ?_
  replace h := bs h
  obtain ⟨v2, hv2, h⟩ := h
  refine k_sreg (r_gq [(1, .d false [.sl none (a1.map (eU .u8))]), (5, .ov false [.sl (some 42) (v2.1.map (eO 3 eI))]), (6, .p (iV v2.2))] [(1, {call := some (none, [.ov false [.sl (some 42) (v2.1.map (eO 3 eI))], .p (iV v2.2)], true)})] (A2 (wk_spec_DrawTotalWalks hv2) (show List.all [.ov false [.sl (some 42) (v2.1.map (eO 3 eI))], .p (iV v2.2)] simpleR = true from (sa_o (wnR1 (wnL_enc (wn_O wn_I)) rfl) (sa_p rfl))))) ?_
  replace h := bs h
  obtain ⟨v3, hv3, h⟩ := h
  refine k_sreg (r_gq [(1, .d false [.sl none (a1.map (eU .u8))]), (5, .ov false [.sl (some 42) (v2.1.map (eO 3 eI))]), (6, .p (iV v2.2)), (7, .p (iV v3.1)), (8, .p (.bool v3.2))] [(2, {call := some (some [.d false [.sl none (v2.1.map (eF eI))], wI v2.2], [.p (iV v3.1), .p (.bool v3.2)], true)})] (A2 (show ([.d false [.sl none (eraL (v2.1.map (eO 3 eI)))], wI v2.2] : List Arg) = [.d false [.sl none (v2.1.map (eF eI))], wI v2.2] from (by simp only [eraL_enc (h := (eF eI)) (era_O er_I)])) (wk_impl_TotalWalks hv3))) ?_
  replace h := bs h
  obtain ⟨v4, hv4, h⟩ := h
  refine k_sreg (r_gq [(1, .d false [.sl none (a1.map (eU .u8))]), (5, .ov false [.sl (some 42) (v2.1.map (eO 3 eI))]), (6, .p (iV v2.2)), (7, .p (iV v3.1)), (8, .p (.bool v3.2)), (9, .p (iV v4.1)), (10, .p (.bool v4.2))] [(2, {call := some (some [.d false [.sl none (v2.1.map (eF eI))], wI v2.2], [.p (iV v4.1), .p (.bool v4.2)], true)})] (A2 (show ([.d false [.sl none (eraL (v2.1.map (eO 3 eI)))], wI v2.2] : List Arg) = [.d false [.sl none (v2.1.map (eF eI))], wI v2.2] from (by simp only [eraL_enc (h := (eF eI)) (era_O er_I)])) (wk_spec_TotalWalks hv4))) ?_
  replace h := bs h
  obtain ⟨v5, hv5, h⟩ := h
  refine k_sreg (r_gq [(1, .d false [.sl none (a1.map (eU .u8))]), (5, .ov false [.sl (some 42) (v2.1.map (eO 3 eI))]), (6, .p (iV v2.2)), (7, .p (iV v3.1)), (8, .p (.bool v3.2)), (9, .p (iV v4.1)), (10, .p (.bool v4.2)), (11, .p (iV v5.1)), (12, .p (.bool v5.2))] [(2, {call := some (some [.d false [.sl none (v2.1.map (eF eI))], wI v2.2], [.p (iV v5.1), .p (.bool v5.2)], true)})] (A2 (show ([.d false [.sl none (eraL (v2.1.map (eO 3 eI)))], wI v2.2] : List Arg) = [.d false [.sl none (v2.1.map (eF eI))], wI v2.2] from (by simp only [eraL_enc (h := (eF eI)) (era_O er_I)])) (wk_impl_WalkDigits hv5))) ?_
  replace h := bs h
  obtain ⟨v6, hv6, h⟩ := h
  refine k_sreg (r_gq [(1, .d false [.sl none (a1.map (eU .u8))]), (5, .ov false [.sl (some 42) (v2.1.map (eO 3 eI))]), (6, .p (iV v2.2)), (7, .p (iV v3.1)), (8, .p (.bool v3.2)), (9, .p (iV v4.1)), (10, .p (.bool v4.2)), (11, .p (iV v5.1)), (12, .p (.bool v5.2)), (13, .p (iV v6.1)), (14, .p (.bool v6.2))] [(2, {call := some (some [.d false [.sl none (v2.1.map (eF eI))], wI v2.2], [.p (iV v6.1), .p (.bool v6.2)], true)})] (A2 (show ([.d false [.sl none (eraL (v2.1.map (eO 3 eI)))], wI v2.2] : List Arg) = [.d false [.sl none (v2.1.map (eF eI))], wI v2.2] from (by simp only [eraL_enc (h := (eF eI)) (era_O er_I)])) (wk_spec_WalkDigits hv6))) ?_
  replace h := bs h
  obtain ⟨v7, hv7, h⟩ := h
  refine k_sreg (r_gq [(1, .d false [.sl none (a1.map (eU .u8))]), (5, .ov false [.sl (some 42) (v2.1.map (eO 3 eI))]), (6, .p (iV v2.2)), (7, .p (iV v3.1)), (8, .p (.bool v3.2)), (9, .p (iV v4.1)), (10, .p (.bool v4.2)), (11, .p (iV v5.1)), (12, .p (.bool v5.2)), (13, .p (iV v6.1)), (14, .p (.bool v6.2)), (15, .ov false [.sl (some 42) (v7.1.map (eO 3 eI))]), (16, .ov false [.sl (some 42) (v7.2.map (eO 3 eI))])] [(1, {call := some (none, [.ov false [.sl (some 42) (v7.1.map (eO 3 eI))], .ov false [.sl (some 42) (v7.2.map (eO 3 eI))]], true)})] (A2 (wk_spec_DrawGrowsFaster hv7) (show List.all [.ov false [.sl (some 42) (v7.1.map (eO 3 eI))], .ov false [.sl (some 42) (v7.2.map (eO 3 eI))]] simpleR = true from (sa_o (wnR1 (wnL_enc (wn_O wn_I)) rfl) (sa_o (wnR1 (wnL_enc (wn_O wn_I)) rfl) rfl))))) ?_
  replace h := bs h
  obtain ⟨v8, hv8, h⟩ := h
  refine k_sreg (r_gq [(1, .d false [.sl none (a1.map (eU .u8))]), (5, .ov false [.sl (some 42) (v2.1.map (eO 3 eI))]), (6, .p (iV v2.2)), (7, .p (iV v3.1)), (8, .p (.bool v3.2)), (9, .p (iV v4.1)), (10, .p (.bool v4.2)), (11, .p (iV v5.1)), (12, .p (.bool v5.2)), (13, .p (iV v6.1)), (14, .p (.bool v6.2)), (15, .ov false [.sl (some 42) (v7.1.map (eO 3 eI))]), (16, .ov false [.sl (some 42) (v7.2.map (eO 3 eI))]), (17, .p (.bool v8.1)), (18, .p (.bool v8.2))] [(2, {call := some (some [.d false [.sl none (v7.1.map (eF eI))], .d false [.sl none (v7.2.map (eF eI))]], [.p (.bool v8.1), .p (.bool v8.2)], true)})] (A2 (show ([.d false [.sl none (eraL (v7.1.map (eO 3 eI)))], .d false [.sl none (eraL (v7.2.map (eO 3 eI)))]] : List Arg) = [.d false [.sl none (v7.1.map (eF eI))], .d false [.sl none (v7.2.map (eF eI))]] from (by simp only [eraL_enc (h := (eF eI)) (era_O er_I), eraL_enc (h := (eF eI)) (era_O er_I)])) (wk_impl_GrowsFaster hv8))) ?_
  replace h := bs h
  obtain ⟨v9, hv9, h⟩ := h
  refine k_sreg (r_gq [(1, .d false [.sl none (a1.map (eU .u8))]), (5, .ov false [.sl (some 42) (v2.1.map (eO 3 eI))]), (6, .p (iV v2.2)), (7, .p (iV v3.1)), (8, .p (.bool v3.2)), (9, .p (iV v4.1)), (10, .p (.bool v4.2)), (11, .p (iV v5.1)), (12, .p (.bool v5.2)), (13, .p (iV v6.1)), (14, .p (.bool v6.2)), (15, .ov false [.sl (some 42) (v7.1.map (eO 3 eI))]), (16, .ov false [.sl (some 42) (v7.2.map (eO 3 eI))]), (17, .p (.bool v8.1)), (18, .p (.bool v8.2)), (19, .p (.bool v9.1)), (20, .p (.bool v9.2))] [(2, {call := some (some [.d false [.sl none (v7.1.map (eF eI))], .d false [.sl none (v7.2.map (eF eI))]], [.p (.bool v9.1), .p (.bool v9.2)], true)})] (A2 (show ([.d false [.sl none (eraL (v7.1.map (eO 3 eI)))], .d false [.sl none (eraL (v7.2.map (eO 3 eI)))]] : List Arg) = [.d false [.sl none (v7.1.map (eF eI))], .d false [.sl none (v7.2.map (eF eI))]] from (by simp only [eraL_enc (h := (eF eI)) (era_O er_I), eraL_enc (h := (eF eI)) (era_O er_I)])) (wk_spec_GrowsFaster hv9))) ?_
  replace h := bs h
  obtain ⟨v10, hv10, h⟩ := h
  refine k_sreg (r_gq [(5, .ov false [.sl (some 42) (v2.1.map (eO 3 eI))]), (6, .p (iV v2.2)), (7, .p (iV v3.1)), (8, .p (.bool v3.2)), (9, .p (iV v4.1)), (10, .p (.bool v4.2)), (11, .p (iV v5.1)), (12, .p (.bool v5.2)), (13, .p (iV v6.1)), (14, .p (.bool v6.2)), (15, .ov false [.sl (some 42) (v7.1.map (eO 3 eI))]), (16, .ov false [.sl (some 42) (v7.2.map (eO 3 eI))]), (17, .p (.bool v8.1)), (18, .p (.bool v8.2)), (19, .p (.bool v9.1)), (20, .p (.bool v9.2)), (21, .box (eRt v10.1)), (22, .box (eRt v10.2))] [(1, {call := some (none, [.p (vRt v10.1), .p (vRt v10.2)], true)})] (A1 (wk_spec_DrawBoundsText hv10))) ?_
  replace h := bs h
  obtain ⟨v11, hv11, h⟩ := h
  refine k_sreg (r_gq [(5, .ov false [.sl (some 42) (v2.1.map (eO 3 eI))]), (6, .p (iV v2.2)), (7, .p (iV v3.1)), (8, .p (.bool v3.2)), (9, .p (iV v4.1)), (10, .p (.bool v4.2)), (11, .p (iV v5.1)), (12, .p (.bool v5.2)), (13, .p (iV v6.1)), (14, .p (.bool v6.2)), (15, .ov false [.sl (some 42) (v7.1.map (eO 3 eI))]), (16, .ov false [.sl (some 42) (v7.2.map (eO 3 eI))]), (17, .p (.bool v8.1)), (18, .p (.bool v8.2)), (19, .p (.bool v9.1)), (20, .p (.bool v9.2)), (21, .box (eRt v10.1)), (22, .box (eRt v10.2)), (23, .p (.string v11.1)), (24, .p (.bool v11.2))] [(2, {call := some (none, [.p (.string v11.1), .p (.bool v11.2)], true)})] (A1 (wk_impl_BoundsText hv11))) ?_
  replace h := bs h
  obtain ⟨v12, hv12, h⟩ := h
  refine k_sreg (r_gq [(5, .ov false [.sl (some 42) (v2.1.map (eO 3 eI))]), (6, .p (iV v2.2)), (7, .p (iV v3.1)), (8, .p (.bool v3.2)), (9, .p (iV v4.1)), (10, .p (.bool v4.2)), (11, .p (iV v5.1)), (12, .p (.bool v5.2)), (13, .p (iV v6.1)), (14, .p (.bool v6.2)), (15, .ov false [.sl (some 42) (v7.1.map (eO 3 eI))]), (16, .ov false [.sl (some 42) (v7.2.map (eO 3 eI))]), (17, .p (.bool v8.1)), (18, .p (.bool v8.2)), (19, .p (.bool v9.1)), (20, .p (.bool v9.2)), (23, .p (.string v11.1)), (24, .p (.bool v11.2)), (25, .p (.string v12.1)), (26, .p (.bool v12.2))] [(2, {call := some (none, [.p (.string v12.1), .p (.bool v12.2)], true)})] (A1 (wk_spec_BoundsText hv12))) ?_
  refine k_seq ?_
  refine k_sreg (l1 := [(5, .ov false [.sl (some 42) (v2.1.map (eO 3 eI))]), (6, .p (iV v2.2)), (8, .p (.bool v3.2)), (9, .p (iV v4.1)), (12, .p (.bool v5.2)), (13, .p (iV v6.1)), (15, .ov false [.sl (some 42) (v7.1.map (eO 3 eI))]), (16, .ov false [.sl (some 42) (v7.2.map (eO 3 eI))]), (18, .p (.bool v8.2)), (19, .p (.bool v9.1)), (153, .p (.bool ((!(v3.2 == v4.2)) || ((v3.1 != v4.1) || ((!(v5.2 == v6.2)) || ((v5.1 != v6.1) || ((!(v8.2 == v9.2)) || ((!(v8.1 == v9.1)) || ((!(v11.2 == v12.2)) || ((!(v11.1.toList == v12.1.toList)) || (if v3.2 then (!(v5.2 == (decide (v4.1 > 0)))) else (!(v5.2 == false)))))))))))))]) ?_ ?_
  ·rcases ft (!(v3.2 == v4.2)) with ha1 | ha1
   ·exact RegOk.of_eq (l2 := [(5, .ov false [.sl (some 42) (v2.1.map (eO 3 eI))]), (6, .p (iV v2.2)), (8, .p (.bool v3.2)), (9, .p (iV v4.1)), (12, .p (.bool v5.2)), (13, .p (iV v6.1)), (15, .ov false [.sl (some 42) (v7.1.map (eO 3 eI))]), (16, .ov false [.sl (some 42) (v7.2.map (eO 3 eI))]), (18, .p (.bool v8.2)), (19, .p (.bool v9.1)), (153, .p (.bool ((!(v3.2 == v4.2)) || ((v3.1 != v4.1) || ((!(v5.2 == v6.2)) || ((v5.1 != v6.1) || ((!(v8.2 == v9.2)) || ((!(v8.1 == v9.1)) || ((!(v11.2 == v12.2)) || ((!(v11.1.toList == v12.1.toList)) || (if v3.2 then (!(v5.2 == (decide (v4.1 > 0)))) else (!(v5.2 == false)))))))))))))]) (r_gq [(5, .ov false [.sl (some 42) (v2.1.map (eO 3 eI))]), (6, .p (iV v2.2)), (8, .p (.bool v3.2)), (9, .p (iV v4.1)), (12, .p (.bool v5.2)), (13, .p (iV v6.1)), (15, .ov false [.sl (some 42) (v7.1.map (eO 3 eI))]), (16, .ov false [.sl (some 42) (v7.2.map (eO 3 eI))]), (18, .p (.bool v8.2)), (19, .p (.bool v9.1)), (153, .p (.bool true))] [(4, gT), (5, gT), (6, gT), (7, bT), (9, gT), (10, gT), (11, gT), (12, bT), (14, gT), (15, gT), (16, gT), (17, bT), (19, gT), (20, gT), (21, gT), (22, bT), (24, gT), (25, gT), (26, gT), (27, bT), (29, gT), (30, gT), (31, gT), (32, bT), (34, gT), (35, gT), (36, gT), (37, bT), (39, gT), (40, gT), (41, gT), (44, gT), (45, gT), (46, bT)] (B6 ha1 ha1 ha1 ha1 (show true = true from rfl) (show true = true from rfl) (B6 (show true = true from rfl) (show true = true from rfl) (show true = true from rfl) (show true = true from rfl) (show true = true from rfl) (show true = true from rfl) (B6 (show true = true from rfl) (show true = true from rfl) (show true = true from rfl) (show true = true from rfl) (show true = true from rfl) (show true = true from rfl) (B6 (show true = true from rfl) (show true = true from rfl) (show true = true from rfl) (show true = true from rfl) (show true = true from rfl) (show true = true from rfl) (B6 (show true = true from rfl) (show true = true from rfl) (show true = true from rfl) (show true = true from rfl) (show true = true from rfl) (show true = true from rfl) (A4 (show true = true from rfl) (show true = true from rfl) (show true = true from rfl) (show true = true from rfl)))))))) (by simp [ha1])
   ·rcases ft (v3.1 != v4.1) with ha2 | ha2
    ·exact RegOk.of_eq (l2 := [(5, .ov false [.sl (some 42) (v2.1.map (eO 3 eI))]), (6, .p (iV v2.2)), (8, .p (.bool v3.2)), (9, .p (iV v4.1)), (12, .p (.bool v5.2)), (13, .p (iV v6.1)), (15, .ov false [.sl (some 42) (v7.1.map (eO 3 eI))]), (16, .ov false [.sl (some 42) (v7.2.map (eO 3 eI))]), (18, .p (.bool v8.2)), (19, .p (.bool v9.1)), (153, .p (.bool ((!(v3.2 == v4.2)) || ((v3.1 != v4.1) || ((!(v5.2 == v6.2)) || ((v5.1 != v6.1) || ((!(v8.2 == v9.2)) || ((!(v8.1 == v9.1)) || ((!(v11.2 == v12.2)) || ((!(v11.1.toList == v12.1.toList)) || (if v3.2 then (!(v5.2 == (decide (v4.1 > 0)))) else (!(v5.2 == false)))))))))))))]) (r_gq [(5, .ov false [.sl (some 42) (v2.1.map (eO 3 eI))]), (6, .p (iV v2.2)), (8, .p (.bool v3.2)), (9, .p (iV v4.1)), (12, .p (.bool v5.2)), (13, .p (iV v6.1)), (15, .ov false [.sl (some 42) (v7.1.map (eO 3 eI))]), (16, .ov false [.sl (some 42) (v7.2.map (eO 3 eI))]), (18, .p (.bool v8.2)), (19, .p (.bool v9.1)), (153, .p (.bool true))] [(4, gF), (5, gF), (6, gF), (7, bF), (9, gT), (10, gT), (11, gT), (12, bT), (14, gT), (15, gT), (16, gT), (17, bT), (19, gT), (20, gT), (21, gT), (22, bT), (24, gT), (25, gT), (26, gT), (27, bT), (29, gT), (30, gT), (31, gT), (32, bT), (34, gT), (35, gT), (36, gT), (37, bT), (39, gT), (40, gT), (41, gT), (44, gT), (45, gT), (46, bT)] (B6 ha1 ha1 ha1 ha1 ha2 ha2 (B6 ha2 ha2 (show true = true from rfl) (show true = true from rfl) (show true = true from rfl) (show true = true from rfl) (B6 (show true = true from rfl) (show true = true from rfl) (show true = true from rfl) (show true = true from rfl) (show true = true from rfl) (show true = true from rfl) (B6 (show true = true from rfl) (show true = true from rfl) (show true = true from rfl) (show true = true from rfl) (show true = true from rfl) (show true = true from rfl) (B6 (show true = true from rfl) (show true = true from rfl) (show true = true from rfl) (show true = true from rfl) (show true = true from rfl) (show true = true from rfl) (A4 (show true = true from rfl) (show true = true from rfl) (show true = true from rfl) (show true = true from rfl)))))))) (by simp [ha1, ha2])
    ·rcases ft (!(v5.2 == v6.2)) with ha3 | ha3
     ·exact RegOk.of_eq (l2 := [(5, .ov false [.sl (some 42) (v2.1.map (eO 3 eI))]), (6, .p (iV v2.2)), (8, .p (.bool v3.2)), (9, .p (iV v4.1)), (12, .p (.bool v5.2)), (13, .p (iV v6.1)), (15, .ov false [.sl (some 42) (v7.1.map (eO 3 eI))]), (16, .ov false [.sl (some 42) (v7.2.map (eO 3 eI))]), (18, .p (.bool v8.2)), (19, .p (.bool v9.1)), (153, .p (.bool ((!(v3.2 == v4.2)) || ((v3.1 != v4.1) || ((!(v5.2 == v6.2)) || ((v5.1 != v6.1) || ((!(v8.2 == v9.2)) || ((!(v8.1 == v9.1)) || ((!(v11.2 == v12.2)) || ((!(v11.1.toList == v12.1.toList)) || (if v3.2 then (!(v5.2 == (decide (v4.1 > 0)))) else (!(v5.2 == false)))))))))))))]) (r_gq [(5, .ov false [.sl (some 42) (v2.1.map (eO 3 eI))]), (6, .p (iV v2.2)), (8, .p (.bool v3.2)), (9, .p (iV v4.1)), (12, .p (.bool v5.2)), (13, .p (iV v6.1)), (15, .ov false [.sl (some 42) (v7.1.map (eO 3 eI))]), (16, .ov false [.sl (some 42) (v7.2.map (eO 3 eI))]), (18, .p (.bool v8.2)), (19, .p (.bool v9.1)), (153, .p (.bool true))] [(4, gF), (5, gF), (6, gF), (7, bF), (9, gF), (10, gF), (11, gF), (12, bF), (14, gT), (15, gT), (16, gT), (17, bT), (19, gT), (20, gT), (21, gT), (22, bT), (24, gT), (25, gT), (26, gT), (27, bT), (29, gT), (30, gT), (31, gT), (32, bT), (34, gT), (35, gT), (36, gT), (37, bT), (39, gT), (40, gT), (41, gT), (44, gT), (45, gT), (46, bT)] (B6 ha1 ha1 ha1 ha1 ha2 ha2 (B6 ha2 ha2 ha3 ha3 ha3 ha3 (B6 (show true = true from rfl) (show true = true from rfl) (show true = true from rfl) (show true = true from rfl) (show true = true from rfl) (show true = true from rfl) (B6 (show true = true from rfl) (show true = true from rfl) (show true = true from rfl) (show true = true from rfl) (show true = true from rfl) (show true = true from rfl) (B6 (show true = true from rfl) (show true = true from rfl) (show true = true from rfl) (show true = true from rfl) (show true = true from rfl) (show true = true from rfl) (A4 (show true = true from rfl) (show true = true from rfl) (show true = true from rfl) (show true = true from rfl)))))))) (by (try rw [ha1]); (try rw [ha2]); (try rw [ha3]); all_goals (first | rfl | simp [ha1, ha2, ha3]))
     ·rcases ft (v5.1 != v6.1) with ha4 | ha4
      ·exact RegOk.of_eq (l2 := [(5, .ov false [.sl (some 42) (v2.1.map (eO 3 eI))]), (6, .p (iV v2.2)), (8, .p (.bool v3.2)), (9, .p (iV v4.1)), (12, .p (.bool v5.2)), (13, .p (iV v6.1)), (15, .ov false [.sl (some 42) (v7.1.map (eO 3 eI))]), (16, .ov false [.sl (some 42) (v7.2.map (eO 3 eI))]), (18, .p (.bool v8.2)), (19, .p (.bool v9.1)), (153, .p (.bool ((!(v3.2 == v4.2)) || ((v3.1 != v4.1) || ((!(v5.2 == v6.2)) || ((v5.1 != v6.1) || ((!(v8.2 == v9.2)) || ((!(v8.1 == v9.1)) || ((!(v11.2 == v12.2)) || ((!(v11.1.toList == v12.1.toList)) || (if v3.2 then (!(v5.2 == (decide (v4.1 > 0)))) else (!(v5.2 == false)))))))))))))]) (r_gq [(5, .ov false [.sl (some 42) (v2.1.map (eO 3 eI))]), (6, .p (iV v2.2)), (8, .p (.bool v3.2)), (9, .p (iV v4.1)), (12, .p (.bool v5.2)), (13, .p (iV v6.1)), (15, .ov false [.sl (some 42) (v7.1.map (eO 3 eI))]), (16, .ov false [.sl (some 42) (v7.2.map (eO 3 eI))]), (18, .p (.bool v8.2)), (19, .p (.bool v9.1)), (153, .p (.bool true))] [(4, gF), (5, gF), (6, gF), (7, bF), (9, gF), (10, gF), (11, gF), (12, bF), (14, gF), (15, gF), (16, gF), (17, bF), (19, gT), (20, gT), (21, gT), (22, bT), (24, gT), (25, gT), (26, gT), (27, bT), (29, gT), (30, gT), (31, gT), (32, bT), (34, gT), (35, gT), (36, gT), (37, bT), (39, gT), (40, gT), (41, gT), (44, gT), (45, gT), (46, bT)] (B6 ha1 ha1 ha1 ha1 ha2 ha2 (B6 ha2 ha2 ha3 ha3 ha3 ha3 (B6 ha4 ha4 ha4 ha4 (show true = true from rfl) (show true = true from rfl) (B6 (show true = true from rfl) (show true = true from rfl) (show true = true from rfl) (show true = true from rfl) (show true = true from rfl) (show true = true from rfl) (B6 (show true = true from rfl) (show true = true from rfl) (show true = true from rfl) (show true = true from rfl) (show true = true from rfl) (show true = true from rfl) (A4 (show true = true from rfl) (show true = true from rfl) (show true = true from rfl) (show true = true from rfl)))))))) (by (try rw [ha1]); (try rw [ha2]); (try rw [ha3]); (try rw [ha4]); all_goals (first | rfl | simp [ha1, ha2, ha3, ha4]))
      ·rcases ft (!(v8.2 == v9.2)) with ha5 | ha5
       ·exact RegOk.of_eq (l2 := [(5, .ov false [.sl (some 42) (v2.1.map (eO 3 eI))]), (6, .p (iV v2.2)), (8, .p (.bool v3.2)), (9, .p (iV v4.1)), (12, .p (.bool v5.2)), (13, .p (iV v6.1)), (15, .ov false [.sl (some 42) (v7.1.map (eO 3 eI))]), (16, .ov false [.sl (some 42) (v7.2.map (eO 3 eI))]), (18, .p (.bool v8.2)), (19, .p (.bool v9.1)), (153, .p (.bool ((!(v3.2 == v4.2)) || ((v3.1 != v4.1) || ((!(v5.2 == v6.2)) || ((v5.1 != v6.1) || ((!(v8.2 == v9.2)) || ((!(v8.1 == v9.1)) || ((!(v11.2 == v12.2)) || ((!(v11.1.toList == v12.1.toList)) || (if v3.2 then (!(v5.2 == (decide (v4.1 > 0)))) else (!(v5.2 == false)))))))))))))]) (r_gq [(5, .ov false [.sl (some 42) (v2.1.map (eO 3 eI))]), (6, .p (iV v2.2)), (8, .p (.bool v3.2)), (9, .p (iV v4.1)), (12, .p (.bool v5.2)), (13, .p (iV v6.1)), (15, .ov false [.sl (some 42) (v7.1.map (eO 3 eI))]), (16, .ov false [.sl (some 42) (v7.2.map (eO 3 eI))]), (18, .p (.bool v8.2)), (19, .p (.bool v9.1)), (153, .p (.bool true))] [(4, gF), (5, gF), (6, gF), (7, bF), (9, gF), (10, gF), (11, gF), (12, bF), (14, gF), (15, gF), (16, gF), (17, bF), (19, gF), (20, gF), (21, gF), (22, bF), (24, gT), (25, gT), (26, gT), (27, bT), (29, gT), (30, gT), (31, gT), (32, bT), (34, gT), (35, gT), (36, gT), (37, bT), (39, gT), (40, gT), (41, gT), (44, gT), (45, gT), (46, bT)] (B6 ha1 ha1 ha1 ha1 ha2 ha2 (B6 ha2 ha2 ha3 ha3 ha3 ha3 (B6 ha4 ha4 ha4 ha4 ha5 ha5 (B6 ha5 ha5 (show true = true from rfl) (show true = true from rfl) (show true = true from rfl) (show true = true from rfl) (B6 (show true = true from rfl) (show true = true from rfl) (show true = true from rfl) (show true = true from rfl) (show true = true from rfl) (show true = true from rfl) (A4 (show true = true from rfl) (show true = true from rfl) (show true = true from rfl) (show true = true from rfl)))))))) (by (try rw [ha1]); (try rw [ha2]); (try rw [ha3]); (try rw [ha4]); (try rw [ha5]); all_goals (first | rfl | simp [ha1, ha2, ha3, ha4, ha5]))
       ·rcases ft (!(v8.1 == v9.1)) with ha6 | ha6
        ·exact RegOk.of_eq (l2 := [(5, .ov false [.sl (some 42) (v2.1.map (eO 3 eI))]), (6, .p (iV v2.2)), (8, .p (.bool v3.2)), (9, .p (iV v4.1)), (12, .p (.bool v5.2)), (13, .p (iV v6.1)), (15, .ov false [.sl (some 42) (v7.1.map (eO 3 eI))]), (16, .ov false [.sl (some 42) (v7.2.map (eO 3 eI))]), (18, .p (.bool v8.2)), (19, .p (.bool v9.1)), (153, .p (.bool ((!(v3.2 == v4.2)) || ((v3.1 != v4.1) || ((!(v5.2 == v6.2)) || ((v5.1 != v6.1) || ((!(v8.2 == v9.2)) || ((!(v8.1 == v9.1)) || ((!(v11.2 == v12.2)) || ((!(v11.1.toList == v12.1.toList)) || (if v3.2 then (!(v5.2 == (decide (v4.1 > 0)))) else (!(v5.2 == false)))))))))))))]) (r_gq [(5, .ov false [.sl (some 42) (v2.1.map (eO 3 eI))]), (6, .p (iV v2.2)), (8, .p (.bool v3.2)), (9, .p (iV v4.1)), (12, .p (.bool v5.2)), (13, .p (iV v6.1)), (15, .ov false [.sl (some 42) (v7.1.map (eO 3 eI))]), (16, .ov false [.sl (some 42) (v7.2.map (eO 3 eI))]), (18, .p (.bool v8.2)), (19, .p (.bool v9.1)), (153, .p (.bool true))] [(4, gF), (5, gF), (6, gF), (7, bF), (9, gF), (10, gF), (11, gF), (12, bF), (14, gF), (15, gF), (16, gF), (17, bF), (19, gF), (20, gF), (21, gF), (22, bF), (24, gF), (25, gF), (26, gF), (27, bF), (29, gT), (30, gT), (31, gT), (32, bT), (34, gT), (35, gT), (36, gT), (37, bT), (39, gT), (40, gT), (41, gT), (44, gT), (45, gT), (46, bT)] (B6 ha1 ha1 ha1 ha1 ha2 ha2 (B6 ha2 ha2 ha3 ha3 ha3 ha3 (B6 ha4 ha4 ha4 ha4 ha5 ha5 (B6 ha5 ha5 ha6 ha6 ha6 ha6 (B6 (show true = true from rfl) (show true = true from rfl) (show true = true from rfl) (show true = true from rfl) (show true = true from rfl) (show true = true from rfl) (A4 (show true = true from rfl) (show true = true from rfl) (show true = true from rfl) (show true = true from rfl)))))))) (by (try rw [ha1]); (try rw [ha2]); (try rw [ha3]); (try rw [ha4]); (try rw [ha5]); (try rw [ha6]); all_goals (first | rfl | simp [ha1, ha2, ha3, ha4, ha5, ha6]))
        ·rcases ft (!(v11.2 == v12.2)) with ha7 | ha7
         ·exact RegOk.of_eq (l2 := [(5, .ov false [.sl (some 42) (v2.1.map (eO 3 eI))]), (6, .p (iV v2.2)), (8, .p (.bool v3.2)), (9, .p (iV v4.1)), (12, .p (.bool v5.2)), (13, .p (iV v6.1)), (15, .ov false [.sl (some 42) (v7.1.map (eO 3 eI))]), (16, .ov false [.sl (some 42) (v7.2.map (eO 3 eI))]), (18, .p (.bool v8.2)), (19, .p (.bool v9.1)), (153, .p (.bool ((!(v3.2 == v4.2)) || ((v3.1 != v4.1) || ((!(v5.2 == v6.2)) || ((v5.1 != v6.1) || ((!(v8.2 == v9.2)) || ((!(v8.1 == v9.1)) || ((!(v11.2 == v12.2)) || ((!(v11.1.toList == v12.1.toList)) || (if v3.2 then (!(v5.2 == (decide (v4.1 > 0)))) else (!(v5.2 == false)))))))))))))]) (r_gq [(5, .ov false [.sl (some 42) (v2.1.map (eO 3 eI))]), (6, .p (iV v2.2)), (8, .p (.bool v3.2)), (9, .p (iV v4.1)), (12, .p (.bool v5.2)), (13, .p (iV v6.1)), (15, .ov false [.sl (some 42) (v7.1.map (eO 3 eI))]), (16, .ov false [.sl (some 42) (v7.2.map (eO 3 eI))]), (18, .p (.bool v8.2)), (19, .p (.bool v9.1)), (153, .p (.bool true))] [(4, gF), (5, gF), (6, gF), (7, bF), (9, gF), (10, gF), (11, gF), (12, bF), (14, gF), (15, gF), (16, gF), (17, bF), (19, gF), (20, gF), (21, gF), (22, bF), (24, gF), (25, gF), (26, gF), (27, bF), (29, gF), (30, gF), (31, gF), (32, bF), (34, gT), (35, gT), (36, gT), (37, bT), (39, gT), (40, gT), (41, gT), (44, gT), (45, gT), (46, bT)] (B6 ha1 ha1 ha1 ha1 ha2 ha2 (B6 ha2 ha2 ha3 ha3 ha3 ha3 (B6 ha4 ha4 ha4 ha4 ha5 ha5 (B6 ha5 ha5 ha6 ha6 ha6 ha6 (B6 ha7 ha7 ha7 ha7 (show true = true from rfl) (show true = true from rfl) (A4 (show true = true from rfl) (show true = true from rfl) (show true = true from rfl) (show true = true from rfl)))))))) (by (try rw [ha1]); (try rw [ha2]); (try rw [ha3]); (try rw [ha4]); (try rw [ha5]); (try rw [ha6]); (try rw [ha7]); all_goals (first | rfl | simp [ha1, ha2, ha3, ha4, ha5, ha6, ha7]))
         ·rcases ft (!(v11.1.toList == v12.1.toList)) with ha8 | ha8
          ·exact RegOk.of_eq (l2 := [(5, .ov false [.sl (some 42) (v2.1.map (eO 3 eI))]), (6, .p (iV v2.2)), (8, .p (.bool v3.2)), (9, .p (iV v4.1)), (12, .p (.bool v5.2)), (13, .p (iV v6.1)), (15, .ov false [.sl (some 42) (v7.1.map (eO 3 eI))]), (16, .ov false [.sl (some 42) (v7.2.map (eO 3 eI))]), (18, .p (.bool v8.2)), (19, .p (.bool v9.1)), (153, .p (.bool ((!(v3.2 == v4.2)) || ((v3.1 != v4.1) || ((!(v5.2 == v6.2)) || ((v5.1 != v6.1) || ((!(v8.2 == v9.2)) || ((!(v8.1 == v9.1)) || ((!(v11.2 == v12.2)) || ((!(v11.1.toList == v12.1.toList)) || (if v3.2 then (!(v5.2 == (decide (v4.1 > 0)))) else (!(v5.2 == false)))))))))))))]) (r_gq [(5, .ov false [.sl (some 42) (v2.1.map (eO 3 eI))]), (6, .p (iV v2.2)), (8, .p (.bool v3.2)), (9, .p (iV v4.1)), (12, .p (.bool v5.2)), (13, .p (iV v6.1)), (15, .ov false [.sl (some 42) (v7.1.map (eO 3 eI))]), (16, .ov false [.sl (some 42) (v7.2.map (eO 3 eI))]), (18, .p (.bool v8.2)), (19, .p (.bool v9.1)), (153, .p (.bool true))] [(4, gF), (5, gF), (6, gF), (7, bF), (9, gF), (10, gF), (11, gF), (12, bF), (14, gF), (15, gF), (16, gF), (17, bF), (19, gF), (20, gF), (21, gF), (22, bF), (24, gF), (25, gF), (26, gF), (27, bF), (29, gF), (30, gF), (31, gF), (32, bF), (34, gF), (35, gF), (36, gF), (37, bF), (39, gT), (40, gT), (41, gT), (44, gT), (45, gT), (46, bT)] (B6 ha1 ha1 ha1 ha1 ha2 ha2 (B6 ha2 ha2 ha3 ha3 ha3 ha3 (B6 ha4 ha4 ha4 ha4 ha5 ha5 (B6 ha5 ha5 ha6 ha6 ha6 ha6 (B6 ha7 ha7 ha7 ha7 ha8 ha8 (A4 ha8 ha8 ha8 ha8))))))) (by (try rw [ha1]); (try rw [ha2]); (try rw [ha3]); (try rw [ha4]); (try rw [ha5]); (try rw [ha6]); (try rw [ha7]); (try rw [ha8]); all_goals (first | rfl | simp [ha1, ha2, ha3, ha4, ha5, ha6, ha7, ha8]))
          ·rcases ft v3.2 with ha9 | ha9
           ·exact RegOk.of_eq (l2 := [(5, .ov false [.sl (some 42) (v2.1.map (eO 3 eI))]), (6, .p (iV v2.2)), (8, .p (.bool v3.2)), (9, .p (iV v4.1)), (12, .p (.bool v5.2)), (13, .p (iV v6.1)), (15, .ov false [.sl (some 42) (v7.1.map (eO 3 eI))]), (16, .ov false [.sl (some 42) (v7.2.map (eO 3 eI))]), (18, .p (.bool v8.2)), (19, .p (.bool v9.1)), (153, .p (.bool ((!(v3.2 == v4.2)) || ((v3.1 != v4.1) || ((!(v5.2 == v6.2)) || ((v5.1 != v6.1) || ((!(v8.2 == v9.2)) || ((!(v8.1 == v9.1)) || ((!(v11.2 == v12.2)) || ((!(v11.1.toList == v12.1.toList)) || (if v3.2 then (!(v5.2 == (decide (v4.1 > 0)))) else (!(v5.2 == false)))))))))))))]) (r_gq [(5, .ov false [.sl (some 42) (v2.1.map (eO 3 eI))]), (6, .p (iV v2.2)), (8, .p (.bool v3.2)), (9, .p (iV v4.1)), (12, .p (.bool v5.2)), (13, .p (iV v6.1)), (15, .ov false [.sl (some 42) (v7.1.map (eO 3 eI))]), (16, .ov false [.sl (some 42) (v7.2.map (eO 3 eI))]), (18, .p (.bool v8.2)), (19, .p (.bool v9.1)), (153, .p (.bool (!(v5.2 == (decide (v4.1 > 0))))))] [(4, gF), (5, gF), (6, gF), (7, bF), (9, gF), (10, gF), (11, gF), (12, bF), (14, gF), (15, gF), (16, gF), (17, bF), (19, gF), (20, gF), (21, gF), (22, bF), (24, gF), (25, gF), (26, gF), (27, bF), (29, gF), (30, gF), (31, gF), (32, bF), (34, gF), (35, gF), (36, gF), (37, bF), (39, gF), (40, gF), (41, gF), (42, gT), (43, gT), (44, {g := some false, b := some true}), (45, gF), (46, bF)] (B6 ha1 ha1 ha1 ha1 ha2 ha2 (B6 ha2 ha2 ha3 ha3 ha3 ha3 (B6 ha4 ha4 ha4 ha4 ha5 ha5 (B6 ha5 ha5 ha6 ha6 ha6 ha6 (B6 ha7 ha7 ha7 ha7 ha8 ha8 (B6 ha8 ha9 ha9 ha8 ha9 ha8 (A1 ha8)))))))) (by (try rw [ha1]); (try rw [ha2]); (try rw [ha3]); (try rw [ha4]); (try rw [ha5]); (try rw [ha6]); (try rw [ha7]); (try rw [ha8]); (try rw [ha9]); all_goals (first | rfl | simp [ha1, ha2, ha3, ha4, ha5, ha6, ha7, ha8, ha9]))
           ·exact RegOk.of_eq (l2 := [(5, .ov false [.sl (some 42) (v2.1.map (eO 3 eI))]), (6, .p (iV v2.2)), (8, .p (.bool v3.2)), (9, .p (iV v4.1)), (12, .p (.bool v5.2)), (13, .p (iV v6.1)), (15, .ov false [.sl (some 42) (v7.1.map (eO 3 eI))]), (16, .ov false [.sl (some 42) (v7.2.map (eO 3 eI))]), (18, .p (.bool v8.2)), (19, .p (.bool v9.1)), (153, .p (.bool ((!(v3.2 == v4.2)) || ((v3.1 != v4.1) || ((!(v5.2 == v6.2)) || ((v5.1 != v6.1) || ((!(v8.2 == v9.2)) || ((!(v8.1 == v9.1)) || ((!(v11.2 == v12.2)) || ((!(v11.1.toList == v12.1.toList)) || (if v3.2 then (!(v5.2 == (decide (v4.1 > 0)))) else (!(v5.2 == false)))))))))))))]) (r_gq [(5, .ov false [.sl (some 42) (v2.1.map (eO 3 eI))]), (6, .p (iV v2.2)), (8, .p (.bool v3.2)), (9, .p (iV v4.1)), (12, .p (.bool v5.2)), (13, .p (iV v6.1)), (15, .ov false [.sl (some 42) (v7.1.map (eO 3 eI))]), (16, .ov false [.sl (some 42) (v7.2.map (eO 3 eI))]), (18, .p (.bool v8.2)), (19, .p (.bool v9.1)), (153, .p (.bool (!(v5.2 == false))))] [(4, gF), (5, gF), (6, gF), (7, bF), (9, gF), (10, gF), (11, gF), (12, bF), (14, gF), (15, gF), (16, gF), (17, bF), (19, gF), (20, gF), (21, gF), (22, bF), (24, gF), (25, gF), (26, gF), (27, bF), (29, gF), (30, gF), (31, gF), (32, bF), (34, gF), (35, gF), (36, gF), (37, bF), (39, gF), (40, gF), (41, gF), (42, gF), (43, gF), (44, {g := some false, b := some false}), (45, gF), (46, bF)] (B6 ha1 ha1 ha1 ha1 ha2 ha2 (B6 ha2 ha2 ha3 ha3 ha3 ha3 (B6 ha4 ha4 ha4 ha4 ha5 ha5 (B6 ha5 ha5 ha6 ha6 ha6 ha6 (B6 ha7 ha7 ha7 ha7 ha8 ha8 (B6 ha8 ha9 ha9 ha8 ha9 ha8 (A1 ha8)))))))) (by (try rw [ha1]); (try rw [ha2]); (try rw [ha3]); (try rw [ha4]); (try rw [ha5]); (try rw [ha6]); (try rw [ha7]); (try rw [ha8]); (try rw [ha9]); all_goals (first | rfl | simp [ha1, ha2, ha3, ha4, ha5, ha6, ha7, ha8, ha9]))
  ·refine kc ((!(v3.2 == v4.2)) || ((v3.1 != v4.1) || ((!(v5.2 == v6.2)) || ((v5.1 != v6.1) || ((!(v8.2 == v9.2)) || ((!(v8.1 == v9.1)) || ((!(v11.2 == v12.2)) || ((!(v11.1.toList == v12.1.toList)) || (if v3.2 then (!(v5.2 == (decide (v4.1 > 0)))) else (!(v5.2 == false))))))))))) (fun hc2_12 => ?_) (fun hc2_12 => ?_)
   ·replace h := ite_t hc2_12 h
    refine k_sreg (r_gq [(4, .p (.bool false))] [] trivial) ?_
    refine k_ret ?_
    refine q_r ?_
    obtain rfl := oi h
    exact er [(.p (.bool false), 4)]
   ·replace h := ite_f hc2_12 h
    refine k_skip ?_
    refine q_n ?_
    refine k_join (J := fun (x : Unit) => [(5, .ov false [.sl (some 42) (v2.1.map (eO 3 eI))]), (6, .p (iV v2.2)), (8, .p (.bool v3.2)), (9, .p (iV v4.1)), (12, .p (.bool v5.2)), (13, .p (iV v6.1))]) (K := fun x => laws_FnWalkCounts_k1 v2 v3 v4 v5 v6 x = some r) (fun x14 h => ?_) ?_
    ·unfold laws_FnWalkCounts_k1 at h
     refine k_seq ?_
     replace h := bs h
     obtain ⟨w16, hw16, h⟩ := h
     refine k_sreg (l1 := [(5, .ov false [.sl (some 42) (v2.1.map (eO 3 eI))]), (6, .p (iV v2.2)), (8, .p (.bool v3.2)), (9, .p (iV v4.1)), (176, .p (.bool w16))]) ?_ ?_
     ·clear h
      rcases ft v5.2 with ha2 | ha2
      ·replace hw16 := ite_t ha2 hw16
       replace hw16 := bs hw16
       obtain ⟨u15, hu15, hw16⟩ := hw16
       have hw16 := oi hw16
       subst hw16
       exact (r_gq [(5, .ov false [.sl (some 42) (v2.1.map (eO 3 eI))]), (6, .p (iV v2.2)), (8, .p (.bool v3.2)), (9, .p (iV v4.1)), (176, .p (.bool ((ishr .i64 v4.1 (IntKind.wrap .u64 v6.1)) != 1)))] [(2, gT), (3, gT), (4, {g := some true, pv := some (.int .u64 (IntKind.wrap .u64 v6.1))}), (5, {g := some true, pv := some (iV (ishr .i64 v4.1 (IntKind.wrap .u64 v6.1)))}), (6, gT), (7, bT)] (B6 ha2 ha2 ha2 (show PureAt Tryz.prog (.convert 3 38 (.tmp 172)) [.int .i64 v6.1] (.int .u64 (IntKind.wrap .u64 v6.1)) from (pure_conv Tryz_und3 Tryz_und38)) ha2 (show PureAt Tryz.prog (.binOp .shr 3 (.tmp 171) (.tmp 173) 38) [.int .i64 v4.1, .int .u64 (IntKind.wrap .u64 v6.1)] (iV (ishr .i64 v4.1 (IntKind.wrap .u64 v6.1))) from (pure_shr (guardO_some hu15))) (A2 ha2 ha2)))
      ·replace hw16 := ite_f ha2 hw16
       have hw16 := oi hw16
       subst hw16
       exact (r_gq [(5, .ov false [.sl (some 42) (v2.1.map (eO 3 eI))]), (6, .p (iV v2.2)), (8, .p (.bool v3.2)), (9, .p (iV v4.1)), (176, .p (.bool false))] [(2, gF), (3, gF), (4, gF), (5, gF), (6, gF), (7, bF)] (A6 ha2 ha2 ha2 ha2 ha2 ha2))
     ·refine kc w16 (fun hc2_16 => ?_) (fun hc2_16 => ?_)
      ·replace h := ite_t hc2_16 h
       refine k_sreg (r_gq [(4, .p (.bool false))] [] trivial) ?_
       refine k_ret ?_
       refine q_r ?_
       obtain rfl := oi h
       exact er [(.p (.bool false), 4)]
      ·replace h := ite_f hc2_16 h
       refine k_skip ?_
       refine q_n ?_
       refine k_seq ?_
       refine k_sreg (r_gq [(5, .ov false [.sl (some 42) (v2.1.map (eO 3 eI))]), (6, .p (iV v2.2)), (9, .p (iV v4.1)), (178, .p (.bool (!v3.2)))] [] trivial) ?_
       refine kc (!v3.2) (fun hc2_17 => ?_) (fun hc2_17 => ?_)
       ·replace h := ite_t hc2_17 h
        refine k_sreg (r_gq [(4, .p (.bool true))] [] trivial) ?_
        refine k_ret ?_
        refine q_r ?_
        obtain rfl := oi h
        exact er [(.p (.bool true), 4)]
       ·replace h := ite_f hc2_17 h
        refine k_skip ?_
        refine q_n ?_
        replace h := bs h
        obtain ⟨v19, hv19, h⟩ := h
        refine k_sreg (r_gq [(5, .ov false [.sl (some 42) (v2.1.map (eO 3 eI))]), (6, .p (iV v2.2)), (9, .p (iV v4.1)), (29, .ov false [.sl (some 42) (v19.1.map (eO 3 eI))]), (30, .p (.bool v19.2))] [(2, {call := some (some [.d false [.sl none (v2.1.map (eF eI))], wI v2.2], [.ov false [.sl (some 42) (v19.1.map (eO 3 eI))], .p (.bool v19.2)], true)})] (A3 (show ([.d false [.sl none (eraL (v2.1.map (eO 3 eI)))], wI v2.2] : List Arg) = [.d false [.sl none (v2.1.map (eF eI))], wI v2.2] from (by simp only [eraL_enc (h := (eF eI)) (era_O er_I)])) (wk_impl_PowerOf hv19) (show List.all [.ov false [.sl (some 42) (v19.1.map (eO 3 eI))], .p (.bool v19.2)] simpleR = true from (sa_o (wnR1 (wnL_enc (wn_O wn_I)) rfl) (sa_p rfl))))) ?_
        replace h := bs h
        obtain ⟨v20, hv20, h⟩ := h
        refine k_sreg (r_gq [(9, .p (iV v4.1)), (29, .ov false [.sl (some 42) (v19.1.map (eO 3 eI))]), (30, .p (.bool v19.2)), (31, .d false [.sl none (v20.1.map (eF eI))]), (32, .p (.bool v20.2))] [(2, {call := some (some [.d false [.sl none (v2.1.map (eF eI))], wI v2.2], [.d false [.sl none (v20.1.map (eF eI))], .p (.bool v20.2)], false), fix := some (5, .d false [.sl none (v2.1.map (eF eI))])})] (A3 (show ([.d false [.sl none (eraL (v2.1.map (eO 3 eI)))], wI v2.2] : List Arg) = [.d false [.sl none (v2.1.map (eF eI))], wI v2.2] from (by simp only [eraL_enc (h := (eF eI)) (era_O er_I)])) (wk_spec_PowerOf hv20) (show (SV.d false (eraR [.sl (some 42) (v2.1.map (eO 3 eI))]) : SV) = .d false [.sl none (v2.1.map (eF eI))] from (congrArg (fun z => SV.d false z) (erc_sl (eraL_enc (era_O er_I)) rfl))))) ?_
        refine k_seq ?_
        replace h := bs h
        obtain ⟨w22, hw22, h⟩ := h
        refine k_sreg (l1 := [(9, .p (iV v4.1)), (31, .d false [.sl none (v20.1.map (eF eI))]), (202, .p (.bool w22))]) ?_ ?_
        ·clear h
         rcases ft (!v19.2) with ha4 | ha4
         ·replace hw22 := ite_t ha4 hw22
          have hw22 := oi hw22
          subst hw22
          exact (r_gq [(9, .p (iV v4.1)), (31, .d false [.sl none (v20.1.map (eF eI))]), (202, .p (.bool true))] [(3, gT), (4, gT), (5, bT), (7, gT), (8, gT), (9, gT), (10, gT), (11, bT)] (B6 ha4 ha4 ha4 (show true = true from rfl) (show true = true from rfl) (show true = true from rfl) (A2 (show true = true from rfl) (show true = true from rfl))))
         ·replace hw22 := ite_f ha4 hw22
          rcases ft (!v20.2) with ha5 | ha5
          ·replace hw22 := ite_t ha5 hw22
           have hw22 := oi hw22
           subst hw22
           exact (r_gq [(9, .p (iV v4.1)), (31, .d false [.sl none (v20.1.map (eF eI))]), (202, .p (.bool true))] [(3, gF), (4, gF), (5, bF), (7, gT), (8, gT), (9, gT), (10, gT), (11, bT)] (B6 ha4 ha4 ha4 ha5 ha5 ha5 (A2 ha5 ha5)))
          ·replace hw22 := ite_f ha5 hw22
           replace hw22 := bs hw22
           obtain ⟨v21, hv21, hw22⟩ := hw22
           have hw22 := oi hw22
           subst hw22
           exact (r_gq [(9, .p (iV v4.1)), (31, .d false [.sl none (v20.1.map (eF eI))]), (202, .p (.bool (!v21)))] [(3, gF), (4, gF), (5, bF), (7, gF), (8, gF), (9, {g := some false, call := some (some [.d false [.sl none (v19.1.map (eF eI))], .d false [.sl none (v20.1.map (eF eI))]], [.p (.bool v21)], true)}), (10, gF), (11, bF)] (B6 ha4 ha4 ha4 ha5 ha5 ha5 (A4 (show ([.d false [.sl none (eraL (v19.1.map (eO 3 eI)))], .d false [.sl none (v20.1.map (eF eI))]] : List Arg) = [.d false [.sl none (v19.1.map (eF eI))], .d false [.sl none (v20.1.map (eF eI))]] from (by simp only [eraL_enc (h := (eF eI)) (era_O er_I)])) (wk_laws_qLists hv21) ha5 ha5)))
        ·refine kc w22 (fun hc2_22 => ?_) (fun hc2_22 => ?_)
         ·replace h := ite_t hc2_22 h
          refine k_sreg (r_gq [(4, .p (.bool false))] [] trivial) ?_
          refine k_ret ?_
          refine q_r ?_
          obtain rfl := oi h
          exact er [(.p (.bool false), 4)]
         ·replace h := ite_f hc2_22 h
          refine k_skip ?_
          refine q_n ?_
          refine k_sreg (r_gq [(9, .p (iV v4.1)), (31, .d false [.sl none (v20.1.map (eF eI))]), (33, .p (iV 0))] [] trivial) ?_
          refine k_join (J := fun (x : Int) => [(9, .p (iV v4.1)), (33, .p (iV x))]) (K := fun x => laws_FnWalkCounts_k2 v4 x = some r) (fun x24 h => ?_) ?_
          ·unfold laws_FnWalkCounts_k2 at h
           refine k_sreg (r_gq [(4, .p (.bool (x24 == v4.1)))] [] trivial) ?_
           refine k_ret ?_
           obtain rfl := oi h
           exact er [(.p (.bool (x24 == v4.1)), 4)]
          ·refine k_sreg (r_gq [(9, .p (iV v4.1)), (33, .p (iV 0)), (203, .d false [.sl none (v20.1.map (eF eI))]), (204, .p (iV (v20.1.length : Int))), (205, .p (iV 0))] [(1, {n := some v20.1.length})] (A1 (show (v20.1.map (eF eI)).length = v20.1.length from (List.length_map ..)))) ?_
           refine k_block ?_
           obtain ⟨y26, hl_x25, hk_x25⟩ := bs h
           clear h
           refine k_loop (J := fun (x : Qr) => [(9, .p (iV v4.1)), (33, .p (iV x.1)), (203, .d false [.sl none (v20.1.map (eF eI))]), (204, .p (iV (v20.1.length : Int))), (205, .p (iV x.2))]) hl_x25 (wk_of (by kernel_rfl) (by kernel_rfl)) (fun x25 o_x25 h hy_x25 => ?_)
           unfold laws_FnWalkCounts_b1 at h
           refine k_sreg (r_gq [(9, .p (iV v4.1)), (33, .p (iV x25.1)), (203, .d false [.sl none (v20.1.map (eF eI))]), (204, .p (iV (v20.1.length : Int))), (205, .p (iV x25.2)), (206, .p (.bool (decide (x25.2 < (v20.1.length : Int)))))] [] trivial) ?_
           refine k_seq ?_
           refine kc (decide (x25.2 < (v20.1.length : Int))) (fun hc5_26 => ?_) (fun hc5_26 => ?_)
           ·replace h := ite_t hc5_26 h
            refine k_skip ?_
            refine q_n ?_
            refine k_join (J := fun (x : Int) => [(9, .p (iV v4.1)), (33, .p (iV x)), (203, .d false [.sl none (v20.1.map (eF eI))]), (204, .p (iV (v20.1.length : Int))), (205, .p (iV x25.2))]) (K := fun x => laws_FnWalkCounts_k3 x25 x = some o_x25) (fun x28 h => ?_) ?_
            ·unfold laws_FnWalkCounts_k3 at h
             refine k_reg (r_gq [(9, .p (iV v4.1)), (33, .p (iV x28)), (203, .d false [.sl none (v20.1.map (eF eI))]), (204, .p (iV (v20.1.length : Int))), (205, .p (iV (w64 (x25.2 + 1))))] [] trivial) ?_
             exact lqn (x28, (w64 (x25.2 + 1))) h
            ·refine k_block ?_
             replace h := bs h
             obtain ⟨v29, hv29, h⟩ := h
             refine k_sreg (r_gq [(9, .p (iV v4.1)), (33, .p (iV x25.1)), (35, .d false [.sl none (v29.map eI)]), (203, .d false [.sl none (v20.1.map (eF eI))]), (204, .p (iV (v20.1.length : Int))), (205, .p (iV x25.2))] [(0, {row := some [.sl none (v29.map eI)]})] (A2 (idxO_some hv29).1 (map_get (eF eI) (idxO_some hv29).2))) ?_
             refine k_sreg (r_gq [(9, .p (iV v4.1)), (33, .p (iV x25.1)), (203, .d false [.sl none (v20.1.map (eF eI))]), (204, .p (iV (v20.1.length : Int))), (205, .p (iV x25.2)), (209, .d false [.sl none (v29.map eI)]), (210, .p (iV (v29.length : Int))), (211, .p (iV 0))] [(1, {n := some v29.length})] (A1 (show (v29.map eI).length = v29.length from (List.length_map ..)))) ?_
             refine k_block ?_
             obtain ⟨y31, hl_x30, hk_x30⟩ := bs h
             clear h
             refine k_loop (J := fun (x : Qr) => [(9, .p (iV v4.1)), (33, .p (iV x.1)), (203, .d false [.sl none (v20.1.map (eF eI))]), (204, .p (iV (v20.1.length : Int))), (205, .p (iV x25.2)), (209, .d false [.sl none (v29.map eI)]), (210, .p (iV (v29.length : Int))), (211, .p (iV x.2))]) hl_x30 (wk_of (by kernel_rfl) (by kernel_rfl)) (fun x30 o_x30 h hy_x30 => ?_)
             unfold laws_FnWalkCounts_b2 at h
             refine k_sreg (r_gq [(9, .p (iV v4.1)), (33, .p (iV x30.1)), (203, .d false [.sl none (v20.1.map (eF eI))]), (204, .p (iV (v20.1.length : Int))), (205, .p (iV x25.2)), (209, .d false [.sl none (v29.map eI)]), (210, .p (iV (v29.length : Int))), (211, .p (iV x30.2)), (212, .p (.bool (decide (x30.2 < (v29.length : Int)))))] [] trivial) ?_
             refine k_seq ?_
             refine kc (decide (x30.2 < (v29.length : Int))) (fun hc9_31 => ?_) (fun hc9_31 => ?_)
             ·replace h := ite_t hc9_31 h
              refine k_skip ?_
              refine q_n ?_
              refine k_seq ?_
              refine k_block ?_
              replace h := bs h
              obtain ⟨v33, hv33, h⟩ := h
              refine k_sreg (r_gq [(9, .p (iV v4.1)), (33, .p (iV x30.1)), (37, .p (iV v33)), (203, .d false [.sl none (v20.1.map (eF eI))]), (204, .p (iV (v20.1.length : Int))), (205, .p (iV x25.2)), (209, .d false [.sl none (v29.map eI)]), (210, .p (iV (v29.length : Int))), (211, .p (iV x30.2))] [(0, {row := some (eI v33)})] (A2 (idxO_some hv33).1 (map_get eI (idxO_some hv33).2))) ?_
              refine k_reg (r_gq [(9, .p (iV v4.1)), (33, .p (iV (w64 (x30.1 + v33)))), (203, .d false [.sl none (v20.1.map (eF eI))]), (204, .p (iV (v20.1.length : Int))), (205, .p (iV x25.2)), (209, .d false [.sl none (v29.map eI)]), (210, .p (iV (v29.length : Int))), (211, .p (iV x30.2))] [] trivial) ?_
              refine b_n ?_
              refine q_n ?_
              refine k_reg (r_gq [(9, .p (iV v4.1)), (33, .p (iV (w64 (x30.1 + v33)))), (203, .d false [.sl none (v20.1.map (eF eI))]), (204, .p (iV (v20.1.length : Int))), (205, .p (iV x25.2)), (209, .d false [.sl none (v29.map eI)]), (210, .p (iV (v29.length : Int))), (211, .p (iV (w64 (x30.2 + 1))))] [] trivial) ?_
              exact lqn ((w64 (x30.1 + v33)), (w64 (x30.2 + 1))) h
             ·replace h := ite_f hc9_31 h
              refine k_exit ?_
              refine q_x ?_
              refine lq_x ?_
              refine b_x ?_
              refine b_n ?_
              have hyy := hy_x30 _ (oi h).symm
              subst hyy
              have h := hk_x30
              refine q_n ?_
              exact jx x30.1 h
           ·replace h := ite_f hc5_26 h
            refine k_exit ?_
            refine q_x ?_
            refine lq_x ?_
            refine b_x ?_
            have hyy := hy_x25 _ (oi h).symm
            subst hyy
            have h := hk_x25
            refine q_n ?_
            exact jx x25.1 h
    ·refine k_sreg (r_gq [(5, .ov false [.sl (some 42) (v2.1.map (eO 3 eI))]), (6, .p (iV v2.2)), (8, .p (.bool v3.2)), (9, .p (iV v4.1)), (12, .p (.bool v5.2)), (13, .p (iV v6.1)), (15, .ov false [.sl (some 42) (v7.1.map (eO 3 eI))]), (16, .ov false [.sl (some 42) (v7.2.map (eO 3 eI))]), (19, .p (.bool v9.1)), (154, .p (.bool v8.2))] [] trivial) ?_
     refine kc v8.2 (fun hc2_33 => ?_) (fun hc2_33 => ?_)
     ·replace h := ite_t hc2_33 h
      replace h := bs h
      obtain ⟨v35, hv35, h⟩ := h
      refine k_sreg (r_gq [(5, .ov false [.sl (some 42) (v2.1.map (eO 3 eI))]), (6, .p (iV v2.2)), (8, .p (.bool v3.2)), (9, .p (iV v4.1)), (12, .p (.bool v5.2)), (13, .p (iV v6.1)), (19, .p (.bool v9.1)), (27, .p (.bool v35.1)), (28, .p (.bool v35.2))] [(2, {call := some (some [.d false [.sl none (v7.2.map (eF eI))], .d false [.sl none (v7.1.map (eF eI))]], [.p (.bool v35.1), .p (.bool v35.2)], true)})] (A2 (show ([.d false [.sl none (eraL (v7.2.map (eO 3 eI)))], .d false [.sl none (eraL (v7.1.map (eO 3 eI)))]] : List Arg) = [.d false [.sl none (v7.2.map (eF eI))], .d false [.sl none (v7.1.map (eF eI))]] from (by simp only [eraL_enc (h := (eF eI)) (era_O er_I), eraL_enc (h := (eF eI)) (era_O er_I)])) (wk_impl_GrowsFaster hv35))) ?_
      refine k_sreg (l1 := [(5, .ov false [.sl (some 42) (v2.1.map (eO 3 eI))]), (6, .p (iV v2.2)), (8, .p (.bool v3.2)), (9, .p (iV v4.1)), (12, .p (.bool v5.2)), (13, .p (iV v6.1)), (168, .p (.bool ((!v35.2) || (v35.1 && v9.1))))]) ?_ ?_
      ·rcases ft (!v35.2) with ha3 | ha3
       ·exact RegOk.of_eq (l2 := [(5, .ov false [.sl (some 42) (v2.1.map (eO 3 eI))]), (6, .p (iV v2.2)), (8, .p (.bool v3.2)), (9, .p (iV v4.1)), (12, .p (.bool v5.2)), (13, .p (iV v6.1)), (168, .p (.bool ((!v35.2) || (v35.1 && v9.1))))]) (r_gq [(5, .ov false [.sl (some 42) (v2.1.map (eO 3 eI))]), (6, .p (iV v2.2)), (8, .p (.bool v3.2)), (9, .p (iV v4.1)), (12, .p (.bool v5.2)), (13, .p (iV v6.1)), (168, .p (.bool true))] [(3, gT), (4, gT), (6, gT), (7, bT)] (A4 ha3 ha3 ha3 ha3)) (by simp [ha3])
       ·rcases ft v35.1 with ha4 | ha4
        ·exact RegOk.of_eq (l2 := [(5, .ov false [.sl (some 42) (v2.1.map (eO 3 eI))]), (6, .p (iV v2.2)), (8, .p (.bool v3.2)), (9, .p (iV v4.1)), (12, .p (.bool v5.2)), (13, .p (iV v6.1)), (168, .p (.bool ((!v35.2) || (v35.1 && v9.1))))]) (r_gq [(5, .ov false [.sl (some 42) (v2.1.map (eO 3 eI))]), (6, .p (iV v2.2)), (8, .p (.bool v3.2)), (9, .p (iV v4.1)), (12, .p (.bool v5.2)), (13, .p (iV v6.1)), (168, .p (.bool v9.1))] [(3, gF), (4, gF), (5, gT), (6, {g := some false, b := some true}), (7, bF)] (A6 ha3 ha3 ha4 ha3 ha4 ha3)) (by simp [ha3, ha4])
        ·exact RegOk.of_eq (l2 := [(5, .ov false [.sl (some 42) (v2.1.map (eO 3 eI))]), (6, .p (iV v2.2)), (8, .p (.bool v3.2)), (9, .p (iV v4.1)), (12, .p (.bool v5.2)), (13, .p (iV v6.1)), (168, .p (.bool ((!v35.2) || (v35.1 && v9.1))))]) (r_gq [(5, .ov false [.sl (some 42) (v2.1.map (eO 3 eI))]), (6, .p (iV v2.2)), (8, .p (.bool v3.2)), (9, .p (iV v4.1)), (12, .p (.bool v5.2)), (13, .p (iV v6.1)), (168, .p (.bool false))] [(3, gF), (4, gF), (5, gF), (6, {g := some false, b := some false}), (7, bF)] (A6 ha3 ha3 ha4 ha3 ha4 ha3)) (by simp [ha3, ha4])
      ·refine kc ((!v35.2) || (v35.1 && v9.1)) (fun hc2_35 => ?_) (fun hc2_35 => ?_)
       ·replace h := ite_t hc2_35 h
        refine k_sreg (r_gq [(4, .p (.bool false))] [] trivial) ?_
        refine k_ret ?_
        refine q_r ?_
        obtain rfl := oi h
        exact er [(.p (.bool false), 4)]
       ·replace h := ite_f hc2_35 h
        refine k_skip ?_
        refine q_n ?_
        exact jx () h
     ·replace h := ite_f hc2_33 h
      refine k_skip ?_
      refine q_n ?_
      exact jx () h
end Go.PV

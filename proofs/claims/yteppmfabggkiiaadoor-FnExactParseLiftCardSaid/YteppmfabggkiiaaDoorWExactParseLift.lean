/-
  Walks through the functions that the law reaches: each answers as its plain definition does.
  Conditions: none.
-/
import Derived.KernelRfl
import Derived.Shelf.LaysM
import Derived.Shelf.Strconv.Itoa3
import Derived.Shelf.Strings.Cut
import Derived.Shelf.LaysC
import Derived.Test.YteppmfabggkiiaaDoorDf
import Derived.Test.YteppmfabggkiiaaDoorProg
import Derived.Test.YteppmfabggkiiaaDoorPvCx
open Go Go.PV Go.Proofs
set_option linter.all false
namespace Go.PV
attribute [local irreducible] pvC pvL pvD sOp seqQ blockQ Meets MeetsB Ok OkL RegOk agree endQ seqL blockL loopQ endL endLB
theorem Tryd_mixed : Tryd.prog.follows .mixedOrders = true := by kernel_rfl
theorem Tryd_und5 : Tryd.prog.underlying 5 = some (.int .u8) := by kernel_rfl
theorem Tryd_und3 : Tryd.prog.underlying 3 = some (.int .i64) := by kernel_rfl
theorem wk_spec_l1Split {a0 : ByteArray} {a1 : Int}  {r : (List ByteArray)} (h : spec_l1Split a0 a1 = some r) : Meets Tryd.prog 9 [.v (.string a0), .v (.int .u8 a1)] { vals := [.ov false [.sl (some 9) (r.map eT)]] } := by
 refine mo Tryd.func9 [(0, .p (.string a0)), (1, .p (.int .u8 a1))] ?_
 unfold spec_l1Split at h
 refine k_sreg (r_gq [(0, .p (.string a0)), (1, .p (.int .u8 a1))] [] trivial) ?_
 refine k_sreg (r_gq [(0, .p (.string a0)), (1, .p (.int .u8 a1)), (5, .ov false [.sl (some 9) []])] [] trivial) ?_
 refine k_sreg (r_gq [(0, .p (.string a0)), (1, .p (.int .u8 a1)), (5, .ov false [.sl (some 9) []]), (6, .p (iV 0))] [] trivial) ?_
 refine k_join (J := fun (x : ((List ByteArray) × Int)) => [(0, .p (.string a0)), (5, .ov false [.sl (some 9) (x.1.map eT)]), (6, .p (iV x.2))]) (K := fun x => spec_l1Split_k1 a0 x = some r) (fun x1 h => ?_) ?_
 ·unfold spec_l1Split_k1 at h
  replace h := bs h
  obtain ⟨u2, hu2, h⟩ := h
  replace h := bs h
  obtain ⟨u3, hu3, h⟩ := h
  refine k_sreg (r_gq [(4, .ov false [.sl (some 9) ((x1.1 ++ [(strCut a0 x1.2 (a0.size : Int))]).map eT)])] [(3, {pv := some (.string (strCut a0 x1.2 (a0.size : Int)))}), (5, {fix := some (33, .ov false [.sl (some 9) ((x1.1 ++ [(strCut a0 x1.2 (a0.size : Int))]).map eT)])})] (A4 (show PureAt Tryd.prog (.slice 9 (.tmp 29) (some (.tmp 30)) none none) [.string a0, .int .i64 x1.2] (.string (strCut a0 x1.2 (a0.size : Int))) from (pure_sfrom (by kernel_rfl) (guardO_some hu2))) (show List.length ((x1.1.map eT) : List (List C)) + List.length ((([(strCut a0 x1.2 (a0.size : Int))]).map eT) : List (List C)) ≤ 1099511627776 from (by have hg := (guardO_some hu3); simpa using hg)) (show ∀ row ∈ ((([(strCut a0 x1.2 (a0.size : Int))]).map eT) : List (List C)), row.length = 1 from (rows_len fun _ => rfl)) (show (SV.ov false [.sl (some 9) ((x1.1.map eT) ++ (([(strCut a0 x1.2 (a0.size : Int))]).map eT))] : SV) = .ov false [.sl (some 9) ((x1.1 ++ [(strCut a0 x1.2 (a0.size : Int))]).map eT)] from (congrArg (fun z => SV.ov false [.sl (some 9) z]) (List.map_append ..).symm)))) ?_
  refine k_ret ?_
  obtain rfl := oi h
  exact er [(.ov false [.sl (some 9) ((x1.1 ++ [(strCut a0 x1.2 (a0.size : Int))]).map eT)], 4)]
 ·refine k_sreg (r_gq [(0, .p (.string a0)), (1, .p (.int .u8 a1)), (5, .ov false [.sl (some 9) []]), (6, .p (iV 0)), (7, .p (iV 0))] [] trivial) ?_
  refine k_block ?_
  obtain ⟨y5, hl_x4, hk_x4⟩ := bs h
  clear h
  refine k_loop (J := fun (x : ((List ByteArray) × Int × Int)) => [(0, .p (.string a0)), (1, .p (.int .u8 a1)), (5, .ov false [.sl (some 9) (x.1.map eT)]), (6, .p (iV x.2.1)), (7, .p (iV x.2.2))]) hl_x4 (wk_of (by kernel_rfl) (by kernel_rfl)) (fun x4 o_x4 h hy_x4 => ?_)
  unfold spec_l1Split_b1 at h
  refine k_seq ?_
  refine k_sreg (r_gq [(0, .p (.string a0)), (1, .p (.int .u8 a1)), (5, .ov false [.sl (some 9) (x4.1.map eT)]), (6, .p (iV x4.2.1)), (7, .p (iV x4.2.2)), (11, .p (.bool (decide (x4.2.2 < (a0.size : Int)))))] [] trivial) ?_
  refine kc (decide (x4.2.2 < (a0.size : Int))) (fun hc5_5 => ?_) (fun hc5_5 => ?_)
  ·replace h := ite_t hc5_5 h
   refine k_skip ?_
   refine q_n ?_
   refine k_seq ?_
   refine k_block ?_
   replace h := bs h
   obtain ⟨u7, hu7, h⟩ := h
   refine k_sreg (r_gq [(0, .p (.string a0)), (1, .p (.int .u8 a1)), (5, .ov false [.sl (some 9) (x4.1.map eT)]), (6, .p (iV x4.2.1)), (7, .p (iV x4.2.2)), (18, .p (.bool ((strAt a0 x4.2.2) == a1)))] [(2, {pv := some (.int .u8 (strAt a0 x4.2.2))})] (A1 (show PureAt Tryd.prog (.index 9 (.tmp 14) (.tmp 15)) [.string a0, .int .i64 x4.2.2] (.int .u8 (strAt a0 x4.2.2)) from (pure_sidx (by kernel_rfl) (guardO_some hu7))))) ?_
   refine kc ((strAt a0 x4.2.2) == a1) (fun hc6_7 => ?_) (fun hc6_7 => ?_)
   ·replace h := ite_t hc6_7 h
    replace h := bs h
    obtain ⟨u9, hu9, h⟩ := h
    replace h := bs h
    obtain ⟨u10, hu10, h⟩ := h
    refine k_sreg (r_gq [(0, .p (.string a0)), (1, .p (.int .u8 a1)), (5, .ov false [.sl (some 9) ((x4.1 ++ [(strCut a0 x4.2.1 x4.2.2)]).map eT)]), (7, .p (iV x4.2.2))] [(4, {pv := some (.string (strCut a0 x4.2.1 x4.2.2))}), (6, {fix := some (25, .ov false [.sl (some 9) ((x4.1 ++ [(strCut a0 x4.2.1 x4.2.2)]).map eT)])})] (A4 (show PureAt Tryd.prog (.slice 9 (.tmp 20) (some (.tmp 21)) (some (.tmp 22)) none) [.string a0, .int .i64 x4.2.1, .int .i64 x4.2.2] (.string (strCut a0 x4.2.1 x4.2.2)) from (pure_scut (by kernel_rfl) (guardO_some hu9))) (show List.length ((x4.1.map eT) : List (List C)) + List.length ((([(strCut a0 x4.2.1 x4.2.2)]).map eT) : List (List C)) ≤ 1099511627776 from (by have hg := (guardO_some hu10); simpa using hg)) (show ∀ row ∈ ((([(strCut a0 x4.2.1 x4.2.2)]).map eT) : List (List C)), row.length = 1 from (rows_len fun _ => rfl)) (show (SV.ov false [.sl (some 9) ((x4.1.map eT) ++ (([(strCut a0 x4.2.1 x4.2.2)]).map eT))] : SV) = .ov false [.sl (some 9) ((x4.1 ++ [(strCut a0 x4.2.1 x4.2.2)]).map eT)] from (congrArg (fun z => SV.ov false [.sl (some 9) z]) (List.map_append ..).symm)))) ?_
    refine k_reg (r_gq [(0, .p (.string a0)), (1, .p (.int .u8 a1)), (5, .ov false [.sl (some 9) ((x4.1 ++ [(strCut a0 x4.2.1 x4.2.2)]).map eT)]), (6, .p (iV (w64 (x4.2.2 + 1)))), (7, .p (iV x4.2.2))] [] trivial) ?_
    refine b_n ?_
    refine q_n ?_
    refine k_reg (r_gq [(0, .p (.string a0)), (1, .p (.int .u8 a1)), (5, .ov false [.sl (some 9) ((x4.1 ++ [(strCut a0 x4.2.1 x4.2.2)]).map eT)]), (6, .p (iV (w64 (x4.2.2 + 1)))), (7, .p (iV (w64 (x4.2.2 + 1))))] [] trivial) ?_
    exact lqn ((x4.1 ++ [(strCut a0 x4.2.1 x4.2.2)]), (w64 (x4.2.2 + 1)), (w64 (x4.2.2 + 1))) h
   ·replace h := ite_f hc6_7 h
    refine k_skip ?_
    refine b_n ?_
    refine q_n ?_
    refine k_reg (r_gq [(0, .p (.string a0)), (1, .p (.int .u8 a1)), (5, .ov false [.sl (some 9) (x4.1.map eT)]), (6, .p (iV x4.2.1)), (7, .p (iV (w64 (x4.2.2 + 1))))] [] trivial) ?_
    exact lqn (x4.1, x4.2.1, (w64 (x4.2.2 + 1))) h
  ·replace h := ite_f hc5_5 h
   refine k_exit ?_
   refine q_x ?_
   refine lq_x ?_
   refine b_x ?_
   have hyy := hy_x4 _ (oi h).symm
   subst hyy
   have h := hk_x4
   refine q_n ?_
   exact jx (x4.1, x4.2.1) h
theorem wk_spec_l1In {a0 : Int} {a1 : Int} {a2 : Int}  {r : Bool} (h : spec_l1In a0 a1 a2 = some r) : Meets Tryd.prog 34 [wI a0, wI a1, wI a2] { vals := [.p (.bool r)] } := by
 refine mo Tryd.func34 [(0, .p (iV a0)), (1, .p (iV a1)), (2, .p (iV a2))] ?_
 unfold spec_l1In at h
 refine k_sreg (r_gq [(0, .p (iV a0)), (1, .p (iV a1)), (2, .p (iV a2))] [] trivial) ?_
 refine k_sreg (l1 := [(6, .p (.bool ((decide (a0 ≥ a1)) && (decide (a0 ≤ a2)))))]) ?_ ?_
 ·rcases ft (decide (a0 ≥ a1)) with ha0 | ha0
  ·exact RegOk.of_eq (l2 := [(6, .p (.bool ((decide (a0 ≥ a1)) && (decide (a0 ≤ a2)))))]) (r_gq [(6, .p (.bool (decide (a0 ≤ a2))))] [(4, gT), (5, gT), (6, gT), (7, bT)] (A4 ha0 ha0 ha0 ha0)) (by simp [ha0])
  ·exact RegOk.of_eq (l2 := [(6, .p (.bool ((decide (a0 ≥ a1)) && (decide (a0 ≤ a2)))))]) (r_gq [(6, .p (.bool false))] [(4, gF), (5, gF), (6, gF), (7, bF)] (A4 ha0 ha0 ha0 ha0)) (by simp [ha0])
 ·refine k_ret ?_
  obtain rfl := oi h
  exact er [(.p (.bool ((decide (a0 ≥ a1)) && (decide (a0 ≤ a2)))), 6)]
theorem wk_spec_raRead {a0 : ByteArray}  {r : Int} (h : spec_raRead a0 = some r) : Meets Tryd.prog 18 [.v (.string a0)] { vals := [.p (iV r)] } := by
 refine mo Tryd.func18 [(0, .p (.string a0))] ?_
 unfold spec_raRead at h
 refine k_sreg (r_gq [(0, .p (.string a0))] [] trivial) ?_
 refine k_seq ?_
 replace h := bs h
 obtain ⟨v1, hv1, h⟩ := h
 replace h := bs h
 obtain ⟨w3, hw3, h⟩ := h
 refine k_sreg (l1 := [(0, .p (.string a0)), (18, .p (.bool w3))]) ?_ ?_
 ·clear h
  rcases ft (!v1) with ha0 | ha0
  ·replace hw3 := ite_t ha0 hw3
   have hw3 := oi hw3
   subst hw3
   exact (r_gq [(0, .p (.string a0)), (18, .p (.bool true))] [(2, {call := some (none, [.p (.bool v1)], true)}), (5, gT), (6, gT), (7, gT), (8, gT), (12, gT), (13, bT)] (B6 (wk_spec_l1In hv1) ha0 ha0 ha0 ha0 ha0 (A1 ha0)))
  ·replace hw3 := ite_f ha0 hw3
   replace hw3 := bs hw3
   obtain ⟨u2, hu2, hw3⟩ := hw3
   rcases ft ((strAt a0 0) == 48) with ha1 | ha1
   ·replace hw3 := ite_t ha1 hw3
    have hw3 := oi hw3
    subst hw3
    exact (r_gq [(0, .p (.string a0)), (18, .p (.bool (decide ((a0.size : Int) > 1))))] [(2, {call := some (none, [.p (.bool v1)], true)}), (5, gF), (6, {g := some false, pv := some (.int .u8 (strAt a0 0))}), (7, gF), (8, gF), (9, gT), (10, gT), (11, gT), (12, {g := some false, b := some true}), (13, bF)] (B6 (wk_spec_l1In hv1) ha0 ha0 (show PureAt Tryd.prog (.index 9 (.tmp 10) (.const (iV 0))) [.string a0, .int .i64 0] (.int .u8 (strAt a0 0)) from (pure_sidx (by kernel_rfl) (guardO_some hu2))) ha0 ha0 (A6 ha1 ha1 ha1 ha0 ha1 ha0)))
   ·replace hw3 := ite_f ha1 hw3
    have hw3 := oi hw3
    subst hw3
    exact (r_gq [(0, .p (.string a0)), (18, .p (.bool false))] [(2, {call := some (none, [.p (.bool v1)], true)}), (5, gF), (6, {g := some false, pv := some (.int .u8 (strAt a0 0))}), (7, gF), (8, gF), (9, gF), (10, gF), (11, gF), (12, {g := some false, b := some false}), (13, bF)] (B6 (wk_spec_l1In hv1) ha0 ha0 (show PureAt Tryd.prog (.index 9 (.tmp 10) (.const (iV 0))) [.string a0, .int .i64 0] (.int .u8 (strAt a0 0)) from (pure_sidx (by kernel_rfl) (guardO_some hu2))) ha0 ha0 (A6 ha1 ha1 ha1 ha0 ha1 ha0)))
 ·refine kc w3 (fun hc2_3 => ?_) (fun hc2_3 => ?_)
  ·replace h := ite_t hc2_3 h
   refine k_sreg (r_gq [(2, .p (iV (-1)))] [] trivial) ?_
   refine k_ret ?_
   refine q_r ?_
   obtain rfl := oi h
   exact er [(.p (iV (-1)), 2)]
  ·replace h := ite_f hc2_3 h
   refine k_skip ?_
   refine q_n ?_
   refine k_sreg (r_gq [(0, .p (.string a0)), (3, .p (iV 0))] [] trivial) ?_
   refine k_join (J := fun (x : Int) => [(3, .p (iV x))]) (K := fun x => spec_raRead_k1 x = some r) (fun x5 h => ?_) ?_
   ·unfold spec_raRead_k1 at h
    refine k_sreg (r_gq [(2, .p (iV x5))] [] trivial) ?_
    refine k_ret ?_
    obtain rfl := oi h
    exact er [(.p (iV x5), 2)]
   ·refine k_sreg (r_gq [(0, .p (.string a0)), (3, .p (iV 0)), (4, .p (iV 0))] [] trivial) ?_
    refine k_block ?_
    obtain ⟨y7, hl_x6, hk_x6⟩ := bs h
    clear h
    refine k_loop (J := fun (x : Qr) => [(0, .p (.string a0)), (3, .p (iV x.1)), (4, .p (iV x.2))]) hl_x6 (wk_of (by kernel_rfl) (by kernel_rfl)) (fun x6 o_x6 h hy_x6 => ?_)
    unfold spec_raRead_b1 at h
    refine k_seq ?_
    refine k_sreg (r_gq [(0, .p (.string a0)), (3, .p (iV x6.1)), (4, .p (iV x6.2)), (22, .p (.bool (decide (x6.2 < (a0.size : Int)))))] [] trivial) ?_
    refine kc (decide (x6.2 < (a0.size : Int))) (fun hc5_7 => ?_) (fun hc5_7 => ?_)
    ·replace h := ite_t hc5_7 h
     refine k_skip ?_
     refine q_n ?_
     refine k_seq ?_
     refine k_block ?_
     refine k_seq ?_
     replace h := bs h
     obtain ⟨u9, hu9, h⟩ := h
     refine k_sreg (l1 := [(0, .p (.string a0)), (3, .p (iV x6.1)), (4, .p (iV x6.2)), (34, .p (.bool ((decide ((strAt a0 x6.2) < 48)) || (decide ((strAt a0 x6.2) > 57)))))]) ?_ ?_
     ·rcases ft (decide ((strAt a0 x6.2) < 48)) with ha2 | ha2
      ·exact RegOk.of_eq (l2 := [(0, .p (.string a0)), (3, .p (iV x6.1)), (4, .p (iV x6.2)), (34, .p (.bool ((decide ((strAt a0 x6.2) < 48)) || (decide ((strAt a0 x6.2) > 57)))))]) (r_gq [(0, .p (.string a0)), (3, .p (iV x6.1)), (4, .p (iV x6.2)), (34, .p (.bool true))] [(2, {pv := some (.int .u8 (strAt a0 x6.2))}), (5, gT), (6, gT), (7, gT), (8, gT), (9, bT)] (A6 (show PureAt Tryd.prog (.index 9 (.tmp 25) (.tmp 26)) [.string a0, .int .i64 x6.2] (.int .u8 (strAt a0 x6.2)) from (pure_sidx (by kernel_rfl) (guardO_some hu9))) ha2 ha2 ha2 ha2 ha2)) (by simp [ha2])
      ·exact RegOk.of_eq (l2 := [(0, .p (.string a0)), (3, .p (iV x6.1)), (4, .p (iV x6.2)), (34, .p (.bool ((decide ((strAt a0 x6.2) < 48)) || (decide ((strAt a0 x6.2) > 57)))))]) (r_gq [(0, .p (.string a0)), (3, .p (iV x6.1)), (4, .p (iV x6.2)), (34, .p (.bool (decide ((strAt a0 x6.2) > 57))))] [(2, {pv := some (.int .u8 (strAt a0 x6.2))}), (5, gF), (6, gF), (7, {g := some false, pv := some (.int .u8 (strAt a0 x6.2))}), (8, gF), (9, bF)] (B6 (show PureAt Tryd.prog (.index 9 (.tmp 25) (.tmp 26)) [.string a0, .int .i64 x6.2] (.int .u8 (strAt a0 x6.2)) from (pure_sidx (by kernel_rfl) (guardO_some hu9))) ha2 ha2 ha2 (show PureAt Tryd.prog (.index 9 (.tmp 30) (.tmp 31)) [.string a0, .int .i64 x6.2] (.int .u8 (strAt a0 x6.2)) from (pure_sidx (by kernel_rfl) (guardO_some hu9))) ha2 (A1 ha2))) (by simp [ha2])
     ·refine kc ((decide ((strAt a0 x6.2) < 48)) || (decide ((strAt a0 x6.2) > 57))) (fun hc7_9 => ?_) (fun hc7_9 => ?_)
      ·replace h := ite_t hc7_9 h
       refine k_sreg (r_gq [(2, .p (iV (-1)))] [] trivial) ?_
       refine k_ret ?_
       refine q_r ?_
       refine b_r ?_
       refine q_r ?_
       refine lq_r ?_
       refine b_r ?_
       refine q_r ?_
       have hyy := hy_x6 _ (oi h).symm
       subst hyy
       have h := hk_x6
       dsimp only [Sum.elim] at h
       obtain rfl := oi h
       exact er [(.p (iV (-1)), 2)]
      ·replace h := ite_f hc7_9 h
       refine k_skip ?_
       refine q_n ?_
       refine k_reg (r_gq [(0, .p (.string a0)), (3, .p (iV (w64 ((w64 (10 * x6.1)) + (IntKind.wrap .i64 (IntKind.wrap .u8 ((strAt a0 x6.2) - 48))))))), (4, .p (iV x6.2))] [(4, {pv := some (.int .u8 (strAt a0 x6.2))}), (6, {pv := some (iV (IntKind.wrap .i64 (IntKind.wrap .u8 ((strAt a0 x6.2) - 48))))})] (A2 (show PureAt Tryd.prog (.index 9 (.tmp 37) (.tmp 38)) [.string a0, .int .i64 x6.2] (.int .u8 (strAt a0 x6.2)) from (pure_sidx (by kernel_rfl) (guardO_some hu9))) (show PureAt Tryd.prog (.convert 5 3 (.tmp 40)) [.int .u8 (IntKind.wrap .u8 ((strAt a0 x6.2) - 48))] (iV (IntKind.wrap .i64 (IntKind.wrap .u8 ((strAt a0 x6.2) - 48)))) from (pure_conv Tryd_und5 Tryd_und3)))) ?_
       refine b_n ?_
       refine q_n ?_
       refine k_reg (r_gq [(0, .p (.string a0)), (3, .p (iV (w64 ((w64 (10 * x6.1)) + (IntKind.wrap .i64 (IntKind.wrap .u8 ((strAt a0 x6.2) - 48))))))), (4, .p (iV (w64 (x6.2 + 1))))] [] trivial) ?_
       exact lqn ((w64 ((w64 (10 * x6.1)) + (IntKind.wrap .i64 (IntKind.wrap .u8 ((strAt a0 x6.2) - 48))))), (w64 (x6.2 + 1))) h
    ·replace h := ite_f hc5_7 h
     refine k_exit ?_
     refine q_x ?_
     refine lq_x ?_
     refine b_x ?_
     have hyy := hy_x6 _ (oi h).symm
     subst hyy
     have h := hk_x6
     dsimp only [Sum.elim] at h
     refine q_n ?_
     exact jx x6.1 h
theorem wk_spec_l1Most {a0 : Int} {a1 : Int}  {r : Int} (h : spec_l1Most a0 a1 = some r) : Meets Tryd.prog 51 [wI a0, wI a1] { vals := [.p (iV r)] } := by
 refine mo Tryd.func51 [(0, .p (iV a0)), (1, .p (iV a1))] ?_
 unfold spec_l1Most at h
 refine k_sreg (r_gq [(0, .p (iV a0)), (1, .p (iV a1))] [] trivial) ?_
 refine k_seq ?_
 refine k_sreg (r_gq [(0, .p (iV a0)), (1, .p (iV a1)), (7, .p (.bool (decide (a0 > a1))))] [] trivial) ?_
 refine kc (decide (a0 > a1)) (fun hc2_0 => ?_) (fun hc2_0 => ?_)
 ·replace h := ite_t hc2_0 h
  refine k_sreg (r_gq [(4, .p (iV a0))] [] trivial) ?_
  refine k_ret ?_
  refine q_r ?_
  obtain rfl := oi h
  exact er [(.p (iV a0), 4)]
 ·replace h := ite_f hc2_0 h
  refine k_skip ?_
  refine q_n ?_
  refine k_sreg (r_gq [(4, .p (iV a1))] [] trivial) ?_
  refine k_ret ?_
  obtain rfl := oi h
  exact er [(.p (iV a1), 4)]
theorem wk_spec_l1Abs {a0 : Int}  {r : Int} (h : spec_l1Abs a0 = some r) : Meets Tryd.prog 36 [wI a0] { vals := [.p (iV r)] } := by
 refine mo Tryd.func36 [(0, .p (iV a0))] ?_
 unfold spec_l1Abs at h
 refine k_sreg (r_gq [(0, .p (iV a0))] [] trivial) ?_
 replace h := bs h
 obtain ⟨v1, hv1, h⟩ := h
 refine k_sreg (r_gq [(2, .p (iV v1))] [(3, {call := some (none, [.p (iV v1)], true)})] (A1 (wk_spec_l1Most hv1))) ?_
 refine k_ret ?_
 obtain rfl := oi h
 exact er [(.p (iV v1), 2)]
theorem wk_spec_raCommon {a0 : Int} {a1 : Int}  {r : Int} (h : spec_raCommon a0 a1 = some r) : Meets Tryd.prog 35 [wI a0, wI a1] { vals := [.p (iV r)] } := by
 refine mo Tryd.func35 [(0, .p (iV a0)), (1, .p (iV a1))] ?_
 unfold spec_raCommon at h
 refine k_sreg (r_gq [(0, .p (iV a0)), (1, .p (iV a1))] [] trivial) ?_
 refine k_join (J := fun (x : Int) => [(0, .p (iV x))]) (K := fun x => spec_raCommon_k1 x = some r) (fun x1 h => ?_) ?_
 ·unfold spec_raCommon_k1 at h
  refine k_sreg (r_gq [(4, .p (iV x1))] [] trivial) ?_
  refine k_ret ?_
  obtain rfl := oi h
  exact er [(.p (iV x1), 4)]
 ·refine k_block ?_
  obtain ⟨y3, hl_x2, hk_x2⟩ := bs h
  clear h
  refine k_loop (J := fun (x : Qr) => [(0, .p (iV x.1)), (1, .p (iV x.2))]) hl_x2 (wk_of (by kernel_rfl) (by kernel_rfl)) (fun x2 o_x2 h hy_x2 => ?_)
  unfold spec_raCommon_b1 at h
  refine k_seq ?_
  refine k_sreg (r_gq [(0, .p (iV x2.1)), (1, .p (iV x2.2)), (7, .p (.bool (decide (x2.2 > 0))))] [] trivial) ?_
  refine kc (decide (x2.2 > 0)) (fun hc5_3 => ?_) (fun hc5_3 => ?_)
  ·replace h := ite_t hc5_3 h
   refine k_skip ?_
   refine q_n ?_
   refine k_block ?_
   replace h := bs h
   obtain ⟨u5, hu5, h⟩ := h
   refine k_sreg (r_gq [(1, .p (iV x2.2)), (5, .p (iV (Int.tmod x2.1 x2.2)))] [] (A1 (guardO_some hu5))) ?_
   refine k_sreg (r_gq [(0, .p (iV x2.2)), (5, .p (iV (Int.tmod x2.1 x2.2)))] [] trivial) ?_
   refine k_reg (r_gq [(0, .p (iV x2.2)), (1, .p (iV (Int.tmod x2.1 x2.2)))] [] trivial) ?_
   refine b_n ?_
   exact lqn (x2.2, (Int.tmod x2.1 x2.2)) h
  ·replace h := ite_f hc5_3 h
   refine k_exit ?_
   refine q_x ?_
   refine lq_x ?_
   refine b_x ?_
   have hyy := hy_x2 _ (oi h).symm
   subst hyy
   have h := hk_x2
   refine q_n ?_
   exact jx x2.1 h
theorem wk_spec_raGood {a0 : Qr}  {r : Bool} (h : spec_raGood a0 = some r) : Meets Tryd.prog 19 [.v (vRt a0)] { vals := [.p (.bool r)] } := by
 refine mo Tryd.func19 [(0, .p (vRt a0))] ?_
 unfold spec_raGood at h
 refine k_sreg (r_gq [(1, .box (eRt a0))] [] trivial) ?_
 replace h := bs h
 obtain ⟨v1, hv1, h⟩ := h
 replace h := bs h
 obtain ⟨w5, hw5, h⟩ := h
 refine k_sreg (l1 := [(2, .p (.bool w5))]) ?_ ?_
 ·clear h
  rcases ft v1 with ha0 | ha0
  ·replace hw5 := ite_t ha0 hw5
   replace hw5 := bs hw5
   obtain ⟨v2, hv2, hw5⟩ := hw5
   rcases ft v2 with ha1 | ha1
   ·replace hw5 := ite_t ha1 hw5
    replace hw5 := bs hw5
    obtain ⟨v3, hv3, hw5⟩ := hw5
    replace hw5 := bs hw5
    obtain ⟨v4, hv4, hw5⟩ := hw5
    have hw5 := oi hw5
    subst hw5
    exact (r_dq Tryd_mixed 14 [] [(2, .p (.bool (v4 == 1)))] [(2, {call := some (none, [.p (.bool v1)], true)}), (4, gT), (5, gT), (6, {g := some true, call := some (none, [.p (.bool v2)], true)}), (7, bT), (9, gT), (10, gT), (11, {g := some true, call := some (none, [.p (iV v3)], true)}), (12, gT), (13, gT), (14, {g := some true, call := some (none, [.p (iV v4)], true)}), (15, gT), (16, bT)] (B6 (wk_spec_l1In hv1) ha0 ha0 ha0 (wk_spec_l1In hv2) ha0 (B6 ha1 ha1 ha1 (wk_spec_l1Abs hv3) ha1 ha1 (A4 ha1 (wk_spec_raCommon hv4) ha1 ha1))))
   ·replace hw5 := ite_f ha1 hw5
    have hw5 := oi hw5
    subst hw5
    exact (r_dq Tryd_mixed 14 [] [(2, .p (.bool false))] [(2, {call := some (none, [.p (.bool v1)], true)}), (4, gT), (5, gT), (6, {g := some true, call := some (none, [.p (.bool v2)], true)}), (7, bT), (9, gF), (10, gF), (11, gF), (12, gF), (13, gF), (14, gF), (15, gF), (16, bF)] (B6 (wk_spec_l1In hv1) ha0 ha0 ha0 (wk_spec_l1In hv2) ha0 (B6 ha1 ha1 ha1 ha1 ha1 ha1 (A2 ha1 ha1))))
  ·replace hw5 := ite_f ha0 hw5
   have hw5 := oi hw5
   subst hw5
   exact (r_dq Tryd_mixed 14 [] [(2, .p (.bool false))] [(2, {call := some (none, [.p (.bool v1)], true)}), (4, gF), (5, gF), (6, gF), (7, bF), (9, gF), (10, gF), (11, gF), (12, gF), (13, gF), (14, gF), (15, gF), (16, bF)] (B6 (wk_spec_l1In hv1) ha0 ha0 ha0 ha0 (show false = false from rfl) (B6 (show false = false from rfl) (show false = false from rfl) (show false = false from rfl) (show false = false from rfl) (show false = false from rfl) (show false = false from rfl) (A1 (show false = false from rfl)))))
 ·refine k_ret ?_
  obtain rfl := oi h
  exact er [(.p (.bool w5), 2)]
theorem wk_spec_l1Num_r {rc : (Int → Option ByteArray)} {a0 : Int} (hrc : ∀ x0 y, rc x0 = some y → Meets Tryd.prog 38 [wI x0] { vals := [.p (.string y)] }) {r : ByteArray} (h : spec_l1Num_r rc a0 = some r) : Meets Tryd.prog 38 [wI a0] { vals := [.p (.string r)] } := by
 refine mo Tryd.func38 [(0, .p (iV a0))] ?_
 unfold spec_l1Num_r at h
 refine k_sreg (r_gq [(0, .p (iV a0))] [] trivial) ?_
 refine k_seq ?_
 refine k_sreg (r_gq [(0, .p (iV a0)), (4, .p (.bool (decide (a0 < 10))))] [] trivial) ?_
 refine kc (decide (a0 < 10)) (fun hc2_0 => ?_) (fun hc2_0 => ?_)
 ·replace h := ite_t hc2_0 h
  refine k_sreg (r_gq [(2, .p (.string (byteB (IntKind.wrap .u8 (w64 (48 + a0))))))] [(2, {pv := some (.int .u8 (IntKind.wrap .u8 (w64 (48 + a0))))}), (4, {bts := some [UInt8.ofNat (Int.toNat (IntKind.wrap .u8 (w64 (48 + a0))))]})] (A2 (show PureAt Tryd.prog (.convert 3 5 (.tmp 6)) [.int .i64 (w64 (48 + a0))] (.int .u8 (IntKind.wrap .u8 (w64 (48 + a0)))) from (pure_conv Tryd_und3 Tryd_und5)) (show ([UInt8.ofNat (Int.toNat (IntKind.wrap .u8 (w64 (48 + a0))))] ≠ [] ∧ [[C.raw (.int .u8 (IntKind.wrap .u8 (w64 (48 + a0))))]] = [UInt8.ofNat (Int.toNat (IntKind.wrap .u8 (w64 (48 + a0))))].map fun c => [C.raw (.int .u8 (c.toNat : Int))]) from bts1))) ?_
  refine k_ret ?_
  refine q_r ?_
  obtain rfl := oi h
  exact er [(.p (.string (byteB (IntKind.wrap .u8 (w64 (48 + a0))))), 2)]
 ·replace h := ite_f hc2_0 h
  refine k_skip ?_
  refine q_n ?_
  replace h := bs h
  obtain ⟨v2, hv2, h⟩ := h
  replace h := bs h
  obtain ⟨u3, hu3, h⟩ := h
  refine k_sreg (r_dq Tryd_mixed 9 [] [(2, .p (.string (v2 ++ (byteB (IntKind.wrap .u8 (w64 (48 + (Int.tmod a0 10))))))))] [(2, {call := some (none, [.p (.string v2)], true)}), (6, {pv := some (.int .u8 (IntKind.wrap .u8 (w64 (48 + (Int.tmod a0 10)))))}), (8, {bts := some [UInt8.ofNat (Int.toNat (IntKind.wrap .u8 (w64 (48 + (Int.tmod a0 10)))))]})] (A6 (show 10 ≠ (0 : Int) from (by decide)) (hrc _ _ hv2) (show 10 ≠ (0 : Int) from (by decide)) (show PureAt Tryd.prog (.convert 3 5 (.tmp 15)) [.int .i64 (w64 (48 + (Int.tmod a0 10)))] (.int .u8 (IntKind.wrap .u8 (w64 (48 + (Int.tmod a0 10))))) from (pure_conv Tryd_und3 Tryd_und5)) (show ([UInt8.ofNat (Int.toNat (IntKind.wrap .u8 (w64 (48 + (Int.tmod a0 10)))))] ≠ [] ∧ [[C.raw (.int .u8 (IntKind.wrap .u8 (w64 (48 + (Int.tmod a0 10)))))]] = [UInt8.ofNat (Int.toNat (IntKind.wrap .u8 (w64 (48 + (Int.tmod a0 10)))))].map fun c => [C.raw (.int .u8 (c.toNat : Int))]) from bts1) (guardO_some hu3))) ?_
  refine k_ret ?_
  obtain rfl := oi h
  exact er [(.p (.string (v2 ++ (byteB (IntKind.wrap .u8 (w64 (48 + (Int.tmod a0 10))))))), 2)]
theorem wk_spec_l1Num_f : ∀ (k : Nat) {a0 : Int} {r : ByteArray} (h : spec_l1Num_f k a0 = some r), Meets Tryd.prog 38 [wI a0] { vals := [.p (.string r)] }
 | 0, _, _, h => by cases h
 | k + 1, _, _, h => wk_spec_l1Num_r (fun _ _ hy => wk_spec_l1Num_f k hy) h
theorem wk_spec_l1Num {a0 : Int} {r : ByteArray} (h : spec_l1Num a0 = some r) : Meets Tryd.prog 38 [wI a0] { vals := [.p (.string r)] } := by
 obtain ⟨k, hk⟩ := fuelO_some h
 exact wk_spec_l1Num_f k hk
theorem wk_spec_l1Int {a0 : Int}  {r : ByteArray} (h : spec_l1Int a0 = some r) : Meets Tryd.prog 37 [wI a0] { vals := [.p (.string r)] } := by
 refine mo Tryd.func37 [(0, .p (iV a0))] ?_
 unfold spec_l1Int at h
 refine k_sreg (r_gq [(0, .p (iV a0))] [] trivial) ?_
 refine k_seq ?_
 refine k_sreg (r_gq [(0, .p (iV a0)), (4, .p (.bool (decide (a0 < 0))))] [] trivial) ?_
 refine kc (decide (a0 < 0)) (fun hc2_0 => ?_) (fun hc2_0 => ?_)
 ·replace h := ite_t hc2_0 h
  replace h := bs h
  obtain ⟨v2, hv2, h⟩ := h
  replace h := bs h
  obtain ⟨u3, hu3, h⟩ := h
  refine k_sreg (r_gq [(2, .p (.string ((ByteArray.mk #[45]) ++ v2)))] [(2, {call := some (none, [.p (.string v2)], true)})] (A2 (wk_spec_l1Num hv2) (guardO_some hu3))) ?_
  refine k_ret ?_
  refine q_r ?_
  obtain rfl := oi h
  exact er [(.p (.string ((ByteArray.mk #[45]) ++ v2)), 2)]
 ·replace h := ite_f hc2_0 h
  refine k_skip ?_
  refine q_n ?_
  replace h := bs h
  obtain ⟨v4, hv4, h⟩ := h
  refine k_sreg (r_gq [(2, .p (.string v4))] [(1, {call := some (none, [.p (.string v4)], true)})] (A1 (wk_spec_l1Num hv4))) ?_
  refine k_ret ?_
  obtain rfl := oi h
  exact er [(.p (.string v4), 2)]
theorem wk_spec_raText {a0 : Qr}  {r : ByteArray} (h : spec_raText a0 = some r) : Meets Tryd.prog 20 [.v (vRt a0)] { vals := [.p (.string r)] } := by
 refine mo Tryd.func20 [(0, .p (vRt a0))] ?_
 unfold spec_raText at h
 refine k_sreg (r_gq [(1, .box (eRt a0))] [] trivial) ?_
 replace h := bs h
 obtain ⟨v1, hv1, h⟩ := h
 replace h := bs h
 obtain ⟨u2, hu2, h⟩ := h
 replace h := bs h
 obtain ⟨v3, hv3, h⟩ := h
 replace h := bs h
 obtain ⟨u4, hu4, h⟩ := h
 refine k_sreg (r_dq Tryd_mixed 7 [] [(2, .p (.string ((v1 ++ (ByteArray.mk #[47])) ++ v3)))] [(2, {call := some (none, [.p (.string v1)], true)}), (6, {call := some (none, [.p (.string v3)], true)})] (A4 (wk_spec_l1Int hv1) (guardO_some hu2) (wk_spec_l1Num hv3) (guardO_some hu4))) ?_
 refine k_ret ?_
 obtain rfl := oi h
 exact er [(.p (.string ((v1 ++ (ByteArray.mk #[47])) ++ v3)), 2)]
theorem wk_spec_raParse {a0 : ByteArray}  {r : (Qr × Bool)} (h : spec_raParse a0 = some r) : Meets Tryd.prog 10 [.v (.string a0)] { vals := [.p (vRt r.1), .p (.bool r.2)] } := by
 refine mo Tryd.func10 [(0, .p (.string a0))] ?_
 unfold spec_raParse at h
 refine k_sreg (r_gq [(0, .p (.string a0)), (2, .box [rI 0, rI 0])] [] trivial) ?_
 replace h := bs h
 obtain ⟨v1, hv1, h⟩ := h
 refine k_sreg (r_gq [(0, .p (.string a0)), (2, .box [rI 0, rI 0]), (4, .ov false [.sl (some 9) (v1.map eT)])] [(1, {call := some (none, [.ov false [.sl (some 9) (v1.map eT)]], true)})] (A2 (wk_spec_l1Split hv1) (show List.all [.ov false [.sl (some 9) (v1.map eT)]] simpleR = true from (sa_o (wnR1 (wnL_enc wn_T) rfl) rfl)))) ?_
 refine k_seq ?_
 replace h := bs h
 obtain ⟨w3, hw3, h⟩ := h
 refine k_sreg (l1 := [(0, .p (.string a0)), (2, .box [rI 0, rI 0]), (4, .ov false [.sl (some 9) (v1.map eT)]), (23, .p (.bool w3))]) ?_ ?_
 ·clear h
  rcases ft (decide ((a0.size : Int) > 22)) with ha0 | ha0
  ·replace hw3 := ite_t ha0 hw3
   have hw3 := oi hw3
   subst hw3
   exact (r_gq [(0, .p (.string a0)), (2, .box [rI 0, rI 0]), (4, .ov false [.sl (some 9) (v1.map eT)]), (23, .p (.bool true))] [(4, gT), (5, gT), (6, gT), (7, bT), (9, gT), (10, gT), (11, gT), (12, gT), (13, gT), (14, bT)] (B6 ha0 ha0 ha0 ha0 (show true = true from rfl) (show true = true from rfl) (A4 (show true = true from rfl) (show true = true from rfl) (show true = true from rfl) (show true = true from rfl))))
  ·replace hw3 := ite_f ha0 hw3
   rcases ft ((v1.length : Int) != 2) with ha1 | ha1
   ·replace hw3 := ite_t ha1 hw3
    have hw3 := oi hw3
    subst hw3
    exact (r_gq [(0, .p (.string a0)), (2, .box [rI 0, rI 0]), (4, .ov false [.sl (some 9) (v1.map eT)]), (23, .p (.bool true))] [(4, gF), (5, {g := some false, n := some v1.length}), (6, gF), (7, bF), (9, gT), (10, gT), (11, gT), (12, gT), (13, gT), (14, bT)] (B6 ha0 ha0 (show (v1.map eT).length = v1.length from (List.length_map ..)) ha0 ha0 ha1 (A5 ha1 ha1 ha1 ha1 ha1)))
   ·replace hw3 := ite_f ha1 hw3
    replace hw3 := bs hw3
    obtain ⟨v2, hv2, hw3⟩ := hw3
    have hw3 := oi hw3
    subst hw3
    exact (r_gq [(0, .p (.string a0)), (2, .box [rI 0, rI 0]), (4, .ov false [.sl (some 9) (v1.map eT)]), (23, .p (.bool ((v2.size : Int) == 0)))] [(4, gF), (5, {g := some false, n := some v1.length}), (6, gF), (7, bF), (9, gF), (10, {g := some false, row := some [.raw (.string v2)]}), (11, {g := some false, row := some [.raw (.string v2)]}), (12, gF), (13, gF), (14, bF)] (B6 ha0 ha0 (show (v1.map eT).length = v1.length from (List.length_map ..)) ha0 ha0 ha1 (B6 ha1 (idxO_some hv2).1 (map_get eT (idxO_some hv2).2) ha1 (show getRow [[.sl (some 9) (v1.map eT)]] [(0, 0), ((Int.toNat 0), 0)] = some [.raw (.string v2)] from ((gr0 rfl).trans (gre (map_get eT (idxO_some hv2).2)))) ha1 (A2 ha1 ha1))))
 ·refine kc w3 (fun hc2_3 => ?_) (fun hc2_3 => ?_)
  ·replace h := ite_t hc2_3 h
   refine k_sreg (r_gq [(2, .box [rI 0, rI 0]), (3, .p (.bool false))] [] trivial) ?_
   refine k_ret ?_
   refine q_r ?_
   obtain rfl := oi h
   exact er [(.p (.agg #[.int .i64 0, .int .i64 0]), 2), (.p (.bool false), 3)]
  ·replace h := ite_f hc2_3 h
   refine k_skip ?_
   refine q_n ?_
   refine k_sreg (r_gq [(0, .p (.string a0)), (2, .box [rI 0, rI 0]), (4, .ov false [.sl (some 9) (v1.map eT)]), (5, .p (iV 1))] [] trivial) ?_
   refine k_join (J := fun (x : ((List ByteArray) × Int)) => [(0, .p (.string a0)), (2, .box [rI 0, rI 0]), (4, .ov false [.sl (some 9) (x.1.map eT)]), (5, .p (iV x.2))]) (K := fun x => spec_raParse_k1 a0 x = some r) (fun x5 h => ?_) ?_
   ·unfold spec_raParse_k1 at h
    replace h := bs h
    obtain ⟨v6, hv6, h⟩ := h
    replace h := bs h
    obtain ⟨v7, hv7, h⟩ := h
    replace h := bs h
    obtain ⟨v8, hv8, h⟩ := h
    replace h := bs h
    obtain ⟨v9, hv9, h⟩ := h
    refine k_sreg (r_dq Tryd_mixed 12 [] [(0, .p (.string a0)), (2, .box [rI 0, rI 0]), (6, .box [rI (w64 (x5.2 * v7)), rI v9])] [(2, {row := some [.raw (.string v6)]}), (3, {row := some [.raw (.string v6)]}), (4, {call := some (none, [.p (iV v7)], true)}), (7, {row := some [.raw (.string v8)]}), (8, {row := some [.raw (.string v8)]}), (9, {call := some (none, [.p (iV v9)], true)})] (B6 (idxO_some hv6).1 (map_get eT (idxO_some hv6).2) (show getRow [[.sl (some 9) (x5.1.map eT)]] [(0, 0), ((Int.toNat 0), 0)] = some [.raw (.string v6)] from ((gr0 rfl).trans (gre (map_get eT (idxO_some hv6).2)))) (wk_spec_raRead hv7) (idxO_some hv8).1 (map_get eT (idxO_some hv8).2) (A2 (show getRow [[.sl (some 9) (x5.1.map eT)]] [(0, 0), ((Int.toNat 1), 0)] = some [.raw (.string v8)] from ((gr0 rfl).trans (gre (map_get eT (idxO_some hv8).2)))) (wk_spec_raRead hv9)))) ?_
    refine k_seq ?_
    replace h := bs h
    obtain ⟨v10, hv10, h⟩ := h
    replace h := bs h
    obtain ⟨w12, hw12, h⟩ := h
    refine k_sreg (l1 := [(2, .box [rI 0, rI 0]), (6, .box [rI (w64 (x5.2 * v7)), rI v9]), (55, .p (.bool w12))]) ?_ ?_
    ·clear h
     rcases ft (!v10) with ha1 | ha1
     ·replace hw12 := ite_t ha1 hw12
      have hw12 := oi hw12
      subst hw12
      exact (r_gq [(2, .box [rI 0, rI 0]), (6, .box [rI (w64 (x5.2 * v7)), rI v9]), (55, .p (.bool true))] [(1, {call := some (none, [.p (.bool v10)], true)}), (4, gT), (5, gT), (6, gT), (7, gT), (8, bT)] (A6 (wk_spec_raGood hv10) ha1 ha1 ha1 ha1 ha1))
     ·replace hw12 := ite_f ha1 hw12
      replace hw12 := bs hw12
      obtain ⟨v11, hv11, hw12⟩ := hw12
      have hw12 := oi hw12
      subst hw12
      exact (r_gq [(2, .box [rI 0, rI 0]), (6, .box [rI (w64 (x5.2 * v7)), rI v9]), (55, .p (.bool (!(v11.toList == a0.toList))))] [(1, {call := some (none, [.p (.bool v10)], true)}), (4, gF), (5, {g := some false, call := some (none, [.p (.string v11)], true)}), (6, gF), (7, gF), (8, bF)] (B6 (wk_spec_raGood hv10) ha1 ha1 (wk_spec_raText hv11) ha1 ha1 (A1 ha1)))
    ·refine kc w12 (fun hc2_12 => ?_) (fun hc2_12 => ?_)
     ·replace h := ite_t hc2_12 h
      refine k_sreg (r_gq [(2, .box [rI 0, rI 0]), (3, .p (.bool false))] [] trivial) ?_
      refine k_ret ?_
      refine q_r ?_
      obtain rfl := oi h
      exact er [(.p (.agg #[.int .i64 0, .int .i64 0]), 2), (.p (.bool false), 3)]
     ·replace h := ite_f hc2_12 h
      refine k_skip ?_
      refine q_n ?_
      refine k_sreg (r_gq [(2, .box [rI (w64 (x5.2 * v7)), rI v9]), (3, .p (.bool true))] [] trivial) ?_
      refine k_ret ?_
      obtain rfl := oi h
      exact er [(.p (.agg #[.int .i64 (w64 (x5.2 * v7)), .int .i64 v9]), 2), (.p (.bool true), 3)]
   ·replace h := bs h
    obtain ⟨v14, hv14, h⟩ := h
    replace h := bs h
    obtain ⟨u15, hu15, h⟩ := h
    refine k_sreg (r_gq [(0, .p (.string a0)), (2, .box [rI 0, rI 0]), (4, .ov false [.sl (some 9) (v1.map eT)]), (5, .p (iV 1)), (29, .p (.bool ((strAt v14 0) == 45)))] [(1, {row := some [.raw (.string v14)]}), (2, {row := some [.raw (.string v14)]}), (3, {pv := some (.int .u8 (strAt v14 0))})] (A4 (idxO_some hv14).1 (map_get eT (idxO_some hv14).2) (show getRow [[.sl (some 9) (v1.map eT)]] [(0, 0), ((Int.toNat 0), 0)] = some [.raw (.string v14)] from ((gr0 rfl).trans (gre (map_get eT (idxO_some hv14).2)))) (show PureAt Tryd.prog (.index 9 (.tmp 27) (.const (iV 0))) [.string v14, .int .i64 0] (.int .u8 (strAt v14 0)) from (pure_sidx (by kernel_rfl) (guardO_some hu15))))) ?_
    refine kc ((strAt v14 0) == 45) (fun hc2_15 => ?_) (fun hc2_15 => ?_)
    ·replace h := ite_t hc2_15 h
     refine k_sreg (r_gq [(0, .p (.string a0)), (2, .box [rI 0, rI 0]), (4, .ov false [.sl (some 9) (v1.map eT)]), (5, .p (iV (-1)))] [] trivial) ?_
     replace h := bs h
     obtain ⟨u17, hu17, h⟩ := h
     refine k_reg (r_gq [(0, .p (.string a0)), (2, .box [rI 0, rI 0]), (4, .ov false [.sl (some 9) ((v1.set (Int.toNat 0) (strCut v14 1 (v14.size : Int))).map eT)]), (5, .p (iV (-1)))] [(2, {row := some [.raw (.string v14)]}), (3, {row := some [.raw (.string v14)]}), (4, {pv := some (.string (strCut v14 1 (v14.size : Int)))}), (5, {row := some [.raw (.string v14)]}), (6, {row := some [.raw (.string v14)], fix := some (4, .ov false [.sl (some 9) ((v1.set (Int.toNat 0) (strCut v14 1 (v14.size : Int))).map eT)])})] (B6 (idxO_some hv14).1 (map_get eT (idxO_some hv14).2) (show getRow [[.sl (some 9) (v1.map eT)]] [(0, 0), ((Int.toNat 0), 0)] = some [.raw (.string v14)] from ((gr0 rfl).trans (gre (map_get eT (idxO_some hv14).2)))) (show PureAt Tryd.prog (.slice 9 (.tmp 33) (some (.const (iV 1))) none none) [.string v14, .int .i64 1] (.string (strCut v14 1 (v14.size : Int))) from (pure_sfrom (by kernel_rfl) (guardO_some hu17))) (idxO_some hv14).1 (map_get eT (idxO_some hv14).2) (A2 (show getRow [[.sl (some 9) (v1.map eT)]] [(0, 0), ((Int.toNat 0), 0)] = some [.raw (.string v14)] from ((gr0 rfl).trans (gre (map_get eT (idxO_some hv14).2)))) (show (SV.ov false [.sl (some 9) (setL (v1.map eT) [((Int.toNat 0), 0)] [.raw (.string (strCut v14 1 (v14.size : Int)))])] : SV) = .ov false [.sl (some 9) ((v1.set (Int.toNat 0) (strCut v14 1 (v14.size : Int))).map eT)] from (congrArg (fun z => SV.ov false [.sl (some 9) z]) (set1 (f := eT) (y := (strCut v14 1 (v14.size : Int))) (idxO_some hv14).2 rfl)))))) ?_
     refine q_n ?_
     exact jx ((v1.set (Int.toNat 0) (strCut v14 1 (v14.size : Int))), (-1)) h
    ·replace h := ite_f hc2_15 h
     refine k_skip ?_
     refine q_n ?_
     exact jx (v1, 1) h
theorem wk_spec_raUnit {a0 : Qr}  {r : Bool} (h : spec_raUnit a0 = some r) : Meets Tryd.prog 52 [.v (vRt a0)] { vals := [.p (.bool r)] } := by
 refine mo Tryd.func52 [(0, .p (vRt a0))] ?_
 unfold spec_raUnit at h
 refine k_sreg (r_gq [(1, .box (eRt a0))] [] trivial) ?_
 replace h := bs h
 obtain ⟨v1, hv1, h⟩ := h
 replace h := bs h
 obtain ⟨w3, hw3, h⟩ := h
 refine k_sreg (l1 := [(2, .p (.bool w3))]) ?_ ?_
 ·clear h
  rcases ft v1 with ha0 | ha0
  ·replace hw3 := ite_t ha0 hw3
   replace hw3 := bs hw3
   obtain ⟨v2, hv2, hw3⟩ := hw3
   have hw3 := oi hw3
   subst hw3
   exact (r_gq [(2, .p (.bool v2))] [(1, {call := some (none, [.p (.bool v1)], true)}), (3, gT), (4, gT), (5, gT), (6, gT), (7, {g := some true, call := some (none, [.p (.bool v2)], true)}), (8, bT)] (B6 (wk_spec_raGood hv1) ha0 ha0 ha0 ha0 ha0 (A2 (wk_spec_l1In hv2) ha0)))
  ·replace hw3 := ite_f ha0 hw3
   have hw3 := oi hw3
   subst hw3
   exact (r_gq [(2, .p (.bool false))] [(1, {call := some (none, [.p (.bool v1)], true)}), (3, gF), (4, gF), (5, gF), (6, gF), (7, gF), (8, bF)] (B6 (wk_spec_raGood hv1) ha0 ha0 ha0 ha0 ha0 (A1 ha0)))
 ·refine k_ret ?_
  obtain rfl := oi h
  exact er [(.p (.bool w3), 2)]
theorem wk_spec_imCoord {a0 : Qr}  {r : Bool} (h : spec_imCoord a0 = some r) : Meets Tryd.prog 39 [.v (vRt a0)] { vals := [.p (.bool r)] } := by
 refine mo Tryd.func39 [(0, .p (vRt a0))] ?_
 unfold spec_imCoord at h
 refine k_sreg (r_gq [(1, .box (eRt a0))] [] trivial) ?_
 replace h := bs h
 obtain ⟨v1, hv1, h⟩ := h
 refine k_sreg (l1 := [(2, .p (.bool (v1 && (decide (a0.2 ≤ 100)))))]) ?_ ?_
 ·rcases ft v1 with ha0 | ha0
  ·exact RegOk.of_eq (l2 := [(2, .p (.bool (v1 && (decide (a0.2 ≤ 100)))))]) (r_gq [(2, .p (.bool (decide (a0.2 ≤ 100))))] [(1, {call := some (none, [.p (.bool v1)], true)}), (3, gT), (4, gT), (5, gT), (6, bT)] (A5 (wk_spec_raUnit hv1) ha0 ha0 ha0 ha0)) (by simp [ha0])
  ·exact RegOk.of_eq (l2 := [(2, .p (.bool (v1 && (decide (a0.2 ≤ 100)))))]) (r_gq [(2, .p (.bool false))] [(1, {call := some (none, [.p (.bool v1)], true)}), (3, gF), (4, gF), (5, gF), (6, bF)] (A5 (wk_spec_raUnit hv1) ha0 ha0 ha0 ha0)) (by simp [ha0])
 ·refine k_ret ?_
  obtain rfl := oi h
  exact er [(.p (.bool (v1 && (decide (a0.2 ≤ 100)))), 2)]
theorem wk_spec_l1Sign {a0 : Int}  {r : Int} (h : spec_l1Sign a0 = some r) : Meets Tryd.prog 53 [wI a0] { vals := [.p (iV r)] } := by
 refine mo Tryd.func53 [(0, .p (iV a0))] ?_
 unfold spec_l1Sign at h
 refine k_sreg (r_gq [(0, .p (iV a0))] [] trivial) ?_
 refine k_seq ?_
 refine k_block ?_
 refine k_sreg (r_gq [(0, .p (iV a0)), (3, .p (.bool (decide (a0 > 0))))] [] trivial) ?_
 refine kc (decide (a0 > 0)) (fun hc3_0 => ?_) (fun hc3_0 => ?_)
 ·replace h := ite_t hc3_0 h
  refine k_sreg (r_gq [(2, .p (iV 1))] [] trivial) ?_
  refine k_ret ?_
  refine b_r ?_
  refine q_r ?_
  obtain rfl := oi h
  exact er [(.p (iV 1), 2)]
 ·replace h := ite_f hc3_0 h
  refine k_sreg (r_gq [(6, .p (.bool (decide (a0 < 0))))] [] trivial) ?_
  refine kc (decide (a0 < 0)) (fun hc3_1 => ?_) (fun hc3_1 => ?_)
  ·replace h := ite_t hc3_1 h
   refine k_sreg (r_gq [(2, .p (iV (-1)))] [] trivial) ?_
   refine k_ret ?_
   refine b_r ?_
   refine q_r ?_
   obtain rfl := oi h
   exact er [(.p (iV (-1)), 2)]
  ·replace h := ite_f hc3_1 h
   refine k_skip ?_
   refine b_n ?_
   refine q_n ?_
   refine k_sreg (r_gq [(2, .p (iV 0))] [] trivial) ?_
   refine k_ret ?_
   obtain rfl := oi h
   exact er [(.p (iV 0), 2)]
theorem wk_spec_raCmp {a0 : Qr} {a1 : Qr}  {r : Int} (h : spec_raCmp a0 a1 = some r) : Meets Tryd.prog 40 [.v (vRt a0), .v (vRt a1)] { vals := [.p (iV r)] } := by
 refine mo Tryd.func40 [(0, .p (vRt a0)), (1, .p (vRt a1))] ?_
 unfold spec_raCmp at h
 refine k_sreg (r_gq [(2, .box (eRt a0)), (3, .box (eRt a1))] [] trivial) ?_
 replace h := bs h
 obtain ⟨v1, hv1, h⟩ := h
 refine k_sreg (r_gq [(4, .p (iV v1))] [(11, {call := some (none, [.p (iV v1)], true)})] (A1 (wk_spec_l1Sign hv1))) ?_
 refine k_ret ?_
 obtain rfl := oi h
 exact er [(.p (iV v1), 4)]
theorem wk_spec_raInt {a0 : Int}  {r : Qr} (h : spec_raInt a0 = some r) : Meets Tryd.prog 41 [wI a0] { vals := [.p (vRt r)] } := by
 refine mo Tryd.func41 [(0, .p (iV a0))] ?_
 unfold spec_raInt at h
 refine k_sreg (r_gq [(0, .p (iV a0)), (2, .box [rI 0, rI 0])] [] trivial) ?_
 refine k_sreg (r_gq [(2, .box [rI a0, rI 1])] [] trivial) ?_
 refine k_ret ?_
 obtain rfl := oi h
 exact er [(.p (.agg #[.int .i64 a0, .int .i64 1]), 2)]
theorem wk_spec_liPlus {a0 : Qr} {a1 : Int}  {r : Qr} (h : spec_liPlus a0 a1 = some r) : Meets Tryd.prog 42 [.v (vRt a0), wI a1] { vals := [.p (vRt r)] } := by
 refine mo Tryd.func42 [(0, .p (vRt a0)), (1, .p (iV a1))] ?_
 unfold spec_liPlus at h
 refine k_sreg (r_gq [(1, .p (iV a1)), (2, .box (eRt a0)), (4, .box [rI 0, rI 0])] [] trivial) ?_
 refine k_sreg (r_gq [(4, .box [rI (w64 (a0.1 + (w64 (a1 * a0.2)))), rI a0.2])] [] trivial) ?_
 refine k_ret ?_
 obtain rfl := oi h
 exact er [(.p (.agg #[.int .i64 (w64 (a0.1 + (w64 (a1 * a0.2)))), .int .i64 a0.2]), 4)]
theorem wk_spec_liGood {a0 : (List Qp)}  {r : Bool} (h : spec_liGood a0 = some r) : Meets Tryd.prog 21 [.d true [.sl none (a0.map ePt)]] { vals := [.p (.bool r)] } := by
 refine mo Tryd.func21 [(0, .d true [.sl none (a0.map ePt)])] ?_
 unfold spec_liGood at h
 refine k_sreg (r_gq [(1, .box [.sl none (a0.map ePt)])] [] trivial) ?_
 refine k_sreg (r_gq [(1, .box [.sl none (a0.map ePt)]), (3, .p (iV (a0.length : Int)))] [(1, bT), (2, {n := some a0.length})] (A2 (show frR [.sl none (a0.map ePt)] = true from (frR1 (frL_enc (fr_P (fr_P fr_I fr_I) (fr_P fr_I fr_I))) rfl)) (show (a0.map ePt).length = a0.length from (List.length_map ..)))) ?_
 refine k_seq ?_
 replace h := bs h
 obtain ⟨v1, hv1, h⟩ := h
 refine k_sreg (r_gq [(1, .box [.sl none (a0.map ePt)]), (3, .p (iV (a0.length : Int))), (13, .p (.bool (!v1)))] [(1, {call := some (none, [.p (.bool v1)], true)})] (A1 (wk_spec_l1In hv1))) ?_
 refine kc (!v1) (fun hc2_1 => ?_) (fun hc2_1 => ?_)
 ·replace h := ite_t hc2_1 h
  refine k_sreg (r_gq [(2, .p (.bool false))] [] trivial) ?_
  refine k_ret ?_
  refine q_r ?_
  obtain rfl := oi h
  exact er [(.p (.bool false), 2)]
 ·replace h := ite_f hc2_1 h
  refine k_skip ?_
  refine q_n ?_
  refine k_join (J := fun (x : Unit) => [(1, .box [.sl none (a0.map ePt)]), (3, .p (iV (a0.length : Int)))]) (K := fun x => spec_liGood_k1 a0 x = some r) (fun x3 h => ?_) ?_
  ·unfold spec_liGood_k1 at h
   replace h := bs h
   obtain ⟨v4, hv4, h⟩ := h
   replace h := bs h
   obtain ⟨v5, hv5, h⟩ := h
   refine k_sreg (r_dq Tryd_mixed 13 [(12, 6)] [(6, .box (ePt v4)), (7, .box (ePt v5))] [(1, bT), (2, {row := some (ePt v4)}), (5, bT), (8, {row := some (ePt v5)})] (A6 (show frR [.sl none (a0.map ePt)] = true from (frR1 (frL_enc (fr_P (fr_P fr_I fr_I) (fr_P fr_I fr_I))) rfl)) (idxO_some hv4).1 (map_get ePt (idxO_some hv4).2) (show frR [.sl none (a0.map ePt)] = true from (frR1 (frL_enc (fr_P (fr_P fr_I fr_I) (fr_P fr_I fr_I))) rfl)) (idxO_some hv5).1 (map_get ePt (idxO_some hv5).2))) ?_
   replace h := bs h
   obtain ⟨v6, hv6, h⟩ := h
   replace h := bs h
   obtain ⟨v7, hv7, h⟩ := h
   replace h := bs h
   obtain ⟨w11, hw11, h⟩ := h
   refine k_sreg (l1 := [(2, .p (.bool w11))]) ?_ ?_
   ·clear h
    rcases ft (v7 == 0) with ha1 | ha1
    ·replace hw11 := ite_t ha1 hw11
     replace hw11 := bs hw11
     obtain ⟨v8, hv8, hw11⟩ := hw11
     replace hw11 := bs hw11
     obtain ⟨v9, hv9, hw11⟩ := hw11
     rcases ft (v9 == 0) with ha2 | ha2
     ·replace hw11 := ite_t ha2 hw11
      replace hw11 := bs hw11
      obtain ⟨v10, hv10, hw11⟩ := hw11
      have hw11 := oi hw11
      subst hw11
      exact (r_dq Tryd_mixed 18 [] [(2, .p (.bool ((v5.2.1 == v10.1) && (v5.2.2 == v10.2))))] [(2, {call := some (none, [.p (vRt v6)], true)}), (3, {call := some (none, [.p (iV v7)], true)}), (6, gT), (7, gT), (8, {g := some true, call := some (none, [.p (vRt v8)], true)}), (9, {g := some true, call := some (none, [.p (iV v9)], true)}), (10, gT), (11, bT), (13, gT), (14, gT), (15, gT), (16, gT), (17, {g := some true, call := some (none, [.p (vRt v10)], true)}), (18, {g := some true, pv := some (.bool ((v5.2.1 == v10.1) && (v5.2.2 == v10.2)))}), (19, bT)] (B6 (wk_spec_raInt hv6) (wk_spec_raCmp hv7) ha1 ha1 ha1 (wk_spec_raInt hv8) (B6 ha1 (wk_spec_raCmp hv9) ha1 ha1 ha2 ha2 (B6 ha2 ha2 ha2 (wk_spec_liPlus hv10) ha2 (show PureAt Tryd.prog (.binOp .eql 33 (.tmp 106) (.tmp 109) 33) [vRt v5.2, vRt v10] (.bool ((v5.2.1 == v10.1) && (v5.2.2 == v10.2))) from (pure_eql2 (by kernel_rfl))) (A1 ha2)))))
     ·replace hw11 := ite_f ha2 hw11
      have hw11 := oi hw11
      subst hw11
      exact (r_dq Tryd_mixed 18 [] [(2, .p (.bool false))] [(2, {call := some (none, [.p (vRt v6)], true)}), (3, {call := some (none, [.p (iV v7)], true)}), (6, gT), (7, gT), (8, {g := some true, call := some (none, [.p (vRt v8)], true)}), (9, {g := some true, call := some (none, [.p (iV v9)], true)}), (10, gT), (11, bT), (13, gF), (14, gF), (15, gF), (16, gF), (17, gF), (18, gF), (19, bF)] (B6 (wk_spec_raInt hv6) (wk_spec_raCmp hv7) ha1 ha1 ha1 (wk_spec_raInt hv8) (B6 ha1 (wk_spec_raCmp hv9) ha1 ha1 ha2 ha2 (A5 ha2 ha2 ha2 ha2 ha2))))
    ·replace hw11 := ite_f ha1 hw11
     have hw11 := oi hw11
     subst hw11
     exact (r_dq Tryd_mixed 18 [] [(2, .p (.bool false))] [(2, {call := some (none, [.p (vRt v6)], true)}), (3, {call := some (none, [.p (iV v7)], true)}), (6, gF), (7, gF), (8, gF), (9, gF), (10, gF), (11, bF), (13, gF), (14, gF), (15, gF), (16, gF), (17, gF), (18, gF), (19, bF)] (B6 (wk_spec_raInt hv6) (wk_spec_raCmp hv7) ha1 ha1 ha1 ha1 (B6 ha1 ha1 (show false = false from rfl) (show false = false from rfl) (show false = false from rfl) (show false = false from rfl) (A3 (show false = false from rfl) (show false = false from rfl) (show false = false from rfl)))))
   ·refine k_ret ?_
    obtain rfl := oi h
    exact er [(.p (.bool w11), 2)]
  ·refine k_sreg (r_gq [(1, .box [.sl none (a0.map ePt)]), (3, .p (iV (a0.length : Int))), (15, .d false [.sl none (a0.map ePt)]), (16, .p (iV (a0.length : Int))), (17, .p (iV 0))] [(1, bT), (2, {n := some a0.length})] (A2 (show frR [.sl none (a0.map ePt)] = true from (frR1 (frL_enc (fr_P (fr_P fr_I fr_I) (fr_P fr_I fr_I))) rfl)) (show (a0.map ePt).length = a0.length from (List.length_map ..)))) ?_
   refine k_block ?_
   obtain ⟨y13, hl_x12, hk_x12⟩ := bs h
   clear h
   refine k_loop (J := fun (x : Int) => [(1, .box [.sl none (a0.map ePt)]), (3, .p (iV (a0.length : Int))), (15, .d false [.sl none (a0.map ePt)]), (16, .p (iV (a0.length : Int))), (17, .p (iV x))]) hl_x12 (wk_of (by kernel_rfl) (by kernel_rfl)) (fun x12 o_x12 h hy_x12 => ?_)
   unfold spec_liGood_b1 at h
   refine k_sreg (r_gq [(1, .box [.sl none (a0.map ePt)]), (3, .p (iV (a0.length : Int))), (15, .d false [.sl none (a0.map ePt)]), (16, .p (iV (a0.length : Int))), (17, .p (iV x12)), (18, .p (.bool (decide (x12 < (a0.length : Int)))))] [] trivial) ?_
   refine k_seq ?_
   refine kc (decide (x12 < (a0.length : Int))) (fun hc5_13 => ?_) (fun hc5_13 => ?_)
   ·replace h := ite_t hc5_13 h
    refine k_skip ?_
    refine q_n ?_
    refine k_seq ?_
    refine k_block ?_
    replace h := bs h
    obtain ⟨v15, hv15, h⟩ := h
    refine k_sreg (r_gq [(1, .box [.sl none (a0.map ePt)]), (3, .p (iV (a0.length : Int))), (4, .p (iV x12)), (5, .box (ePt v15)), (15, .d false [.sl none (a0.map ePt)]), (16, .p (iV (a0.length : Int))), (17, .p (iV x12))] [(1, {row := some (ePt v15)})] (A2 (idxO_some hv15).1 (map_get ePt (idxO_some hv15).2))) ?_
    refine k_seq ?_
    replace h := bs h
    obtain ⟨v16, hv16, h⟩ := h
    replace h := bs h
    obtain ⟨w19, hw19, h⟩ := h
    refine k_sreg (l1 := [(1, .box [.sl none (a0.map ePt)]), (3, .p (iV (a0.length : Int))), (4, .p (iV x12)), (5, .box (ePt v15)), (15, .d false [.sl none (a0.map ePt)]), (16, .p (iV (a0.length : Int))), (17, .p (iV x12)), (52, .p (.bool w19))]) ?_ ?_
    ·clear h
     rcases ft (!v16) with ha2 | ha2
     ·replace hw19 := ite_t ha2 hw19
      have hw19 := oi hw19
      subst hw19
      exact (r_gq [(1, .box [.sl none (a0.map ePt)]), (3, .p (iV (a0.length : Int))), (4, .p (iV x12)), (5, .box (ePt v15)), (15, .d false [.sl none (a0.map ePt)]), (16, .p (iV (a0.length : Int))), (17, .p (iV x12)), (52, .p (.bool true))] [(2, {call := some (none, [.p (.bool v16)], true)}), (5, gT), (6, gT), (7, gT), (8, gT), (9, bT), (11, gT), (12, gT), (13, gT), (14, gT), (15, bT), (17, gT), (18, gT), (19, gT), (20, gT), (21, gT), (22, gT), (23, gT), (24, gT), (25, gT), (26, gT), (27, gT), (28, gT), (29, gT), (30, bT)] (B6 (wk_spec_imCoord hv16) ha2 ha2 ha2 ha2 ha2 (B6 (show true = true from rfl) (show true = true from rfl) (show true = true from rfl) (show true = true from rfl) (show true = true from rfl) (show true = true from rfl) (B6 (show true = true from rfl) (show true = true from rfl) (show true = true from rfl) (show true = true from rfl) (show true = true from rfl) (show true = true from rfl) (B6 (show true = true from rfl) (show true = true from rfl) (show true = true from rfl) (show true = true from rfl) (show true = true from rfl) (show true = true from rfl) (A1 (show true = true from rfl)))))))
     ·replace hw19 := ite_f ha2 hw19
      replace hw19 := bs hw19
      obtain ⟨v17, hv17, hw19⟩ := hw19
      rcases ft (!v17) with ha3 | ha3
      ·replace hw19 := ite_t ha3 hw19
       have hw19 := oi hw19
       subst hw19
       exact (r_gq [(1, .box [.sl none (a0.map ePt)]), (3, .p (iV (a0.length : Int))), (4, .p (iV x12)), (5, .box (ePt v15)), (15, .d false [.sl none (a0.map ePt)]), (16, .p (iV (a0.length : Int))), (17, .p (iV x12)), (52, .p (.bool true))] [(2, {call := some (none, [.p (.bool v16)], true)}), (5, gF), (6, gF), (7, {g := some false, call := some (none, [.p (.bool v17)], true)}), (8, gF), (9, bF), (11, gT), (12, gT), (13, gT), (14, gT), (15, bT), (17, gT), (18, gT), (19, gT), (20, gT), (21, gT), (22, gT), (23, gT), (24, gT), (25, gT), (26, gT), (27, gT), (28, gT), (29, gT), (30, bT)] (B6 (wk_spec_imCoord hv16) ha2 ha2 ha2 (wk_spec_raGood hv17) ha2 (B6 ha2 ha3 ha3 ha3 ha3 ha3 (B6 (show true = true from rfl) (show true = true from rfl) (show true = true from rfl) (show true = true from rfl) (show true = true from rfl) (show true = true from rfl) (B6 (show true = true from rfl) (show true = true from rfl) (show true = true from rfl) (show true = true from rfl) (show true = true from rfl) (show true = true from rfl) (A2 (show true = true from rfl) (show true = true from rfl)))))))
      ·replace hw19 := ite_f ha3 hw19
       rcases ft (decide (v15.2.2 > 100)) with ha4 | ha4
       ·replace hw19 := ite_t ha4 hw19
        have hw19 := oi hw19
        subst hw19
        exact (r_gq [(1, .box [.sl none (a0.map ePt)]), (3, .p (iV (a0.length : Int))), (4, .p (iV x12)), (5, .box (ePt v15)), (15, .d false [.sl none (a0.map ePt)]), (16, .p (iV (a0.length : Int))), (17, .p (iV x12)), (52, .p (.bool true))] [(2, {call := some (none, [.p (.bool v16)], true)}), (5, gF), (6, gF), (7, {g := some false, call := some (none, [.p (.bool v17)], true)}), (8, gF), (9, bF), (11, gF), (12, gF), (13, gF), (14, gF), (15, bF), (17, gT), (18, gT), (19, gT), (20, gT), (21, gT), (22, gT), (23, gT), (24, gT), (25, gT), (26, gT), (27, gT), (28, gT), (29, gT), (30, bT)] (B6 (wk_spec_imCoord hv16) ha2 ha2 ha2 (wk_spec_raGood hv17) ha2 (B6 ha2 ha3 ha3 ha3 ha3 ha3 (B6 ha4 ha4 ha4 ha4 ha4 ha4 (B6 ha4 ha4 ha4 ha4 ha4 ha4 (A2 ha4 ha4))))))
       ·replace hw19 := ite_f ha4 hw19
        replace hw19 := bs hw19
        obtain ⟨v18, hv18, hw19⟩ := hw19
        have hw19 := oi hw19
        subst hw19
        exact (r_gq [(1, .box [.sl none (a0.map ePt)]), (3, .p (iV (a0.length : Int))), (4, .p (iV x12)), (5, .box (ePt v15)), (15, .d false [.sl none (a0.map ePt)]), (16, .p (iV (a0.length : Int))), (17, .p (iV x12)), (52, .p (.bool (!v18)))] [(2, {call := some (none, [.p (.bool v16)], true)}), (5, gF), (6, gF), (7, {g := some false, call := some (none, [.p (.bool v17)], true)}), (8, gF), (9, bF), (11, gF), (12, gF), (13, gF), (14, gF), (15, bF), (17, gF), (18, gF), (19, gF), (20, gF), (21, gF), (22, gF), (23, gF), (24, gF), (25, gF), (26, gF), (27, gF), (28, {g := some false, call := some (none, [.p (.bool v18)], true)}), (29, gF), (30, bF)] (B6 (wk_spec_imCoord hv16) ha2 ha2 ha2 (wk_spec_raGood hv17) ha2 (B6 ha2 ha3 ha3 ha3 ha3 ha3 (B6 ha4 ha4 ha4 ha4 ha4 ha4 (B6 ha4 ha4 ha4 ha4 ha4 ha4 (A3 (wk_spec_l1In hv18) ha4 ha4))))))
    ·refine kc w19 (fun hc7_19 => ?_) (fun hc7_19 => ?_)
     ·replace h := ite_t hc7_19 h
      refine k_sreg (r_gq [(2, .p (.bool false))] [] trivial) ?_
      refine k_ret ?_
      refine q_r ?_
      refine b_r ?_
      refine q_r ?_
      refine lq_r ?_
      refine b_r ?_
      refine q_r ?_
      have hyy := hy_x12 _ (oi h).symm
      subst hyy
      have h := hk_x12
      dsimp only [Sum.elim] at h
      obtain rfl := oi h
      exact er [(.p (.bool false), 2)]
     ·replace h := ite_f hc7_19 h
      refine k_skip ?_
      refine q_n ?_
      replace h := bs h
      obtain ⟨w24, hw24, h⟩ := h
      refine k_sreg (l1 := [(1, .box [.sl none (a0.map ePt)]), (3, .p (iV (a0.length : Int))), (15, .d false [.sl none (a0.map ePt)]), (16, .p (iV (a0.length : Int))), (17, .p (iV x12)), (80, .p (.bool w24))]) ?_ ?_
      ·clear h
       rcases ft (decide (x12 > 0)) with ha3 | ha3
       ·replace hw24 := ite_t ha3 hw24
        replace hw24 := bs hw24
        obtain ⟨v21, hv21, hw24⟩ := hw24
        replace hw24 := bs hw24
        obtain ⟨v22, hv22, hw24⟩ := hw24
        rcases ft (decide (v22 ≥ 0)) with ha4 | ha4
        ·replace hw24 := ite_t ha4 hw24
         have hw24 := oi hw24
         subst hw24
         exact (r_dq Tryd_mixed 24 [] [(1, .box [.sl none (a0.map ePt)]), (3, .p (iV (a0.length : Int))), (15, .d false [.sl none (a0.map ePt)]), (16, .p (iV (a0.length : Int))), (17, .p (iV x12)), (80, .p (.bool true))] [(3, gT), (4, {g := some true, b := some true}), (5, gT), (6, gT), (7, {g := some true, row := some (ePt v21)}), (8, gT), (9, gT), (10, gT), (11, gT), (12, {g := some true, call := some (none, [.p (iV v22)], true)}), (13, gT), (14, gT), (15, gT), (16, gT), (17, gT), (18, gT), (19, gT), (20, gT), (21, gT), (22, gT), (23, gT), (24, gT), (25, gT), (26, {g := some true, b := some true}), (27, bT)] (B6 ha3 ha3 (show frR [.sl none (a0.map ePt)] = true from (frR1 (frL_enc (fr_P (fr_P fr_I fr_I) (fr_P fr_I fr_I))) rfl)) ha3 ha3 ha3 (B6 (idxO_some hv21).1 (map_get ePt (idxO_some hv21).2) ha3 ha3 ha3 ha3 (B6 ha3 (wk_spec_raCmp hv22) ha3 ha3 ha4 ha4 (B6 ha4 ha4 ha4 ha4 ha4 ha4 (A6 ha4 ha4 ha4 ha3 ha4 ha3))))))
        ·replace hw24 := ite_f ha4 hw24
         replace hw24 := bs hw24
         obtain ⟨v23, hv23, hw24⟩ := hw24
         have hw24 := oi hw24
         subst hw24
         exact (r_dq Tryd_mixed 24 [] [(1, .box [.sl none (a0.map ePt)]), (3, .p (iV (a0.length : Int))), (15, .d false [.sl none (a0.map ePt)]), (16, .p (iV (a0.length : Int))), (17, .p (iV x12)), (80, .p (.bool (decide (v23 > 0))))] [(3, gT), (4, {g := some true, b := some true}), (5, gT), (6, gT), (7, {g := some true, row := some (ePt v21)}), (8, gT), (9, gT), (10, gT), (11, gT), (12, {g := some true, call := some (none, [.p (iV v22)], true)}), (13, gT), (14, gT), (15, gF), (16, {g := some false, b := some true}), (17, gF), (18, gF), (19, {g := some false, row := some (ePt v21)}), (20, gF), (21, gF), (22, gF), (23, gF), (24, {g := some false, call := some (none, [.p (iV v23)], true)}), (25, gF), (26, {g := some true, b := some false}), (27, bT)] (B6 ha3 ha3 (show frR [.sl none (a0.map ePt)] = true from (frR1 (frL_enc (fr_P (fr_P fr_I fr_I) (fr_P fr_I fr_I))) rfl)) ha3 ha3 ha3 (B6 (idxO_some hv21).1 (map_get ePt (idxO_some hv21).2) ha3 ha3 ha3 ha3 (B6 ha3 (wk_spec_raCmp hv22) ha3 ha3 ha4 ha4 (B6 (show frR [.sl none (a0.map ePt)] = true from (frR1 (frL_enc (fr_P (fr_P fr_I fr_I) (fr_P fr_I fr_I))) rfl)) ha4 ha4 ha4 (idxO_some hv21).1 (map_get ePt (idxO_some hv21).2) (B6 ha4 ha4 ha4 ha4 ha4 (wk_spec_raCmp hv23) (A4 ha4 ha3 ha4 ha3)))))))
       ·replace hw24 := ite_f ha3 hw24
        have hw24 := oi hw24
        subst hw24
        exact (r_dq Tryd_mixed 24 [] [(1, .box [.sl none (a0.map ePt)]), (3, .p (iV (a0.length : Int))), (15, .d false [.sl none (a0.map ePt)]), (16, .p (iV (a0.length : Int))), (17, .p (iV x12)), (80, .p (.bool false))] [(3, gF), (4, gF), (5, gF), (6, gF), (7, gF), (8, gF), (9, gF), (10, gF), (11, gF), (12, gF), (13, gF), (14, gF), (26, gF), (27, bF)] (B6 ha3 ha3 ha3 ha3 ha3 ha3 (B6 ha3 ha3 ha3 ha3 ha3 ha3 (A2 ha3 ha3))))
      ·refine kc w24 (fun hc6_24 => ?_) (fun hc6_24 => ?_)
       ·replace h := ite_t hc6_24 h
        refine k_sreg (r_gq [(2, .p (.bool false))] [] trivial) ?_
        refine k_ret ?_
        refine b_r ?_
        refine q_r ?_
        refine lq_r ?_
        refine b_r ?_
        refine q_r ?_
        have hyy := hy_x12 _ (oi h).symm
        subst hyy
        have h := hk_x12
        dsimp only [Sum.elim] at h
        obtain rfl := oi h
        exact er [(.p (.bool false), 2)]
       ·replace h := ite_f hc6_24 h
        refine k_skip ?_
        refine b_n ?_
        refine q_n ?_
        refine k_reg (r_gq [(1, .box [.sl none (a0.map ePt)]), (3, .p (iV (a0.length : Int))), (15, .d false [.sl none (a0.map ePt)]), (16, .p (iV (a0.length : Int))), (17, .p (iV (w64 (x12 + 1))))] [] trivial) ?_
        exact lqn (w64 (x12 + 1)) h
   ·replace h := ite_f hc5_13 h
    refine k_exit ?_
    refine q_x ?_
    refine lq_x ?_
    refine b_x ?_
    have hyy := hy_x12 _ (oi h).symm
    subst hyy
    have h := hk_x12
    dsimp only [Sum.elim] at h
    refine q_n ?_
    exact jx () h
theorem wk_spec_liIf {a0 : (List Qp)}  {r : ((List Qp) × Bool)} (h : spec_liIf a0 = some r) : Meets Tryd.prog 11 [.d false [.sl none (a0.map ePt)]] { vals := [.ov true [.sl none (r.1.map ePt)], .p (.bool r.2)] } := by
 refine mo Tryd.func11 [(0, .d false [.sl none (a0.map ePt)])] ?_
 unfold spec_liIf at h
 refine k_sreg (r_gq [(0, .d false [.sl none (a0.map ePt)]), (2, .box [.sl (some 37) []])] [] trivial) ?_
 refine k_sreg (r_gq [(2, .box [.sl (some 37) []]), (4, .box [.sl none (a0.map ePt)])] [] trivial) ?_
 refine k_seq ?_
 replace h := bs h
 obtain ⟨v1, hv1, h⟩ := h
 refine k_sreg (r_gq [(2, .box [.sl (some 37) []]), (4, .box [.sl none (a0.map ePt)]), (9, .p (.bool (!v1)))] [(0, bT), (1, {call := some (none, [.p (.bool v1)], true)})] (A2 (show frR [.sl none (a0.map ePt)] = true from (frR1 (frL_enc (fr_P (fr_P fr_I fr_I) (fr_P fr_I fr_I))) rfl)) (wk_spec_liGood hv1))) ?_
 refine kc (!v1) (fun hc2_1 => ?_) (fun hc2_1 => ?_)
 ·replace h := ite_t hc2_1 h
  refine k_sreg (r_gq [(2, .box [.sl none []]), (3, .p (.bool false))] [] trivial) ?_
  refine k_ret ?_
  refine q_r ?_
  obtain rfl := oi h
  exact er [(.ov true [.sl none []], 2), (.p (.bool false), 3)]
 ·replace h := ite_f hc2_1 h
  refine k_skip ?_
  refine q_n ?_
  refine k_sreg (r_gq [(2, .box [.sl none (a0.map ePt)]), (3, .p (.bool true))] [(0, bT)] (A1 (show frR [.sl none (a0.map ePt)] = true from (frR1 (frL_enc (fr_P (fr_P fr_I fr_I) (fr_P fr_I fr_I))) rfl)))) ?_
  refine k_ret ?_
  obtain rfl := oi h
  exact er [(.ov true [.sl none (a0.map ePt)], 2), (.p (.bool true), 3)]
theorem wk_spec_imText {a0 : (List Qp)}  {r : ByteArray} (h : spec_imText a0 = some r) : Meets Tryd.prog 12 [.d false [.sl none (a0.map ePt)]] { vals := [.p (.string r)] } := by
 refine mo Tryd.func12 [(0, .d false [.sl none (a0.map ePt)])] ?_
 unfold spec_imText at h
 refine k_sreg (r_gq [(0, .d false [.sl none (a0.map ePt)])] [] trivial) ?_
 refine k_sreg (r_gq [(0, .d false [.sl none (a0.map ePt)]), (3, .p (.string ByteArray.empty))] [] trivial) ?_
 refine k_join (J := fun (x : ByteArray) => [(3, .p (.string x))]) (K := fun x => spec_imText_k1 x = some r) (fun x1 h => ?_) ?_
 ·unfold spec_imText_k1 at h
  refine k_sreg (r_gq [(2, .p (.string x1))] [] trivial) ?_
  refine k_ret ?_
  obtain rfl := oi h
  exact er [(.p (.string x1), 2)]
 ·refine k_sreg (r_gq [(3, .p (.string ByteArray.empty)), (6, .d false [.sl none (a0.map ePt)]), (7, .p (iV (a0.length : Int))), (8, .p (iV 0))] [(1, {n := some a0.length})] (A1 (show (a0.map ePt).length = a0.length from (List.length_map ..)))) ?_
  refine k_block ?_
  obtain ⟨y3, hl_x2, hk_x2⟩ := bs h
  clear h
  refine k_loop (J := fun (x : (ByteArray × Int)) => [(3, .p (.string x.1)), (6, .d false [.sl none (a0.map ePt)]), (7, .p (iV (a0.length : Int))), (8, .p (iV x.2))]) hl_x2 (wk_of (by kernel_rfl) (by kernel_rfl)) (fun x2 o_x2 h hy_x2 => ?_)
  unfold spec_imText_b1 at h
  refine k_sreg (r_gq [(3, .p (.string x2.1)), (6, .d false [.sl none (a0.map ePt)]), (7, .p (iV (a0.length : Int))), (8, .p (iV x2.2)), (9, .p (.bool (decide (x2.2 < (a0.length : Int)))))] [] trivial) ?_
  refine k_seq ?_
  refine kc (decide (x2.2 < (a0.length : Int))) (fun hc5_3 => ?_) (fun hc5_3 => ?_)
  ·replace h := ite_t hc5_3 h
   refine k_skip ?_
   refine q_n ?_
   refine k_seq ?_
   refine k_block ?_
   replace h := bs h
   obtain ⟨v5, hv5, h⟩ := h
   refine k_sreg (r_gq [(3, .p (.string x2.1)), (5, .box (ePt v5)), (6, .d false [.sl none (a0.map ePt)]), (7, .p (iV (a0.length : Int))), (8, .p (iV x2.2))] [(0, {row := some (ePt v5)})] (A2 (idxO_some hv5).1 (map_get ePt (idxO_some hv5).2))) ?_
   replace h := bs h
   obtain ⟨v6, hv6, h⟩ := h
   replace h := bs h
   obtain ⟨u7, hu7, h⟩ := h
   replace h := bs h
   obtain ⟨v8, hv8, h⟩ := h
   replace h := bs h
   obtain ⟨u9, hu9, h⟩ := h
   replace h := bs h
   obtain ⟨u10, hu10, h⟩ := h
   replace h := bs h
   obtain ⟨u11, hu11, h⟩ := h
   refine k_reg (r_dq Tryd_mixed 10 [] [(3, .p (.string (x2.1 ++ (((v6 ++ (ByteArray.mk #[32])) ++ v8) ++ (ByteArray.mk #[59]))))), (6, .d false [.sl none (a0.map ePt)]), (7, .p (iV (a0.length : Int))), (8, .p (iV x2.2))] [(3, {call := some (none, [.p (.string v6)], true)}), (7, {call := some (none, [.p (.string v8)], true)})] (A6 (wk_spec_raText hv6) (guardO_some hu7) (wk_spec_raText hv8) (guardO_some hu9) (guardO_some hu10) (guardO_some hu11))) ?_
   refine b_n ?_
   refine q_n ?_
   refine k_reg (r_gq [(3, .p (.string (x2.1 ++ (((v6 ++ (ByteArray.mk #[32])) ++ v8) ++ (ByteArray.mk #[59]))))), (6, .d false [.sl none (a0.map ePt)]), (7, .p (iV (a0.length : Int))), (8, .p (iV (w64 (x2.2 + 1))))] [] trivial) ?_
   exact lqn ((x2.1 ++ (((v6 ++ (ByteArray.mk #[32])) ++ v8) ++ (ByteArray.mk #[59]))), (w64 (x2.2 + 1))) h
  ·replace h := ite_f hc5_3 h
   refine k_exit ?_
   refine q_x ?_
   refine lq_x ?_
   refine b_x ?_
   have hyy := hy_x2 _ (oi h).symm
   subst hyy
   have h := hk_x2
   refine q_n ?_
   exact jx x2.1 h
theorem wk_spec_ParseLift {a0 : ByteArray}  {r : ((List Qp) × Bool)} (h : spec_ParseLift a0 = some r) : Meets Tryd.prog 4 [.v (.string a0)] { vals := [.ov true [.sl none (r.1.map ePt)], .p (.bool r.2)] } := by
 refine mo Tryd.func4 [(0, .p (.string a0))] ?_
 unfold spec_ParseLift at h
 refine k_sreg (r_gq [(0, .p (.string a0)), (2, .box [.sl (some 37) []])] [] trivial) ?_
 replace h := bs h
 obtain ⟨v1, hv1, h⟩ := h
 refine k_sreg (r_gq [(0, .p (.string a0)), (2, .box [.sl (some 37) []]), (4, .d false [.sl none (v1.map eT)])] [(1, {call := some (none, [.ov false [.sl (some 9) (v1.map eT)]], true)}), (2, {pre := some (16, .d false [.sl none (v1.map eT)])})] (A3 (wk_spec_l1Split hv1) (show List.all [.ov false [.sl (some 9) (v1.map eT)]] simpleR = true from (sa_o (wnR1 (wnL_enc wn_T) rfl) rfl)) (show (SV.d false (eraR [.sl (some 9) (v1.map eT)]) : SV) = .d false [.sl none (v1.map eT)] from (congrArg (fun z => SV.d false z) (erc_sl (eraL_enc er_T) rfl))))) ?_
 refine k_seq ?_
 refine k_sreg (r_gq [(0, .p (.string a0)), (2, .box [.sl (some 37) []]), (4, .d false [.sl none (v1.map eT)]), (19, .p (.bool (decide ((v1.length : Int) > 13))))] [(1, {n := some v1.length})] (A1 (show (v1.map eT).length = v1.length from (List.length_map ..)))) ?_
 refine kc (decide ((v1.length : Int) > 13)) (fun hc2_1 => ?_) (fun hc2_1 => ?_)
 ·replace h := ite_t hc2_1 h
  refine k_sreg (r_gq [(2, .box [.sl none []]), (3, .p (.bool false))] [] trivial) ?_
  refine k_ret ?_
  refine q_r ?_
  obtain rfl := oi h
  exact er [(.ov true [.sl none []], 2), (.p (.bool false), 3)]
 ·replace h := ite_f hc2_1 h
  refine k_skip ?_
  refine q_n ?_
  refine k_sreg (r_gq [(0, .p (.string a0)), (2, .box [.sl (some 37) []]), (4, .d false [.sl none (v1.map eT)]), (5, .ov false [.sl (some 37) []])] [] trivial) ?_
  refine k_join (J := fun (x : (List Qp)) => [(0, .p (.string a0)), (2, .box [.sl (some 37) []]), (5, .ov false [.sl (some 37) (x.map ePt)])]) (K := fun x => spec_ParseLift_k1 a0 x = some r) (fun x3 h => ?_) ?_
  ·unfold spec_ParseLift_k1 at h
   replace h := bs h
   obtain ⟨v4, hv4, h⟩ := h
   refine k_sreg (r_gq [(0, .p (.string a0)), (2, .box [.sl (some 37) []]), (5, .d false [.sl none (x3.map ePt)]), (13, .box [.sl none (v4.1.map ePt)]), (14, .p (.bool v4.2))] [(1, {call := some (some [.d false [.sl none (x3.map ePt)]], [.ov true [.sl none (v4.1.map ePt)], .p (.bool v4.2)], false), fix := some (5, .d false [.sl none (x3.map ePt)])})] (A3 (show ([.d false [.sl none (eraL (x3.map ePt))]] : List Arg) = [.d false [.sl none (x3.map ePt)]] from (by simp only [eraL_enc (h := ePt) (era_P (era_P er_I er_I) (era_P er_I er_I))])) (wk_spec_liIf hv4) (show (SV.d false (eraR [.sl (some 37) (x3.map ePt)]) : SV) = .d false [.sl none (x3.map ePt)] from (congrArg (fun z => SV.d false z) (erc_sl (eraL_enc (era_P (era_P er_I er_I) (era_P er_I er_I))) rfl))))) ?_
   refine k_seq ?_
   replace h := bs h
   obtain ⟨w6, hw6, h⟩ := h
   refine k_sreg (l1 := [(2, .box [.sl (some 37) []]), (13, .box [.sl none (v4.1.map ePt)]), (77, .p (.bool w6))]) ?_ ?_
   ·clear h
    rcases ft (!v4.2) with ha1 | ha1
    ·replace hw6 := ite_t ha1 hw6
     have hw6 := oi hw6
     subst hw6
     exact (r_gq [(2, .box [.sl (some 37) []]), (13, .box [.sl none (v4.1.map ePt)]), (77, .p (.bool true))] [(3, gT), (4, gT), (5, gT), (6, gT), (7, bT)] (A5 ha1 ha1 ha1 ha1 ha1))
    ·replace hw6 := ite_f ha1 hw6
     replace hw6 := bs hw6
     obtain ⟨v5, hv5, hw6⟩ := hw6
     have hw6 := oi hw6
     subst hw6
     exact (r_gq [(2, .box [.sl (some 37) []]), (13, .box [.sl none (v4.1.map ePt)]), (77, .p (.bool (!(v5.toList == a0.toList))))] [(3, gF), (4, {g := some false, call := some (none, [.p (.string v5)], true)}), (5, gF), (6, gF), (7, bF)] (A6 ha1 ha1 (wk_spec_imText hv5) ha1 ha1 ha1))
   ·refine kc w6 (fun hc2_6 => ?_) (fun hc2_6 => ?_)
    ·replace h := ite_t hc2_6 h
     refine k_sreg (r_gq [(2, .box [.sl none []]), (3, .p (.bool false))] [] trivial) ?_
     refine k_ret ?_
     refine q_r ?_
     obtain rfl := oi h
     exact er [(.ov true [.sl none []], 2), (.p (.bool false), 3)]
    ·replace h := ite_f hc2_6 h
     refine k_skip ?_
     refine q_n ?_
     refine k_sreg (r_gq [(2, .box [.sl none (v4.1.map ePt)]), (3, .p (.bool true))] [(0, bT)] (A1 (show frR [.sl none (v4.1.map ePt)] = true from (frR1 (frL_enc (fr_P (fr_P fr_I fr_I) (fr_P fr_I fr_I))) rfl)))) ?_
     refine k_ret ?_
     obtain rfl := oi h
     exact er [(.ov true [.sl none (v4.1.map ePt)], 2), (.p (.bool true), 3)]
  ·replace h := bs h
   obtain ⟨u8, hu8, h⟩ := h
   refine k_sreg (r_gq [(0, .p (.string a0)), (2, .box [.sl (some 37) []]), (5, .ov false [.sl (some 37) []]), (25, .d false [.sl none ((v1.take (Int.toNat (w64 ((v1.length : Int) - 1)))).map eT)]), (26, .p (iV ((v1.take (Int.toNat (w64 ((v1.length : Int) - 1)))).length : Int))), (27, .p (iV 0))] [(2, {n := some v1.length}), (4, {fix := some (25, .d false [.sl none ((v1.take (Int.toNat (w64 ((v1.length : Int) - 1)))).map eT)])}), (5, {n := some (v1.take (Int.toNat (w64 ((v1.length : Int) - 1)))).length})] (B6 (show (v1.map eT).length = v1.length from (List.length_map ..)) (show 0 ≤ (Int.toNat (w64 ((v1.length : Int) - 1))) from (by have hg := (guardO_some hu8); first | (simp only [List.length_map]; omega) | omega)) (show (Int.toNat (w64 ((v1.length : Int) - 1))) ≤ (v1.map eT).length from (by have hg := (guardO_some hu8); first | (simp only [List.length_map]; omega) | omega)) (show ∀ row ∈ (v1.map eT), row.length = 1 from (rows_len fun _ => rfl)) (show (0 : Int) ≤ (w64 ((v1.length : Int) - 1)) from (by have hg := (guardO_some hu8); omega)) (show (SV.d false [.sl none (((v1.map eT).take (Int.toNat (w64 ((v1.length : Int) - 1)))).drop 0)] : SV) = .d false [.sl none ((v1.take (Int.toNat (w64 ((v1.length : Int) - 1)))).map eT)] from (congrArg (fun z => SV.d false [.sl none z]) sl_hi)) (A1 (show ((v1.take (Int.toNat (w64 ((v1.length : Int) - 1)))).map eT).length = (v1.take (Int.toNat (w64 ((v1.length : Int) - 1)))).length from (List.length_map ..))))) ?_
   refine k_block ?_
   obtain ⟨y10, hl_x9, hk_x9⟩ := bs h
   clear h
   refine k_loop (J := fun (x : ((List Qp) × Int)) => [(0, .p (.string a0)), (2, .box [.sl (some 37) []]), (5, .ov false [.sl (some 37) (x.1.map ePt)]), (25, .d false [.sl none ((v1.take (Int.toNat (w64 ((v1.length : Int) - 1)))).map eT)]), (26, .p (iV ((v1.take (Int.toNat (w64 ((v1.length : Int) - 1)))).length : Int))), (27, .p (iV x.2))]) hl_x9 (wk_of (by kernel_rfl) (by kernel_rfl)) (fun x9 o_x9 h hy_x9 => ?_)
   unfold spec_ParseLift_b1 at h
   refine k_sreg (r_gq [(0, .p (.string a0)), (2, .box [.sl (some 37) []]), (5, .ov false [.sl (some 37) (x9.1.map ePt)]), (25, .d false [.sl none ((v1.take (Int.toNat (w64 ((v1.length : Int) - 1)))).map eT)]), (26, .p (iV ((v1.take (Int.toNat (w64 ((v1.length : Int) - 1)))).length : Int))), (27, .p (iV x9.2)), (28, .p (.bool (decide (x9.2 < ((v1.take (Int.toNat (w64 ((v1.length : Int) - 1)))).length : Int)))))] [] trivial) ?_
   refine k_seq ?_
   refine kc (decide (x9.2 < ((v1.take (Int.toNat (w64 ((v1.length : Int) - 1)))).length : Int))) (fun hc5_10 => ?_) (fun hc5_10 => ?_)
   ·replace h := ite_t hc5_10 h
    refine k_skip ?_
    refine q_n ?_
    refine k_seq ?_
    refine k_block ?_
    replace h := bs h
    obtain ⟨v12, hv12, h⟩ := h
    refine k_sreg (r_gq [(0, .p (.string a0)), (2, .box [.sl (some 37) []]), (5, .ov false [.sl (some 37) (x9.1.map ePt)]), (7, .p (.string v12)), (25, .d false [.sl none ((v1.take (Int.toNat (w64 ((v1.length : Int) - 1)))).map eT)]), (26, .p (iV ((v1.take (Int.toNat (w64 ((v1.length : Int) - 1)))).length : Int))), (27, .p (iV x9.2))] [(0, {row := some [.raw (.string v12)]})] (A2 (idxO_some hv12).1 (map_get eT (idxO_some hv12).2))) ?_
    replace h := bs h
    obtain ⟨v13, hv13, h⟩ := h
    refine k_sreg (r_gq [(0, .p (.string a0)), (2, .box [.sl (some 37) []]), (5, .ov false [.sl (some 37) (x9.1.map ePt)]), (8, .ov false [.sl (some 9) (v13.map eT)]), (25, .d false [.sl none ((v1.take (Int.toNat (w64 ((v1.length : Int) - 1)))).map eT)]), (26, .p (iV ((v1.take (Int.toNat (w64 ((v1.length : Int) - 1)))).length : Int))), (27, .p (iV x9.2))] [(1, {call := some (none, [.ov false [.sl (some 9) (v13.map eT)]], true)})] (A2 (wk_spec_l1Split hv13) (show List.all [.ov false [.sl (some 9) (v13.map eT)]] simpleR = true from (sa_o (wnR1 (wnL_enc wn_T) rfl) rfl)))) ?_
    refine k_seq ?_
    refine k_sreg (r_gq [(0, .p (.string a0)), (2, .box [.sl (some 37) []]), (5, .ov false [.sl (some 37) (x9.1.map ePt)]), (8, .ov false [.sl (some 9) (v13.map eT)]), (25, .d false [.sl none ((v1.take (Int.toNat (w64 ((v1.length : Int) - 1)))).map eT)]), (26, .p (iV ((v1.take (Int.toNat (w64 ((v1.length : Int) - 1)))).length : Int))), (27, .p (iV x9.2)), (35, .p (.bool ((v13.length : Int) != 2)))] [(1, {n := some v13.length})] (A1 (show (v13.map eT).length = v13.length from (List.length_map ..)))) ?_
    refine kc ((v13.length : Int) != 2) (fun hc7_13 => ?_) (fun hc7_13 => ?_)
    ·replace h := ite_t hc7_13 h
     refine k_sreg (r_gq [(2, .box [.sl none []]), (3, .p (.bool false))] [] trivial) ?_
     refine k_ret ?_
     refine q_r ?_
     refine b_r ?_
     refine q_r ?_
     refine lq_r ?_
     refine b_r ?_
     refine q_r ?_
     have hyy := hy_x9 _ (oi h).symm
     subst hyy
     have h := hk_x9
     dsimp only [Sum.elim] at h
     obtain rfl := oi h
     exact er [(.ov true [.sl none []], 2), (.p (.bool false), 3)]
    ·replace h := ite_f hc7_13 h
     refine k_skip ?_
     refine q_n ?_
     replace h := bs h
     obtain ⟨v15, hv15, h⟩ := h
     replace h := bs h
     obtain ⟨v16, hv16, h⟩ := h
     refine k_sreg (r_gq [(0, .p (.string a0)), (2, .box [.sl (some 37) []]), (5, .ov false [.sl (some 37) (x9.1.map ePt)]), (8, .ov false [.sl (some 9) (v13.map eT)]), (9, .box (eRt v16.1)), (10, .p (.bool v16.2)), (25, .d false [.sl none ((v1.take (Int.toNat (w64 ((v1.length : Int) - 1)))).map eT)]), (26, .p (iV ((v1.take (Int.toNat (w64 ((v1.length : Int) - 1)))).length : Int))), (27, .p (iV x9.2))] [(1, {row := some [.raw (.string v15)]}), (2, {row := some [.raw (.string v15)]}), (3, {call := some (none, [.p (vRt v16.1), .p (.bool v16.2)], true)})] (A4 (idxO_some hv15).1 (map_get eT (idxO_some hv15).2) (show getRow [[.sl (some 9) (v13.map eT)]] [(0, 0), ((Int.toNat 0), 0)] = some [.raw (.string v15)] from ((gr0 rfl).trans (gre (map_get eT (idxO_some hv15).2)))) (wk_spec_raParse hv16))) ?_
     replace h := bs h
     obtain ⟨v17, hv17, h⟩ := h
     replace h := bs h
     obtain ⟨v18, hv18, h⟩ := h
     refine k_sreg (r_gq [(0, .p (.string a0)), (2, .box [.sl (some 37) []]), (5, .ov false [.sl (some 37) (x9.1.map ePt)]), (9, .box (eRt v16.1)), (10, .p (.bool v16.2)), (11, .box (eRt v18.1)), (12, .p (.bool v18.2)), (25, .d false [.sl none ((v1.take (Int.toNat (w64 ((v1.length : Int) - 1)))).map eT)]), (26, .p (iV ((v1.take (Int.toNat (w64 ((v1.length : Int) - 1)))).length : Int))), (27, .p (iV x9.2))] [(1, {row := some [.raw (.string v17)]}), (2, {row := some [.raw (.string v17)]}), (3, {call := some (none, [.p (vRt v18.1), .p (.bool v18.2)], true)})] (A4 (idxO_some hv17).1 (map_get eT (idxO_some hv17).2) (show getRow [[.sl (some 9) (v13.map eT)]] [(0, 0), ((Int.toNat 1), 0)] = some [.raw (.string v17)] from ((gr0 rfl).trans (gre (map_get eT (idxO_some hv17).2)))) (wk_spec_raParse hv18))) ?_
     refine k_seq ?_
     refine k_sreg (l1 := [(0, .p (.string a0)), (2, .box [.sl (some 37) []]), (5, .ov false [.sl (some 37) (x9.1.map ePt)]), (9, .box (eRt v16.1)), (11, .box (eRt v18.1)), (25, .d false [.sl none ((v1.take (Int.toNat (w64 ((v1.length : Int) - 1)))).map eT)]), (26, .p (iV ((v1.take (Int.toNat (w64 ((v1.length : Int) - 1)))).length : Int))), (27, .p (iV x9.2)), (56, .p (.bool ((!v16.2) || (!v18.2))))]) ?_ ?_
     ·rcases ft (!v16.2) with ha3 | ha3
      ·exact RegOk.of_eq (l2 := [(0, .p (.string a0)), (2, .box [.sl (some 37) []]), (5, .ov false [.sl (some 37) (x9.1.map ePt)]), (9, .box (eRt v16.1)), (11, .box (eRt v18.1)), (25, .d false [.sl none ((v1.take (Int.toNat (w64 ((v1.length : Int) - 1)))).map eT)]), (26, .p (iV ((v1.take (Int.toNat (w64 ((v1.length : Int) - 1)))).length : Int))), (27, .p (iV x9.2)), (56, .p (.bool ((!v16.2) || (!v18.2))))]) (r_gq [(0, .p (.string a0)), (2, .box [.sl (some 37) []]), (5, .ov false [.sl (some 37) (x9.1.map ePt)]), (9, .box (eRt v16.1)), (11, .box (eRt v18.1)), (25, .d false [.sl none ((v1.take (Int.toNat (w64 ((v1.length : Int) - 1)))).map eT)]), (26, .p (iV ((v1.take (Int.toNat (w64 ((v1.length : Int) - 1)))).length : Int))), (27, .p (iV x9.2)), (56, .p (.bool true))] [(3, gT), (4, gT), (5, bT)] (A3 ha3 ha3 ha3)) (by simp [ha3])
      ·exact RegOk.of_eq (l2 := [(0, .p (.string a0)), (2, .box [.sl (some 37) []]), (5, .ov false [.sl (some 37) (x9.1.map ePt)]), (9, .box (eRt v16.1)), (11, .box (eRt v18.1)), (25, .d false [.sl none ((v1.take (Int.toNat (w64 ((v1.length : Int) - 1)))).map eT)]), (26, .p (iV ((v1.take (Int.toNat (w64 ((v1.length : Int) - 1)))).length : Int))), (27, .p (iV x9.2)), (56, .p (.bool ((!v16.2) || (!v18.2))))]) (r_gq [(0, .p (.string a0)), (2, .box [.sl (some 37) []]), (5, .ov false [.sl (some 37) (x9.1.map ePt)]), (9, .box (eRt v16.1)), (11, .box (eRt v18.1)), (25, .d false [.sl none ((v1.take (Int.toNat (w64 ((v1.length : Int) - 1)))).map eT)]), (26, .p (iV ((v1.take (Int.toNat (w64 ((v1.length : Int) - 1)))).length : Int))), (27, .p (iV x9.2)), (56, .p (.bool (!v18.2)))] [(3, gF), (4, gF), (5, bF)] (A3 ha3 ha3 ha3)) (by simp [ha3])
     ·refine kc ((!v16.2) || (!v18.2)) (fun hc7_18 => ?_) (fun hc7_18 => ?_)
      ·replace h := ite_t hc7_18 h
       refine k_sreg (r_gq [(2, .box [.sl none []]), (3, .p (.bool false))] [] trivial) ?_
       refine k_ret ?_
       refine q_r ?_
       refine b_r ?_
       refine q_r ?_
       refine lq_r ?_
       refine b_r ?_
       refine q_r ?_
       have hyy := hy_x9 _ (oi h).symm
       subst hyy
       have h := hk_x9
       dsimp only [Sum.elim] at h
       obtain rfl := oi h
       exact er [(.ov true [.sl none []], 2), (.p (.bool false), 3)]
      ·replace h := ite_f hc7_18 h
       refine k_skip ?_
       refine q_n ?_
       replace h := bs h
       obtain ⟨u20, hu20, h⟩ := h
       refine k_reg (r_gq [(0, .p (.string a0)), (2, .box [.sl (some 37) []]), (5, .ov false [.sl (some 37) ((x9.1 ++ [(v16.1, v18.1)]).map ePt)]), (25, .d false [.sl none ((v1.take (Int.toNat (w64 ((v1.length : Int) - 1)))).map eT)]), (26, .p (iV ((v1.take (Int.toNat (w64 ((v1.length : Int) - 1)))).length : Int))), (27, .p (iV x9.2))] [(5, {fix := some (63, .ov false [.sl (some 37) ((x9.1 ++ [(v16.1, v18.1)]).map ePt)])})] (A3 (show List.length ((x9.1.map ePt) : List (List C)) + List.length ((([(v16.1, v18.1)]).map ePt) : List (List C)) ≤ 1099511627776 from (by have hg := (guardO_some hu20); simpa using hg)) (show ∀ row ∈ ((([(v16.1, v18.1)]).map ePt) : List (List C)), row.length = 4 from (rows_len fun _ => rfl)) (show (SV.ov false [.sl (some 37) ((x9.1.map ePt) ++ (([(v16.1, v18.1)]).map ePt))] : SV) = .ov false [.sl (some 37) ((x9.1 ++ [(v16.1, v18.1)]).map ePt)] from (congrArg (fun z => SV.ov false [.sl (some 37) z]) (List.map_append ..).symm)))) ?_
       refine b_n ?_
       refine q_n ?_
       refine k_reg (r_gq [(0, .p (.string a0)), (2, .box [.sl (some 37) []]), (5, .ov false [.sl (some 37) ((x9.1 ++ [(v16.1, v18.1)]).map ePt)]), (25, .d false [.sl none ((v1.take (Int.toNat (w64 ((v1.length : Int) - 1)))).map eT)]), (26, .p (iV ((v1.take (Int.toNat (w64 ((v1.length : Int) - 1)))).length : Int))), (27, .p (iV (w64 (x9.2 + 1))))] [] trivial) ?_
       exact lqn ((x9.1 ++ [(v16.1, v18.1)]), (w64 (x9.2 + 1))) h
   ·replace h := ite_f hc5_10 h
    refine k_exit ?_
    refine q_x ?_
    refine lq_x ?_
    refine b_x ?_
    have hyy := hy_x9 _ (oi h).symm
    subst hyy
    have h := hk_x9
    dsimp only [Sum.elim] at h
    refine q_n ?_
    exact jx x9.1 h
end Go.PV
namespace Go.Proofs
open Go.Shelf
def Tryd.laysC172_ren : Go.Shelf.Ren := ⟨fun | 172 => 44 | 244 => 55 | 245 => 56 | 247 => 63 | 279 => 64 | 280 => 65 | 281 => 66 | 282 => 67 | 287 => 71 | 316 => 72 | 171 => 57 | 205 => 73 | 321 => 75 | 322 => 76 | 243 => 68 | 246 => 74 | 283 => 77 | 284 => 78 | 285 => 79 | 286 => 80 | 129 => 82 | 317 => 81 | 318 => 83 | 319 => 84 | 320 => 85 | 337 => 86 | 338 => 87 | n => n, fun | 9 => 9 | 3 => 3 | 75 => 63 | 76 => 64 | 4 => 4 | 5 => 5 | 167 => 72 | 37 => 67 | 0 => 0 | 85 => 73 | 2 => 2 | 168 => 75 | 53 => 81 | 175 => 82 | 46 => 71 | 210 => 86 | 127 => 90 | 145 => 93 | 143 => 91 | 21 => 21 | 171 => 94 | 173 => 97 | 212 => 100 | 51 => 78 | 20 => 20 | 213 => 101 | 232 => 105 | 233 => 106 | 80 => 107 | n => n, fun | 15 => 1 | 16 => 2 | 17 => 3 | 18 => 4 | 19 => 5 | n => n⟩
theorem Tryd.laysC172 : Go.Proofs.LaysC.n172 Tryd.prog Tryd.laysC172_ren := {
 mixed := by kernel_rfl
 f129 := Tryd.func82.trans (congrArg some (by kernel_rfl))
 f171 := Tryd.func57.trans (congrArg some (by kernel_rfl))
 f172 := Tryd.func44.trans (congrArg some (by kernel_rfl))
 f205 := Tryd.func73.trans (congrArg some (by kernel_rfl))
 f243 := Tryd.func68.trans (congrArg some (by kernel_rfl))
 f244 := Tryd.func55.trans (congrArg some (by kernel_rfl))
 f245 := Tryd.func56.trans (congrArg some (by kernel_rfl))
 f246 := Tryd.func74.trans (congrArg some (by kernel_rfl))
 f247 := Tryd.func63.trans (congrArg some (by kernel_rfl))
 f279 := Tryd.func64.trans (congrArg some (by kernel_rfl))
 f280 := Tryd.func65.trans (congrArg some (by kernel_rfl))
 f281 := Tryd.func66.trans (congrArg some (by kernel_rfl))
 f282 := Tryd.func67.trans (congrArg some (by kernel_rfl))
 f283 := Tryd.func77.trans (congrArg some (by kernel_rfl))
 f284 := Tryd.func78.trans (congrArg some (by kernel_rfl))
 f285 := Tryd.func79.trans (congrArg some (by kernel_rfl))
 f286 := Tryd.func80.trans (congrArg some (by kernel_rfl))
 f287 := Tryd.func71.trans (congrArg some (by kernel_rfl))
 f316 := Tryd.func72.trans (congrArg some (by kernel_rfl))
 f317 := Tryd.func81.trans (congrArg some (by kernel_rfl))
 f318 := Tryd.func83.trans (congrArg some (by kernel_rfl))
 f319 := Tryd.func84.trans (congrArg some (by kernel_rfl))
 f320 := Tryd.func85.trans (congrArg some (by kernel_rfl))
 f321 := Tryd.func75.trans (congrArg some (by kernel_rfl))
 f322 := Tryd.func76.trans (congrArg some (by kernel_rfl))
 f337 := Tryd.func86.trans (congrArg some (by kernel_rfl))
 f338 := Tryd.func87.trans (congrArg some (by kernel_rfl))
 t0 := Tryd.underlying0
 a0 := Tryd.isAgg0
 z0 := Tryd.sizeOf0
 v0 := Tryd.zeroValue0
 t2 := Tryd.underlying2
 a2 := Tryd.isAgg2
 z2 := Tryd.sizeOf2
 v2 := Tryd.zeroValue2
 t3 := Tryd.underlying3
 a3 := Tryd.isAgg3
 z3 := Tryd.sizeOf3
 v3 := Tryd.zeroValue3
 t4 := Tryd.underlying4
 a4 := Tryd.isAgg4
 z4 := Tryd.sizeOf4
 v4 := Tryd.zeroValue4
 t5 := Tryd.underlying5
 a5 := Tryd.isAgg5
 z5 := Tryd.sizeOf5
 v5 := Tryd.zeroValue5
 t9 := Tryd.underlying9
 a9 := Tryd.isAgg9
 z9 := Tryd.sizeOf9
 v9 := Tryd.zeroValue9
 t20 := Tryd.underlying20
 a20 := Tryd.isAgg20
 z20 := Tryd.sizeOf20
 v20 := Tryd.zeroValue20
 t21 := Tryd.underlying21
 a21 := Tryd.isAgg21
 z21 := Tryd.sizeOf21
 v21 := Tryd.zeroValue21
 t37 := Tryd.underlying67
 a37 := Tryd.isAgg67
 z37 := Tryd.sizeOf67
 v37 := Tryd.zeroValue67
 t46 := Tryd.underlying71
 a46 := Tryd.isAgg71
 z46 := Tryd.sizeOf71
 v46 := Tryd.zeroValue71
 t51 := Tryd.underlying78
 a51 := Tryd.isAgg78
 z51 := Tryd.sizeOf78
 v51 := Tryd.zeroValue78
 t53 := Tryd.underlying81
 a53 := Tryd.isAgg81
 z53 := Tryd.sizeOf81
 v53 := Tryd.zeroValue81
 t75 := Tryd.underlying63
 a75 := Tryd.isAgg63
 z75 := Tryd.sizeOf63
 v75 := Tryd.zeroValue63
 t76 := Tryd.underlying64
 a76 := Tryd.isAgg64
 z76 := Tryd.sizeOf64
 v76 := Tryd.zeroValue64
 t85 := Tryd.underlying73
 a85 := Tryd.isAgg73
 z85 := Tryd.sizeOf73
 v85 := Tryd.zeroValue73
 t127 := Tryd.underlying90
 a127 := Tryd.isAgg90
 z127 := Tryd.sizeOf90
 v127 := Tryd.zeroValue90
 t143 := Tryd.underlying91
 a143 := Tryd.isAgg91
 z143 := Tryd.sizeOf91
 v143 := Tryd.zeroValue91
 t145 := Tryd.underlying93
 a145 := Tryd.isAgg93
 z145 := Tryd.sizeOf93
 v145 := Tryd.zeroValue93
 t167 := Tryd.underlying72
 a167 := Tryd.isAgg72
 z167 := Tryd.sizeOf72
 v167 := Tryd.zeroValue72
 t168 := Tryd.underlying75
 a168 := Tryd.isAgg75
 z168 := Tryd.sizeOf75
 v168 := Tryd.zeroValue75
 t171 := Tryd.underlying94
 a171 := Tryd.isAgg94
 z171 := Tryd.sizeOf94
 v171 := Tryd.zeroValue94
 t173 := Tryd.underlying97
 a173 := Tryd.isAgg97
 z173 := Tryd.sizeOf97
 v173 := Tryd.zeroValue97
 t175 := Tryd.underlying82
 a175 := Tryd.isAgg82
 z175 := Tryd.sizeOf82
 v175 := Tryd.zeroValue82
 t210 := Tryd.underlying86
 a210 := Tryd.isAgg86
 z210 := Tryd.sizeOf86
 v210 := Tryd.zeroValue86
 t212 := Tryd.underlying100
 a212 := Tryd.isAgg100
 z212 := Tryd.sizeOf100
 v212 := Tryd.zeroValue100
 t213 := Tryd.underlying101
 a213 := Tryd.isAgg101
 z213 := Tryd.sizeOf101
 t232 := Tryd.underlying105
 a232 := Tryd.isAgg105
 z232 := Tryd.sizeOf105
 v232 := Tryd.zeroValue105
 t233 := Tryd.underlying106
 a233 := Tryd.isAgg106
 z233 := Tryd.sizeOf106
 v233 := Tryd.zeroValue106
 g15 := by kernel_rfl
 g16 := by kernel_rfl
 g17 := by kernel_rfl
 g18 := by kernel_rfl
 g19 := by kernel_rfl
 t80 := Tryd.underlying107
 a80 := Tryd.isAgg107
 z80 := Tryd.sizeOf107
 v80 := Tryd.zeroValue107
 i0 := by kernel_rfl
 i2 := by kernel_rfl
 i3 := by kernel_rfl
 i4 := by kernel_rfl
 i5 := by kernel_rfl
 i9 := by kernel_rfl
 i20 := by kernel_rfl
 i21 := by kernel_rfl
 i37 := by kernel_rfl
 i46 := by kernel_rfl
 i51 := by kernel_rfl
 i53 := by kernel_rfl
 i75 := by kernel_rfl
 i76 := by kernel_rfl
 i80 := by kernel_rfl
 i85 := by kernel_rfl
 i127 := by kernel_rfl
 i143 := by kernel_rfl
 i145 := by kernel_rfl
 i167 := by kernel_rfl
 i168 := by kernel_rfl
 i171 := by kernel_rfl
 i173 := by kernel_rfl
 i175 := by kernel_rfl
 i210 := by kernel_rfl
 i212 := by kernel_rfl
 i232 := by kernel_rfl
 i233 := by kernel_rfl
 m15 := by kernel_rfl
 m16 := by kernel_rfl
 m17 := by kernel_rfl
 m18 := by kernel_rfl
 m19 := by kernel_rfl
 c0 := by kernel_rfl
 c2 := by kernel_rfl
 c3 := by kernel_rfl
 c4 := by kernel_rfl
 c5 := by kernel_rfl
 c9 := by kernel_rfl
 c20 := by kernel_rfl
 c21 := by kernel_rfl
 c37 := by kernel_rfl
 c46 := by kernel_rfl
 c51 := by kernel_rfl
 c53 := by kernel_rfl
 c75 := by kernel_rfl
 c76 := by kernel_rfl
 c80 := by kernel_rfl
 c85 := by kernel_rfl
 c127 := by kernel_rfl
 c143 := by kernel_rfl
 c145 := by kernel_rfl
 c167 := by kernel_rfl
 c168 := by kernel_rfl
 c171 := by kernel_rfl
 c173 := by kernel_rfl
 c175 := by kernel_rfl
 c210 := by kernel_rfl
 c212 := by kernel_rfl
 c213 := by kernel_rfl
 c232 := by kernel_rfl
 c233 := by kernel_rfl }
def Tryd.laysM171_ren : Go.Shelf.Ren := ⟨fun | 171 => 57 | 243 => 68 | 246 => 74 | 283 => 77 | 284 => 78 | 285 => 79 | 286 => 80 | 129 => 82 | 317 => 81 | 318 => 83 | 319 => 84 | 320 => 85 | 337 => 86 | 338 => 87 | n => n, fun | 3 => 3 | 9 => 9 | 2 => 2 | 4 => 4 | 171 => 94 | 0 => 0 | 53 => 81 | 37 => 67 | 5 => 5 | 173 => 97 | 212 => 100 | 51 => 78 | 20 => 20 | 213 => 101 | 46 => 71 | 232 => 105 | 233 => 106 | n => n, fun | 17 => 3 | 18 => 4 | 19 => 5 | n => n⟩
theorem Tryd.laysM171 : Go.Proofs.LaysM.n171 Tryd.prog Tryd.laysM171_ren := {
 mixed := by kernel_rfl
 f129 := Tryd.func82.trans (congrArg some (by kernel_rfl))
 f171 := Tryd.func57.trans (congrArg some (by kernel_rfl))
 f243 := Tryd.func68.trans (congrArg some (by kernel_rfl))
 f246 := Tryd.func74.trans (congrArg some (by kernel_rfl))
 f283 := Tryd.func77.trans (congrArg some (by kernel_rfl))
 f284 := Tryd.func78.trans (congrArg some (by kernel_rfl))
 f285 := Tryd.func79.trans (congrArg some (by kernel_rfl))
 f286 := Tryd.func80.trans (congrArg some (by kernel_rfl))
 f317 := Tryd.func81.trans (congrArg some (by kernel_rfl))
 f318 := Tryd.func83.trans (congrArg some (by kernel_rfl))
 f319 := Tryd.func84.trans (congrArg some (by kernel_rfl))
 f320 := Tryd.func85.trans (congrArg some (by kernel_rfl))
 f337 := Tryd.func86.trans (congrArg some (by kernel_rfl))
 f338 := Tryd.func87.trans (congrArg some (by kernel_rfl))
 t0 := Tryd.underlying0
 a0 := Tryd.isAgg0
 z0 := Tryd.sizeOf0
 v0 := Tryd.zeroValue0
 t2 := Tryd.underlying2
 a2 := Tryd.isAgg2
 z2 := Tryd.sizeOf2
 v2 := Tryd.zeroValue2
 t3 := Tryd.underlying3
 a3 := Tryd.isAgg3
 z3 := Tryd.sizeOf3
 v3 := Tryd.zeroValue3
 t4 := Tryd.underlying4
 a4 := Tryd.isAgg4
 z4 := Tryd.sizeOf4
 v4 := Tryd.zeroValue4
 t5 := Tryd.underlying5
 a5 := Tryd.isAgg5
 z5 := Tryd.sizeOf5
 v5 := Tryd.zeroValue5
 t9 := Tryd.underlying9
 a9 := Tryd.isAgg9
 z9 := Tryd.sizeOf9
 v9 := Tryd.zeroValue9
 t20 := Tryd.underlying20
 a20 := Tryd.isAgg20
 z20 := Tryd.sizeOf20
 v20 := Tryd.zeroValue20
 t37 := Tryd.underlying67
 a37 := Tryd.isAgg67
 z37 := Tryd.sizeOf67
 v37 := Tryd.zeroValue67
 t46 := Tryd.underlying71
 a46 := Tryd.isAgg71
 z46 := Tryd.sizeOf71
 v46 := Tryd.zeroValue71
 t51 := Tryd.underlying78
 a51 := Tryd.isAgg78
 z51 := Tryd.sizeOf78
 v51 := Tryd.zeroValue78
 t53 := Tryd.underlying81
 a53 := Tryd.isAgg81
 z53 := Tryd.sizeOf81
 v53 := Tryd.zeroValue81
 t171 := Tryd.underlying94
 a171 := Tryd.isAgg94
 z171 := Tryd.sizeOf94
 v171 := Tryd.zeroValue94
 t173 := Tryd.underlying97
 a173 := Tryd.isAgg97
 z173 := Tryd.sizeOf97
 v173 := Tryd.zeroValue97
 t212 := Tryd.underlying100
 a212 := Tryd.isAgg100
 z212 := Tryd.sizeOf100
 v212 := Tryd.zeroValue100
 t213 := Tryd.underlying101
 a213 := Tryd.isAgg101
 z213 := Tryd.sizeOf101
 t232 := Tryd.underlying105
 a232 := Tryd.isAgg105
 z232 := Tryd.sizeOf105
 v232 := Tryd.zeroValue105
 t233 := Tryd.underlying106
 a233 := Tryd.isAgg106
 z233 := Tryd.sizeOf106
 v233 := Tryd.zeroValue106
 g17 := by kernel_rfl
 g18 := by kernel_rfl
 g19 := by kernel_rfl
 i0 := by kernel_rfl
 i2 := by kernel_rfl
 i3 := by kernel_rfl
 i4 := by kernel_rfl
 i5 := by kernel_rfl
 i9 := by kernel_rfl
 i20 := by kernel_rfl
 i37 := by kernel_rfl
 i46 := by kernel_rfl
 i51 := by kernel_rfl
 i53 := by kernel_rfl
 i171 := by kernel_rfl
 i173 := by kernel_rfl
 i212 := by kernel_rfl
 i232 := by kernel_rfl
 i233 := by kernel_rfl
 m17 := by kernel_rfl
 m18 := by kernel_rfl
 m19 := by kernel_rfl }
open Go.RowKit Go.Sort Go.Lib in
theorem Tryd.strconv_Itoa (n : Int) (h0 : -9223372036854775808 ≤ n) (h1 : n ≤ 9223372036854775807) (w : World) (htab : Lib.TabIs Tryd.prog w "internal/strconv.uint64pow10" .u64 Lib.pow10Tab) :
  Calls Tryd.prog 57 #[.int .i64 n] w fun e w' => e = .returned (.string ⟨(Lib.itoa n).toArray⟩) ∧ ∃ k os, w' = grow (w.drewN k) os := Any.strconv_Itoa Tryd.laysM171 n h0 h1 w htab
def Tryd.lays145_ren : Go.Shelf.Ren := ⟨fun | 145 => 22 | 220 => 43 | 219 => 54 | 217 => 59 | 225 => 60 | 224 => 61 | 267 => 62 | 266 => 69 | 314 => 70 | n => n, fun | 9 => 9 | 4 => 4 | 59 => 48 | 3 => 3 | 5 => 5 | 46 => 71 | 146 => 79 | 51 => 78 | n => n, fun | 1 => 0 | n => n⟩
theorem Tryd.lays145 : Go.Proofs.Lays.n145 Tryd.prog Tryd.lays145_ren := {
 mixed := by kernel_rfl
 f145 := Tryd.func22.trans (congrArg some (by kernel_rfl))
 f217 := Tryd.func59.trans (congrArg some (by kernel_rfl))
 f219 := Tryd.func54.trans (congrArg some (by kernel_rfl))
 f220 := Tryd.func43.trans (congrArg some (by kernel_rfl))
 f224 := Tryd.func61.trans (congrArg some (by kernel_rfl))
 f225 := Tryd.func60.trans (congrArg some (by kernel_rfl))
 f266 := Tryd.func69.trans (congrArg some (by kernel_rfl))
 f267 := Tryd.func62.trans (congrArg some (by kernel_rfl))
 f314 := Tryd.func70.trans (congrArg some (by kernel_rfl))
 t3 := Tryd.underlying3
 a3 := Tryd.isAgg3
 z3 := Tryd.sizeOf3
 v3 := Tryd.zeroValue3
 t4 := Tryd.underlying4
 a4 := Tryd.isAgg4
 z4 := Tryd.sizeOf4
 v4 := Tryd.zeroValue4
 t5 := Tryd.underlying5
 a5 := Tryd.isAgg5
 z5 := Tryd.sizeOf5
 v5 := Tryd.zeroValue5
 t9 := Tryd.underlying9
 a9 := Tryd.isAgg9
 z9 := Tryd.sizeOf9
 v9 := Tryd.zeroValue9
 t46 := Tryd.underlying71
 a46 := Tryd.isAgg71
 z46 := Tryd.sizeOf71
 v46 := Tryd.zeroValue71
 t51 := Tryd.underlying78
 a51 := Tryd.isAgg78
 z51 := Tryd.sizeOf78
 v51 := Tryd.zeroValue78
 t59 := Tryd.underlying48
 a59 := Tryd.isAgg48
 z59 := Tryd.sizeOf48
 v59 := Tryd.zeroValue48
 t146 := Tryd.underlying79
 a146 := Tryd.isAgg79
 z146 := Tryd.sizeOf79
 v146 := Tryd.zeroValue79
 g1 := by kernel_rfl }
end Go.Proofs
namespace Go.PV
open Go Go.PV Go.Proofs
theorem wk_strings_Cut {a0 : ByteArray} {a1 : ByteArray} {r : (ByteArray × ByteArray × Bool)} (h : strings_Cut a0 a1 = some r) : Meets Tryd.prog 22 [.v (.string a0), .v (.string a1)] { vals := [.p (.string r.1), .p (.string r.2.1), .p (.bool r.2.2)] } := by
 unfold strings_Cut at h
 obtain ⟨u1, hu1, h⟩ := bind_some' h
 have hg := guardO_some hu1
 obtain rfl := Option.some.inj h
 exact meets_cut (g := (Tryd.prog.globalNamed "internal/bytealg.MaxLen").getD 0) (by kernel_rfl) (by kernel_rfl) fun m w hm => Go.Proofs.Any.strings_Cut Go.Proofs.Tryd.lays145 a0 a1 m w hg hm
theorem wk_strconv_Atoi {a0 : ByteArray} {r : (Int × Bool)} (h : strconv_Atoi a0 = some r) : Meets Tryd.prog 44 [.v (.string a0)] { vals := [.p (iV r.1), .d false [.er r.2]] } := by
 unfold strconv_Atoi at h
 obtain ⟨u1, hu1, h⟩ := bind_some' h
 have hg := guardO_some hu1
 obtain rfl := Option.some.inj h
 exact meets_atoi (g1 := (Tryd.prog.globalNamed "strconv.ErrSyntax").getD 0) (g2 := (Tryd.prog.globalNamed "strconv.ErrRange").getD 0) (by kernel_rfl) (by kernel_rfl) (by kernel_rfl) (any_atoi Go.Proofs.Tryd.laysC172 a0 hg)
theorem wk_impl_within {a0 : Int} {a1 : Int} {a2 : Int}  {r : Bool} (h : impl_within a0 a1 a2 = some r) : Meets Tryd.prog 24 [wI a0, wI a1, wI a2] { vals := [.p (.bool r)] } := by
 refine mo Tryd.func24 [(0, .p (iV a0)), (1, .p (iV a1)), (2, .p (iV a2))] ?_
 unfold impl_within at h
 refine k_sreg (r_gq [(0, .p (iV a0)), (1, .p (iV a1)), (2, .p (iV a2))] [] trivial) ?_
 refine k_sreg (l1 := [(6, .p (.bool ((decide (a1 ≤ a0)) && (decide (a0 ≤ a2)))))]) ?_ ?_
 ·rcases ft (decide (a1 ≤ a0)) with ha0 | ha0
  ·exact RegOk.of_eq (l2 := [(6, .p (.bool ((decide (a1 ≤ a0)) && (decide (a0 ≤ a2)))))]) (r_gq [(6, .p (.bool (decide (a0 ≤ a2))))] [(4, gT), (5, gT), (6, gT), (7, bT)] (A4 ha0 ha0 ha0 ha0)) (by simp [ha0])
  ·exact RegOk.of_eq (l2 := [(6, .p (.bool ((decide (a1 ≤ a0)) && (decide (a0 ≤ a2)))))]) (r_gq [(6, .p (.bool false))] [(4, gF), (5, gF), (6, gF), (7, bF)] (A4 ha0 ha0 ha0 ha0)) (by simp [ha0])
 ·refine k_ret ?_
  obtain rfl := oi h
  exact er [(.p (.bool ((decide (a1 ≤ a0)) && (decide (a0 ≤ a2)))), 6)]
theorem wk_impl_abs {a0 : Int}  {r : Int} (h : impl_abs a0 = some r) : Meets Tryd.prog 58 [wI a0] { vals := [.p (iV r)] } := by
 refine mo Tryd.func58 [(0, .p (iV a0))] ?_
 unfold impl_abs at h
 refine k_sreg (r_gq [(0, .p (iV a0))] [] trivial) ?_
 refine k_seq ?_
 refine k_sreg (r_gq [(0, .p (iV a0)), (4, .p (.bool (decide (a0 < 0))))] [] trivial) ?_
 refine kc (decide (a0 < 0)) (fun hc2_0 => ?_) (fun hc2_0 => ?_)
 ·replace h := ite_t hc2_0 h
  refine k_sreg (r_gq [(2, .p (iV (w64 (0 - a0))))] [] trivial) ?_
  refine k_ret ?_
  refine q_r ?_
  obtain rfl := oi h
  exact er [(.p (iV (w64 (0 - a0))), 2)]
 ·replace h := ite_f hc2_0 h
  refine k_skip ?_
  refine q_n ?_
  refine k_sreg (r_gq [(2, .p (iV a0))] [] trivial) ?_
  refine k_ret ?_
  obtain rfl := oi h
  exact er [(.p (iV a0), 2)]
theorem wk_impl_greatestDivisor {a0 : Int} {a1 : Int}  {r : Int} (h : impl_greatestDivisor a0 a1 = some r) : Meets Tryd.prog 48 [wI a0, wI a1] { vals := [.p (iV r)] } := by
 refine mo Tryd.func48 [(0, .p (iV a0)), (1, .p (iV a1))] ?_
 unfold impl_greatestDivisor at h
 refine k_sreg (r_gq [(0, .p (iV a0)), (1, .p (iV a1))] [] trivial) ?_
 replace h := bs h
 obtain ⟨v1, hv1, h⟩ := h
 replace h := bs h
 obtain ⟨v2, hv2, h⟩ := h
 refine k_sreg (r_gq [(0, .p (iV v1)), (1, .p (iV v2))] [(1, {call := some (none, [.p (iV v1)], true)}), (3, {call := some (none, [.p (iV v2)], true)})] (A2 (wk_impl_abs hv1) (wk_impl_abs hv2))) ?_
 refine k_join (J := fun (x : Int) => [(0, .p (iV x))]) (K := fun x => impl_greatestDivisor_k1 x = some r) (fun x3 h => ?_) ?_
 ·unfold impl_greatestDivisor_k1 at h
  refine k_sreg (r_gq [(4, .p (iV x3))] [] trivial) ?_
  refine k_ret ?_
  obtain rfl := oi h
  exact er [(.p (iV x3), 4)]
 ·refine k_block ?_
  obtain ⟨y5, hl_x4, hk_x4⟩ := bs h
  clear h
  refine k_loop (J := fun (x : Qr) => [(0, .p (iV x.1)), (1, .p (iV x.2))]) hl_x4 (wk_of (by kernel_rfl) (by kernel_rfl)) (fun x4 o_x4 h hy_x4 => ?_)
  unfold impl_greatestDivisor_b1 at h
  refine k_seq ?_
  refine k_sreg (r_gq [(0, .p (iV x4.1)), (1, .p (iV x4.2)), (10, .p (.bool (x4.2 != 0)))] [] trivial) ?_
  refine kc (x4.2 != 0) (fun hc5_5 => ?_) (fun hc5_5 => ?_)
  ·replace h := ite_t hc5_5 h
   refine k_skip ?_
   refine q_n ?_
   refine k_block ?_
   replace h := bs h
   obtain ⟨u7, hu7, h⟩ := h
   refine k_reg (r_dq Tryd_mixed 5 [] [(0, .p (iV x4.2)), (1, .p (iV (Int.tmod x4.1 x4.2)))] [] (A1 (guardO_some hu7))) ?_
   refine b_n ?_
   exact lqn (x4.2, (Int.tmod x4.1 x4.2)) h
  ·replace h := ite_f hc5_5 h
   refine k_exit ?_
   refine q_x ?_
   refine lq_x ?_
   refine b_x ?_
   have hyy := hy_x4 _ (oi h).symm
   subst hyy
   have h := hk_x4
   refine q_n ?_
   exact jx x4.1 h
theorem wk_impl_isRat {a0 : Qr}  {r : Bool} (h : impl_isRat a0 = some r) : Meets Tryd.prog 28 [.v (vRt a0)] { vals := [.p (.bool r)] } := by
 refine mo Tryd.func28 [(0, .p (vRt a0))] ?_
 unfold impl_isRat at h
 refine k_sreg (r_gq [(1, .box (eRt a0))] [] trivial) ?_
 replace h := bs h
 obtain ⟨v1, hv1, h⟩ := h
 replace h := bs h
 obtain ⟨w4, hw4, h⟩ := h
 refine k_sreg (l1 := [(2, .p (.bool w4))]) ?_ ?_
 ·clear h
  rcases ft v1 with ha0 | ha0
  ·replace hw4 := ite_t ha0 hw4
   replace hw4 := bs hw4
   obtain ⟨v2, hv2, hw4⟩ := hw4
   rcases ft v2 with ha1 | ha1
   ·replace hw4 := ite_t ha1 hw4
    replace hw4 := bs hw4
    obtain ⟨v3, hv3, hw4⟩ := hw4
    have hw4 := oi hw4
    subst hw4
    exact (r_gq [(2, .p (.bool (v3 == 1)))] [(2, {call := some (none, [.p (.bool v1)], true)}), (4, gT), (5, gT), (6, {g := some true, call := some (none, [.p (.bool v2)], true)}), (7, bT), (9, gT), (10, gT), (11, gT), (12, gT), (13, {g := some true, call := some (none, [.p (iV v3)], true)}), (14, gT), (15, bT)] (B6 (wk_impl_within hv1) ha0 ha0 ha0 (wk_impl_within hv2) ha0 (B6 ha1 ha1 ha1 ha1 ha1 (wk_impl_greatestDivisor hv3) (A2 ha1 ha1))))
   ·replace hw4 := ite_f ha1 hw4
    have hw4 := oi hw4
    subst hw4
    exact (r_gq [(2, .p (.bool false))] [(2, {call := some (none, [.p (.bool v1)], true)}), (4, gT), (5, gT), (6, {g := some true, call := some (none, [.p (.bool v2)], true)}), (7, bT), (9, gF), (10, gF), (11, gF), (12, gF), (13, gF), (14, gF), (15, bF)] (B6 (wk_impl_within hv1) ha0 ha0 ha0 (wk_impl_within hv2) ha0 (B6 ha1 ha1 ha1 ha1 ha1 ha1 (A1 ha1))))
  ·replace hw4 := ite_f ha0 hw4
   have hw4 := oi hw4
   subst hw4
   exact (r_gq [(2, .p (.bool false))] [(2, {call := some (none, [.p (.bool v1)], true)}), (4, gF), (5, gF), (6, gF), (7, bF), (9, gF), (10, gF), (11, gF), (12, gF), (13, gF), (14, gF), (15, bF)] (B6 (wk_impl_within hv1) ha0 ha0 ha0 ha0 (show false = false from rfl) (A6 (show false = false from rfl) (show false = false from rfl) (show false = false from rfl) (show false = false from rfl) (show false = false from rfl) (show false = false from rfl))))
 ·refine k_ret ?_
  obtain rfl := oi h
  exact er [(.p (.bool w4), 2)]
theorem wk_strconv_Itoa {a0 : Int} {r : ByteArray} (h : strconv_Itoa a0 = some r) : Meets Tryd.prog 57 [wI a0] { vals := [.p (.string r)] } := by
 unfold strconv_Itoa at h
 obtain ⟨u1, hu1, h⟩ := bind_some' h
 have hg := guardO_some hu1
 obtain rfl := Option.some.inj h
 exact meets_itoa (by kernel_rfl) (by kernel_rfl) fun w hw => Go.Proofs.Tryd.strconv_Itoa a0 hg.1 hg.2 w hw
theorem wk_impl_ratText {a0 : Qr}  {r : ByteArray} (h : impl_ratText a0 = some r) : Meets Tryd.prog 45 [.v (vRt a0)] { vals := [.p (.string r)] } := by
 refine mo Tryd.func45 [(0, .p (vRt a0))] ?_
 unfold impl_ratText at h
 refine k_sreg (r_gq [(1, .box (eRt a0))] [] trivial) ?_
 replace h := bs h
 obtain ⟨v1, hv1, h⟩ := h
 replace h := bs h
 obtain ⟨u2, hu2, h⟩ := h
 replace h := bs h
 obtain ⟨v3, hv3, h⟩ := h
 replace h := bs h
 obtain ⟨u4, hu4, h⟩ := h
 refine k_sreg (r_dq Tryd_mixed 7 [] [(2, .p (.string ((v1 ++ (ByteArray.mk #[47])) ++ v3)))] [(2, {call := some (none, [.p (.string v1)], true)}), (6, {call := some (none, [.p (.string v3)], true)})] (A4 (wk_strconv_Itoa hv1) (guardO_some hu2) (wk_strconv_Itoa hv3) (guardO_some hu4))) ?_
 refine k_ret ?_
 obtain rfl := oi h
 exact er [(.p (.string ((v1 ++ (ByteArray.mk #[47])) ++ v3)), 2)]
theorem wk_impl_ParseRat {a0 : ByteArray}  {r : (Qr × Bool)} (h : impl_ParseRat a0 = some r) : Meets Tryd.prog 23 [.v (.string a0)] { vals := [.p (vRt r.1), .p (.bool r.2)] } := by
 refine mo Tryd.func23 [(0, .p (.string a0))] ?_
 unfold impl_ParseRat at h
 refine k_sreg (r_gq [(0, .p (.string a0)), (2, .box [rI 0, rI 0])] [] trivial) ?_
 replace h := bs h
 obtain ⟨v1, hv1, h⟩ := h
 refine k_sreg (r_gq [(0, .p (.string a0)), (2, .box [rI 0, rI 0]), (4, .p (.string v1.1)), (5, .p (.string v1.2.1)), (6, .p (.bool v1.2.2))] [(1, {call := some (none, [.p (.string v1.1), .p (.string v1.2.1), .p (.bool v1.2.2)], true)})] (A1 (wk_strings_Cut hv1))) ?_
 replace h := bs h
 obtain ⟨v2, hv2, h⟩ := h
 refine k_sreg (r_gq [(0, .p (.string a0)), (2, .box [rI 0, rI 0]), (5, .p (.string v1.2.1)), (6, .p (.bool v1.2.2)), (7, .p (iV v2.1)), (8, .d false [.er v2.2])] [(1, {call := some (none, [.p (iV v2.1), .d false [.er v2.2]], false)})] (A1 (wk_strconv_Atoi hv2))) ?_
 replace h := bs h
 obtain ⟨v3, hv3, h⟩ := h
 refine k_sreg (r_gq [(0, .p (.string a0)), (2, .box [rI 0, rI 0]), (6, .p (.bool v1.2.2)), (7, .p (iV v2.1)), (8, .d false [.er v2.2]), (9, .p (iV v3.1)), (10, .d false [.er v3.2])] [(1, {call := some (none, [.p (iV v3.1), .d false [.er v3.2]], false)})] (A1 (wk_strconv_Atoi hv3))) ?_
 refine k_sreg (r_gq [(0, .p (.string a0)), (2, .box [rI 0, rI 0]), (6, .p (.bool v1.2.2)), (8, .d false [.er v2.2]), (10, .d false [.er v3.2]), (11, .box [rI v2.1, rI v3.1])] [] trivial) ?_
 refine k_seq ?_
 replace h := bs h
 obtain ⟨w6, hw6, h⟩ := h
 refine k_sreg (l1 := [(2, .box [rI 0, rI 0]), (11, .box [rI v2.1, rI v3.1]), (51, .p (.bool w6))]) ?_ ?_
 ·clear h
  rcases ft (!v1.2.2) with ha0 | ha0
  ·replace hw6 := ite_t ha0 hw6
   have hw6 := oi hw6
   subst hw6
   exact (r_gq [(2, .box [rI 0, rI 0]), (11, .box [rI v2.1, rI v3.1]), (51, .p (.bool true))] [(3, gT), (4, gT), (5, bT), (7, gT), (8, gT), (9, bT), (11, gT), (12, gT), (13, gT), (14, bT), (16, gT), (17, gT), (18, gT), (19, gT), (20, bT)] (B6 ha0 ha0 ha0 (show true = true from rfl) (show true = true from rfl) (show true = true from rfl) (B6 (show true = true from rfl) (show true = true from rfl) (show true = true from rfl) (show true = true from rfl) (show true = true from rfl) (show true = true from rfl) (A3 (show true = true from rfl) (show true = true from rfl) (show true = true from rfl)))))
  ·replace hw6 := ite_f ha0 hw6
   rcases ft (!v2.2) with ha1 | ha1
   ·replace hw6 := ite_t ha1 hw6
    have hw6 := oi hw6
    subst hw6
    exact (r_gq [(2, .box [rI 0, rI 0]), (11, .box [rI v2.1, rI v3.1]), (51, .p (.bool true))] [(3, gF), (4, gF), (5, bF), (7, gT), (8, gT), (9, bT), (11, gT), (12, gT), (13, gT), (14, bT), (16, gT), (17, gT), (18, gT), (19, gT), (20, bT)] (B6 ha0 ha0 (show Tryd.prog.underlying 63 = some (.interface (Tryd.prog.methodsAt 63)) from (by kernel_rfl)) ha0 ha1 ha1 (B6 ha1 (show true = true from rfl) (show true = true from rfl) (show true = true from rfl) (show true = true from rfl) (show true = true from rfl) (A4 (show true = true from rfl) (show true = true from rfl) (show true = true from rfl) (show true = true from rfl)))))
   ·replace hw6 := ite_f ha1 hw6
    rcases ft (!v3.2) with ha2 | ha2
    ·replace hw6 := ite_t ha2 hw6
     have hw6 := oi hw6
     subst hw6
     exact (r_gq [(2, .box [rI 0, rI 0]), (11, .box [rI v2.1, rI v3.1]), (51, .p (.bool true))] [(3, gF), (4, gF), (5, bF), (7, gF), (8, gF), (9, bF), (11, gT), (12, gT), (13, gT), (14, bT), (16, gT), (17, gT), (18, gT), (19, gT), (20, bT)] (B6 ha0 ha0 (show Tryd.prog.underlying 63 = some (.interface (Tryd.prog.methodsAt 63)) from (by kernel_rfl)) ha0 ha1 ha1 (B6 (show Tryd.prog.underlying 63 = some (.interface (Tryd.prog.methodsAt 63)) from (by kernel_rfl)) ha1 ha2 ha2 ha2 ha2 (A5 (show true = true from rfl) (show true = true from rfl) (show true = true from rfl) (show true = true from rfl) (show true = true from rfl)))))
    ·replace hw6 := ite_f ha2 hw6
     replace hw6 := bs hw6
     obtain ⟨v4, hv4, hw6⟩ := hw6
     rcases ft (!v4) with ha3 | ha3
     ·replace hw6 := ite_t ha3 hw6
      have hw6 := oi hw6
      subst hw6
      exact (r_gq [(2, .box [rI 0, rI 0]), (11, .box [rI v2.1, rI v3.1]), (51, .p (.bool true))] [(3, gF), (4, gF), (5, bF), (7, gF), (8, gF), (9, bF), (11, gF), (12, {g := some false, call := some (none, [.p (.bool v4)], true)}), (13, gF), (14, bF), (16, gT), (17, gT), (18, gT), (19, gT), (20, bT)] (B6 ha0 ha0 (show Tryd.prog.underlying 63 = some (.interface (Tryd.prog.methodsAt 63)) from (by kernel_rfl)) ha0 ha1 ha1 (B6 (show Tryd.prog.underlying 63 = some (.interface (Tryd.prog.methodsAt 63)) from (by kernel_rfl)) ha1 ha2 ha2 (wk_impl_isRat hv4) ha2 (A6 ha2 ha3 ha3 ha3 ha3 ha3))))
     ·replace hw6 := ite_f ha3 hw6
      replace hw6 := bs hw6
      obtain ⟨v5, hv5, hw6⟩ := hw6
      have hw6 := oi hw6
      subst hw6
      exact (r_gq [(2, .box [rI 0, rI 0]), (11, .box [rI v2.1, rI v3.1]), (51, .p (.bool (!(v5.toList == a0.toList))))] [(3, gF), (4, gF), (5, bF), (7, gF), (8, gF), (9, bF), (11, gF), (12, {g := some false, call := some (none, [.p (.bool v4)], true)}), (13, gF), (14, bF), (16, gF), (17, {g := some false, call := some (none, [.p (.string v5)], true)}), (18, gF), (19, gF), (20, bF)] (B6 ha0 ha0 (show Tryd.prog.underlying 63 = some (.interface (Tryd.prog.methodsAt 63)) from (by kernel_rfl)) ha0 ha1 ha1 (B6 (show Tryd.prog.underlying 63 = some (.interface (Tryd.prog.methodsAt 63)) from (by kernel_rfl)) ha1 ha2 ha2 (wk_impl_isRat hv4) ha2 (B6 ha2 ha3 ha3 (wk_impl_ratText hv5) ha3 ha3 (A1 ha3)))))
 ·refine kc w6 (fun hc2_6 => ?_) (fun hc2_6 => ?_)
  ·replace h := ite_t hc2_6 h
   refine k_sreg (r_gq [(2, .box [rI 0, rI 0]), (3, .p (.bool false))] [] trivial) ?_
   refine k_ret ?_
   refine q_r ?_
   obtain rfl := oi h
   exact er [(.p (.agg #[.int .i64 0, .int .i64 0]), 2), (.p (.bool false), 3)]
  ·replace h := ite_f hc2_6 h
   refine k_skip ?_
   refine q_n ?_
   refine k_sreg (r_gq [(2, .box [rI v2.1, rI v3.1]), (3, .p (.bool true))] [] trivial) ?_
   refine k_ret ?_
   obtain rfl := oi h
   exact er [(.p (.agg #[.int .i64 v2.1, .int .i64 v3.1]), 2), (.p (.bool true), 3)]
theorem wk_impl_readPoints {a0 : ByteArray}  {r : ((List Qp) × Bool)} (h : impl_readPoints a0 = some r) : Meets Tryd.prog 13 [.v (.string a0)] { vals := [.ov false [.sl (some 37) (r.1.map ePt)], .p (.bool r.2)] } := by
 refine mo Tryd.func13 [(0, .p (.string a0))] ?_
 unfold impl_readPoints at h
 refine k_sreg (r_gq [(0, .p (.string a0))] [] trivial) ?_
 refine k_sreg (r_gq [(0, .p (.string a0)), (4, .ov false [.sl (some 37) []])] [] trivial) ?_
 refine k_join (J := fun (x : (List Qp)) => [(4, .ov false [.sl (some 37) (x.map ePt)])]) (K := fun x => impl_readPoints_k1 x = some r) (fun x1 h => ?_) ?_
 ·unfold impl_readPoints_k1 at h
  refine k_sreg (r_gq [(2, .ov false [.sl (some 37) (x1.map ePt)]), (3, .p (.bool true))] [] trivial) ?_
  refine k_ret ?_
  obtain rfl := oi h
  exact er [(.ov false [.sl (some 37) (x1.map ePt)], 2), (.p (.bool true), 3)]
 ·refine k_block ?_
  obtain ⟨y3, hl_x2, hk_x2⟩ := bs h
  clear h
  refine k_loop (J := fun (x : (ByteArray × (List Qp))) => [(0, .p (.string x.1)), (4, .ov false [.sl (some 37) (x.2.map ePt)])]) hl_x2 (wk_of (by kernel_rfl) (by kernel_rfl)) (fun x2 o_x2 h hy_x2 => ?_)
  unfold impl_readPoints_b1 at h
  refine k_seq ?_
  refine k_sreg (r_gq [(0, .p (.string x2.1)), (4, .ov false [.sl (some 37) (x2.2.map ePt)]), (16, .p (.bool (!(x2.1.toList == ByteArray.empty.toList))))] [] trivial) ?_
  refine kc (!(x2.1.toList == ByteArray.empty.toList)) (fun hc5_3 => ?_) (fun hc5_3 => ?_)
  ·replace h := ite_t hc5_3 h
   refine k_skip ?_
   refine q_n ?_
   refine k_block ?_
   replace h := bs h
   obtain ⟨v5, hv5, h⟩ := h
   refine k_sreg (r_gq [(4, .ov false [.sl (some 37) (x2.2.map ePt)]), (5, .p (.string v5.1)), (6, .p (.string v5.2.1)), (7, .p (.bool v5.2.2))] [(1, {call := some (none, [.p (.string v5.1), .p (.string v5.2.1), .p (.bool v5.2.2)], true)})] (A1 (wk_strings_Cut hv5))) ?_
   replace h := bs h
   obtain ⟨v6, hv6, h⟩ := h
   refine k_sreg (r_gq [(4, .ov false [.sl (some 37) (x2.2.map ePt)]), (6, .p (.string v5.2.1)), (7, .p (.bool v5.2.2)), (8, .p (.string v6.1)), (9, .p (.string v6.2.1)), (10, .p (.bool v6.2.2))] [(1, {call := some (none, [.p (.string v6.1), .p (.string v6.2.1), .p (.bool v6.2.2)], true)})] (A1 (wk_strings_Cut hv6))) ?_
   replace h := bs h
   obtain ⟨v7, hv7, h⟩ := h
   refine k_sreg (r_gq [(4, .ov false [.sl (some 37) (x2.2.map ePt)]), (6, .p (.string v5.2.1)), (7, .p (.bool v5.2.2)), (9, .p (.string v6.2.1)), (10, .p (.bool v6.2.2)), (11, .box (eRt v7.1)), (12, .p (.bool v7.2))] [(1, {call := some (none, [.p (vRt v7.1), .p (.bool v7.2)], true)})] (A1 (wk_impl_ParseRat hv7))) ?_
   replace h := bs h
   obtain ⟨v8, hv8, h⟩ := h
   refine k_sreg (r_gq [(4, .ov false [.sl (some 37) (x2.2.map ePt)]), (6, .p (.string v5.2.1)), (7, .p (.bool v5.2.2)), (10, .p (.bool v6.2.2)), (11, .box (eRt v7.1)), (12, .p (.bool v7.2)), (13, .box (eRt v8.1)), (14, .p (.bool v8.2))] [(1, {call := some (none, [.p (vRt v8.1), .p (.bool v8.2)], true)})] (A1 (wk_impl_ParseRat hv8))) ?_
   refine k_seq ?_
   refine k_sreg (l1 := [(4, .ov false [.sl (some 37) (x2.2.map ePt)]), (6, .p (.string v5.2.1)), (11, .box (eRt v7.1)), (13, .box (eRt v8.1)), (52, .p (.bool ((!v5.2.2) || ((!v6.2.2) || ((!v7.2) || (!v8.2))))))]) ?_ ?_
   ·rcases ft (!v5.2.2) with ha1 | ha1
    ·exact RegOk.of_eq (l2 := [(4, .ov false [.sl (some 37) (x2.2.map ePt)]), (6, .p (.string v5.2.1)), (11, .box (eRt v7.1)), (13, .box (eRt v8.1)), (52, .p (.bool ((!v5.2.2) || ((!v6.2.2) || ((!v7.2) || (!v8.2))))))]) (r_gq [(4, .ov false [.sl (some 37) (x2.2.map ePt)]), (6, .p (.string v5.2.1)), (11, .box (eRt v7.1)), (13, .box (eRt v8.1)), (52, .p (.bool true))] [(3, gT), (4, gT), (5, bT), (7, gT), (8, gT), (9, bT), (11, gT), (12, gT), (13, bT)] (B6 ha1 ha1 ha1 (show true = true from rfl) (show true = true from rfl) (show true = true from rfl) (A3 (show true = true from rfl) (show true = true from rfl) (show true = true from rfl)))) (by simp [ha1])
    ·rcases ft (!v6.2.2) with ha2 | ha2
     ·exact RegOk.of_eq (l2 := [(4, .ov false [.sl (some 37) (x2.2.map ePt)]), (6, .p (.string v5.2.1)), (11, .box (eRt v7.1)), (13, .box (eRt v8.1)), (52, .p (.bool ((!v5.2.2) || ((!v6.2.2) || ((!v7.2) || (!v8.2))))))]) (r_gq [(4, .ov false [.sl (some 37) (x2.2.map ePt)]), (6, .p (.string v5.2.1)), (11, .box (eRt v7.1)), (13, .box (eRt v8.1)), (52, .p (.bool true))] [(3, gF), (4, gF), (5, bF), (7, gT), (8, gT), (9, bT), (11, gT), (12, gT), (13, bT)] (B6 ha1 ha1 ha1 ha2 ha2 ha2 (A3 (show true = true from rfl) (show true = true from rfl) (show true = true from rfl)))) (by simp [ha1, ha2])
     ·rcases ft (!v7.2) with ha3 | ha3
      ·exact RegOk.of_eq (l2 := [(4, .ov false [.sl (some 37) (x2.2.map ePt)]), (6, .p (.string v5.2.1)), (11, .box (eRt v7.1)), (13, .box (eRt v8.1)), (52, .p (.bool ((!v5.2.2) || ((!v6.2.2) || ((!v7.2) || (!v8.2))))))]) (r_gq [(4, .ov false [.sl (some 37) (x2.2.map ePt)]), (6, .p (.string v5.2.1)), (11, .box (eRt v7.1)), (13, .box (eRt v8.1)), (52, .p (.bool true))] [(3, gF), (4, gF), (5, bF), (7, gF), (8, gF), (9, bF), (11, gT), (12, gT), (13, bT)] (B6 ha1 ha1 ha1 ha2 ha2 ha2 (A3 ha3 ha3 ha3))) (by (try rw [ha1]); (try rw [ha2]); (try rw [ha3]); all_goals (first | rfl | simp [ha1, ha2, ha3]))
      ·exact RegOk.of_eq (l2 := [(4, .ov false [.sl (some 37) (x2.2.map ePt)]), (6, .p (.string v5.2.1)), (11, .box (eRt v7.1)), (13, .box (eRt v8.1)), (52, .p (.bool ((!v5.2.2) || ((!v6.2.2) || ((!v7.2) || (!v8.2))))))]) (r_gq [(4, .ov false [.sl (some 37) (x2.2.map ePt)]), (6, .p (.string v5.2.1)), (11, .box (eRt v7.1)), (13, .box (eRt v8.1)), (52, .p (.bool (!v8.2)))] [(3, gF), (4, gF), (5, bF), (7, gF), (8, gF), (9, bF), (11, gF), (12, gF), (13, bF)] (B6 ha1 ha1 ha1 ha2 ha2 ha2 (A3 ha3 ha3 ha3))) (by (try rw [ha1]); (try rw [ha2]); (try rw [ha3]); all_goals (first | rfl | simp [ha1, ha2, ha3]))
   ·refine kc ((!v5.2.2) || ((!v6.2.2) || ((!v7.2) || (!v8.2)))) (fun hc6_8 => ?_) (fun hc6_8 => ?_)
    ·replace h := ite_t hc6_8 h
     refine k_sreg (r_gq [(2, .ov false [.sl (some 37) []]), (3, .p (.bool false))] [] trivial) ?_
     refine k_ret ?_
     refine q_r ?_
     refine b_r ?_
     refine lq_r ?_
     refine b_r ?_
     refine q_r ?_
     have hyy := hy_x2 _ (oi h).symm
     subst hyy
     have h := hk_x2
     dsimp only [Sum.elim] at h
     obtain rfl := oi h
     exact er [(.ov false [.sl (some 37) []], 2), (.p (.bool false), 3)]
    ·replace h := ite_f hc6_8 h
     refine k_skip ?_
     refine q_n ?_
     replace h := bs h
     obtain ⟨u10, hu10, h⟩ := h
     refine k_sreg (r_gq [(4, .ov false [.sl (some 37) ((x2.2 ++ [(v7.1, v8.1)]).map ePt)]), (6, .p (.string v5.2.1))] [(5, {fix := some (58, .ov false [.sl (some 37) ((x2.2 ++ [(v7.1, v8.1)]).map ePt)])})] (A3 (show List.length ((x2.2.map ePt) : List (List C)) + List.length ((([(v7.1, v8.1)]).map ePt) : List (List C)) ≤ 1099511627776 from (by have hg := (guardO_some hu10); simpa using hg)) (show ∀ row ∈ ((([(v7.1, v8.1)]).map ePt) : List (List C)), row.length = 4 from (rows_len fun _ => rfl)) (show (SV.ov false [.sl (some 37) ((x2.2.map ePt) ++ (([(v7.1, v8.1)]).map ePt))] : SV) = .ov false [.sl (some 37) ((x2.2 ++ [(v7.1, v8.1)]).map ePt)] from (congrArg (fun z => SV.ov false [.sl (some 37) z]) (List.map_append ..).symm)))) ?_
     refine k_reg (r_gq [(0, .p (.string v5.2.1)), (4, .ov false [.sl (some 37) ((x2.2 ++ [(v7.1, v8.1)]).map ePt)])] [] trivial) ?_
     refine b_n ?_
     exact lqn (v5.2.1, (x2.2 ++ [(v7.1, v8.1)])) h
  ·replace h := ite_f hc5_3 h
   refine k_exit ?_
   refine q_x ?_
   refine lq_x ?_
   refine b_x ?_
   have hyy := hy_x2 _ (oi h).symm
   subst hyy
   have h := hk_x2
   dsimp only [Sum.elim] at h
   refine q_n ?_
   exact jx x2.2 h
theorem wk_slices_IndexFunc_Limpl_Point_impl_Point_v {a0 : (List Qp)} {a1 : (Qp → Option Bool)} {F1 : FuncId} (hp1 : ∀ x0 y, a1 x0 = some y → Meets Tryd.prog F1 ([.v (vPt x0)] ++ []) { vals := [.p (.bool y)] }) {r : Int} (h : slices_IndexFunc_Limpl_Point_impl_Point a0 a1 = some r) : Meets Tryd.prog 46 [.d false [.sl none (a0.map ePt)], .v (.func (.func F1) #[] #[])] { vals := [.p (iV r)] } := by
 refine mo Tryd.func46 [(0, .d false [.sl none (a0.map ePt)]), (1, .p (.func (.func F1) #[] #[]))] ?_
 unfold slices_IndexFunc_Limpl_Point_impl_Point at h
 refine k_sreg (r_gq [(0, .d false [.sl none (a0.map ePt)]), (1, .p (.func (.func F1) #[] #[]))] [] trivial) ?_
 refine k_join (J := fun (x : Unit) => []) (K := fun x => slices_IndexFunc_Limpl_Point_impl_Point_k1 x = some r) (fun x1 h => ?_) ?_
 ·unfold slices_IndexFunc_Limpl_Point_impl_Point_k1 at h
  refine k_sreg (r_gq [(4, .p (iV (-1)))] [] trivial) ?_
  refine k_ret ?_
  obtain rfl := oi h
  exact er [(.p (iV (-1)), 4)]
 ·refine k_sreg (r_gq [(0, .d false [.sl none (a0.map ePt)]), (1, .p (.func (.func F1) #[] #[])), (7, .p (iV (a0.length : Int))), (8, .p (iV 0))] [(1, {n := some a0.length})] (A1 (show (a0.map ePt).length = a0.length from (List.length_map ..)))) ?_
  refine k_block ?_
  obtain ⟨y3, hl_x2, hk_x2⟩ := bs h
  clear h
  refine k_loop (J := fun (x : Int) => [(0, .d false [.sl none (a0.map ePt)]), (1, .p (.func (.func F1) #[] #[])), (7, .p (iV (a0.length : Int))), (8, .p (iV x))]) hl_x2 (wk_of (by kernel_rfl) (by kernel_rfl)) (fun x2 o_x2 h hy_x2 => ?_)
  unfold slices_IndexFunc_Limpl_Point_impl_Point_b1 at h
  refine k_sreg (r_gq [(0, .d false [.sl none (a0.map ePt)]), (1, .p (.func (.func F1) #[] #[])), (7, .p (iV (a0.length : Int))), (8, .p (iV x2)), (9, .p (.bool (decide (x2 < (a0.length : Int)))))] [] trivial) ?_
  refine k_seq ?_
  refine kc (decide (x2 < (a0.length : Int))) (fun hc5_3 => ?_) (fun hc5_3 => ?_)
  ·replace h := ite_t hc5_3 h
   refine k_skip ?_
   refine q_n ?_
   refine k_seq ?_
   refine k_block ?_
   refine k_sreg (r_gq [(0, .d false [.sl none (a0.map ePt)]), (1, .p (.func (.func F1) #[] #[])), (5, .p (iV x2)), (7, .p (iV (a0.length : Int))), (8, .p (iV x2))] [] trivial) ?_
   replace h := bs h
   obtain ⟨v5, hv5, h⟩ := h
   replace h := bs h
   obtain ⟨v6, hv6, h⟩ := h
   refine k_sreg (r_gq [(0, .d false [.sl none (a0.map ePt)]), (1, .p (.func (.func F1) #[] #[])), (5, .p (iV x2)), (7, .p (iV (a0.length : Int))), (8, .p (iV x2)), (16, .p (.bool v6))] [(3, {row := some (ePt v5)}), (5, {call := some (none, [.p (.bool v6)], true)})] (A3 (idxO_some hv5).1 (map_get ePt (idxO_some hv5).2) (hp1 _ _ hv6))) ?_
   refine kc v6 (fun hc6_6 => ?_) (fun hc6_6 => ?_)
   ·replace h := ite_t hc6_6 h
    refine k_sreg (r_gq [(4, .p (iV x2))] [] trivial) ?_
    refine k_ret ?_
    refine b_r ?_
    refine q_r ?_
    refine lq_r ?_
    refine b_r ?_
    refine q_r ?_
    have hyy := hy_x2 _ (oi h).symm
    subst hyy
    have h := hk_x2
    dsimp only [Sum.elim] at h
    obtain rfl := oi h
    exact er [(.p (iV x2), 4)]
   ·replace h := ite_f hc6_6 h
    refine k_skip ?_
    refine b_n ?_
    refine q_n ?_
    refine k_reg (r_gq [(0, .d false [.sl none (a0.map ePt)]), (1, .p (.func (.func F1) #[] #[])), (7, .p (iV (a0.length : Int))), (8, .p (iV (w64 (x2 + 1))))] [] trivial) ?_
    exact lqn (w64 (x2 + 1)) h
  ·replace h := ite_f hc5_3 h
   refine k_exit ?_
   refine q_x ?_
   refine lq_x ?_
   refine b_x ?_
   have hyy := hy_x2 _ (oi h).symm
   subst hyy
   have h := hk_x2
   dsimp only [Sum.elim] at h
   refine q_n ?_
   exact jx () h
theorem wk_slices_ContainsFunc_Limpl_Point_impl_Point_v {a0 : (List Qp)} {a1 : (Qp → Option Bool)} {F1 : FuncId} (hp1 : ∀ x0 y, a1 x0 = some y → Meets Tryd.prog F1 ([.v (vPt x0)] ++ []) { vals := [.p (.bool y)] }) {r : Bool} (h : slices_ContainsFunc_Limpl_Point_impl_Point a0 a1 = some r) : Meets Tryd.prog 25 [.d false [.sl none (a0.map ePt)], .v (.func (.func F1) #[] #[])] { vals := [.p (.bool r)] } := by
 refine mo Tryd.func25 [(0, .d false [.sl none (a0.map ePt)]), (1, .p (.func (.func F1) #[] #[]))] ?_
 unfold slices_ContainsFunc_Limpl_Point_impl_Point at h
 refine k_sreg (r_gq [(0, .d false [.sl none (a0.map ePt)]), (1, .p (.func (.func F1) #[] #[]))] [] trivial) ?_
 replace h := bs h
 obtain ⟨v1, hv1, h⟩ := h
 refine k_sreg (r_gq [(4, .p (.bool (decide (v1 ≥ 0))))] [(2, {call := some (none, [.p (iV v1)], true)})] (A1 (show Meets Tryd.prog 46 ([.d false [.sl none (a0.map ePt)], .v (.func (.func F1) #[] #[])] ++ []) { vals := [.p (iV v1)] } from (wk_slices_IndexFunc_Limpl_Point_impl_Point_v hp1 hv1)))) ?_
 refine k_ret ?_
 obtain rfl := oi h
 exact er [(.p (.bool (decide (v1 ≥ 0))), 4)]
theorem wk_impl_isUnit {a0 : Qr}  {r : Bool} (h : impl_isUnit a0 = some r) : Meets Tryd.prog 47 [.v (vRt a0)] { vals := [.p (.bool r)] } := by
 refine mo Tryd.func47 [(0, .p (vRt a0))] ?_
 unfold impl_isUnit at h
 refine k_sreg (r_gq [(1, .box (eRt a0))] [] trivial) ?_
 replace h := bs h
 obtain ⟨v1, hv1, h⟩ := h
 refine k_sreg (l1 := [(2, .p (.bool (v1 && ((decide (a0.1 ≥ 0)) && (decide (a0.1 ≤ a0.2))))))]) ?_ ?_
 ·rcases ft v1 with ha0 | ha0
  ·rcases ft (decide (a0.1 ≥ 0)) with ha1 | ha1
   ·exact RegOk.of_eq (l2 := [(2, .p (.bool (v1 && ((decide (a0.1 ≥ 0)) && (decide (a0.1 ≤ a0.2))))))]) (r_gq [(2, .p (.bool (decide (a0.1 ≤ a0.2))))] [(1, {call := some (none, [.p (.bool v1)], true)}), (3, gT), (4, gT), (5, gT), (6, bT), (8, gT), (9, gT), (10, gT), (11, gT), (12, gT), (13, bT)] (B6 (wk_impl_isRat hv1) ha0 ha0 ha0 ha0 ha1 (A5 ha1 ha1 ha1 ha1 ha1))) (by simp [ha0, ha1])
   ·exact RegOk.of_eq (l2 := [(2, .p (.bool (v1 && ((decide (a0.1 ≥ 0)) && (decide (a0.1 ≤ a0.2))))))]) (r_gq [(2, .p (.bool false))] [(1, {call := some (none, [.p (.bool v1)], true)}), (3, gT), (4, gT), (5, gT), (6, bT), (8, gF), (9, gF), (10, gF), (11, gF), (12, gF), (13, bF)] (B6 (wk_impl_isRat hv1) ha0 ha0 ha0 ha0 ha1 (A5 ha1 ha1 ha1 ha1 ha1))) (by simp [ha0, ha1])
  ·exact RegOk.of_eq (l2 := [(2, .p (.bool (v1 && ((decide (a0.1 ≥ 0)) && (decide (a0.1 ≤ a0.2))))))]) (r_gq [(2, .p (.bool false))] [(1, {call := some (none, [.p (.bool v1)], true)}), (3, gF), (4, gF), (5, gF), (6, bF), (8, gF), (9, gF), (10, gF), (11, gF), (12, gF), (13, bF)] (B6 (wk_impl_isRat hv1) ha0 ha0 ha0 ha0 (show false = false from rfl) (A5 (show false = false from rfl) (show false = false from rfl) (show false = false from rfl) (show false = false from rfl) (show false = false from rfl)))) (by simp [ha0])
 ·refine k_ret ?_
  obtain rfl := oi h
  exact er [(.p (.bool (v1 && ((decide (a0.1 ≥ 0)) && (decide (a0.1 ≤ a0.2))))), 2)]
theorem wk_impl_isCoord {a0 : Qr}  {r : Bool} (h : impl_isCoord a0 = some r) : Meets Tryd.prog 27 [.v (vRt a0)] { vals := [.p (.bool r)] } := by
 refine mo Tryd.func27 [(0, .p (vRt a0))] ?_
 unfold impl_isCoord at h
 refine k_sreg (r_gq [(1, .box (eRt a0))] [] trivial) ?_
 replace h := bs h
 obtain ⟨v1, hv1, h⟩ := h
 refine k_sreg (l1 := [(2, .p (.bool (v1 && (decide (a0.2 ≤ 100)))))]) ?_ ?_
 ·rcases ft v1 with ha0 | ha0
  ·exact RegOk.of_eq (l2 := [(2, .p (.bool (v1 && (decide (a0.2 ≤ 100)))))]) (r_gq [(2, .p (.bool (decide (a0.2 ≤ 100))))] [(1, {call := some (none, [.p (.bool v1)], true)}), (3, gT), (4, gT), (5, gT), (6, bT)] (A5 (wk_impl_isUnit hv1) ha0 ha0 ha0 ha0)) (by simp [ha0])
  ·exact RegOk.of_eq (l2 := [(2, .p (.bool (v1 && (decide (a0.2 ≤ 100)))))]) (r_gq [(2, .p (.bool false))] [(1, {call := some (none, [.p (.bool v1)], true)}), (3, gF), (4, gF), (5, gF), (6, bF)] (A5 (wk_impl_isUnit hv1) ha0 ha0 ha0 ha0)) (by simp [ha0])
 ·refine k_ret ?_
  obtain rfl := oi h
  exact er [(.p (.bool (v1 && (decide (a0.2 ≤ 100)))), 2)]
theorem wk_impl_whole {a0 : Int}  {r : Qr} (h : impl_whole a0 = some r) : Meets Tryd.prog 30 [wI a0] { vals := [.p (vRt r)] } := by
 refine mo Tryd.func30 [(0, .p (iV a0))] ?_
 unfold impl_whole at h
 refine k_sreg (r_gq [(0, .p (iV a0)), (2, .box [rI 0, rI 0])] [] trivial) ?_
 refine k_sreg (r_gq [(2, .box [rI a0, rI 1])] [] trivial) ?_
 refine k_ret ?_
 obtain rfl := oi h
 exact er [(.p (.agg #[.int .i64 a0, .int .i64 1]), 2)]
theorem wk_impl_compare {a0 : Qr} {a1 : Qr}  {r : Int} (h : impl_compare a0 a1 = some r) : Meets Tryd.prog 49 [.v (vRt a0), .v (vRt a1)] { vals := [.p (iV r)] } := by
 refine mo Tryd.func49 [(0, .p (vRt a0)), (1, .p (vRt a1))] ?_
 unfold impl_compare at h
 refine k_sreg (r_gq [(2, .box (eRt a0)), (3, .box (eRt a1))] [] trivial) ?_
 refine k_seq ?_
 refine k_sreg (r_dq Tryd_mixed 11 [] [(5, .p (iV (w64 (a0.1 * a1.2)))), (6, .p (iV (w64 (a1.1 * a0.2))))] [] trivial) ?_
 refine k_block ?_
 refine k_sreg (r_gq [(5, .p (iV (w64 (a0.1 * a1.2)))), (6, .p (iV (w64 (a1.1 * a0.2)))), (17, .p (.bool (decide ((w64 (a0.1 * a1.2)) < (w64 (a1.1 * a0.2))))))] [] trivial) ?_
 refine kc (decide ((w64 (a0.1 * a1.2)) < (w64 (a1.1 * a0.2)))) (fun hc3_0 => ?_) (fun hc3_0 => ?_)
 ·replace h := ite_t hc3_0 h
  refine k_sreg (r_gq [(4, .p (iV (-1)))] [] trivial) ?_
  refine k_ret ?_
  refine b_r ?_
  refine q_r ?_
  obtain rfl := oi h
  exact er [(.p (iV (-1)), 4)]
 ·replace h := ite_f hc3_0 h
  refine k_sreg (r_gq [(21, .p (.bool (decide ((w64 (a0.1 * a1.2)) > (w64 (a1.1 * a0.2))))))] [] trivial) ?_
  refine kc (decide ((w64 (a0.1 * a1.2)) > (w64 (a1.1 * a0.2)))) (fun hc3_1 => ?_) (fun hc3_1 => ?_)
  ·replace h := ite_t hc3_1 h
   refine k_sreg (r_gq [(4, .p (iV 1))] [] trivial) ?_
   refine k_ret ?_
   refine b_r ?_
   refine q_r ?_
   obtain rfl := oi h
   exact er [(.p (iV 1), 4)]
  ·replace h := ite_f hc3_1 h
   refine k_skip ?_
   refine b_n ?_
   refine q_n ?_
   refine k_sreg (r_gq [(4, .p (iV 0))] [] trivial) ?_
   refine k_ret ?_
   obtain rfl := oi h
   exact er [(.p (iV 0), 4)]
theorem wk_impl_less {a0 : Qr} {a1 : Qr}  {r : Bool} (h : impl_less a0 a1 = some r) : Meets Tryd.prog 29 [.v (vRt a0), .v (vRt a1)] { vals := [.p (.bool r)] } := by
 refine mo Tryd.func29 [(0, .p (vRt a0)), (1, .p (vRt a1))] ?_
 unfold impl_less at h
 refine k_sreg (r_gq [(2, .box (eRt a0)), (3, .box (eRt a1))] [] trivial) ?_
 replace h := bs h
 obtain ⟨v1, hv1, h⟩ := h
 refine k_sreg (r_gq [(4, .p (.bool (decide (v1 < 0))))] [(2, {call := some (none, [.p (iV v1)], true)})] (A1 (wk_impl_compare hv1))) ?_
 refine k_ret ?_
 obtain rfl := oi h
 exact er [(.p (.bool (decide (v1 < 0))), 4)]
theorem wk_impl_isLift_1 {a0 : Qp}  {r : Bool} (h : impl_isLift_1 a0 = some r) : Meets Tryd.prog 26 [.v (vPt a0)] { vals := [.p (.bool r)] } := by
 refine mo Tryd.func26 [(0, .p (vPt a0))] ?_
 unfold impl_isLift_1 at h
 refine k_sreg (r_gq [(1, .box (ePt a0))] [] trivial) ?_
 replace h := bs h
 obtain ⟨v1, hv1, h⟩ := h
 replace h := bs h
 obtain ⟨w7, hw7, h⟩ := h
 refine k_sreg (l1 := [(2, .p (.bool w7))]) ?_ ?_
 ·clear h
  rcases ft (!v1) with ha0 | ha0
  ·replace hw7 := ite_t ha0 hw7
   have hw7 := oi hw7
   subst hw7
   exact (r_dq Tryd_mixed 26 [] [(2, .p (.bool true))] [(2, {call := some (none, [.p (.bool v1)], true)}), (5, gT), (6, gT), (7, gT), (8, gT), (9, bT), (11, gT), (12, gT), (13, gT), (14, gT), (15, bT), (17, gT), (18, gT), (19, gT), (20, gT), (21, bT), (23, gT), (24, gT), (25, gT), (26, gT), (27, bT)] (B6 (wk_impl_isCoord hv1) ha0 ha0 ha0 ha0 ha0 (B6 (show true = true from rfl) (show true = true from rfl) (show true = true from rfl) (show true = true from rfl) (show true = true from rfl) (show true = true from rfl) (B6 (show true = true from rfl) (show true = true from rfl) (show true = true from rfl) (show true = true from rfl) (show true = true from rfl) (show true = true from rfl) (A3 (show true = true from rfl) (show true = true from rfl) (show true = true from rfl))))))
  ·replace hw7 := ite_f ha0 hw7
   replace hw7 := bs hw7
   obtain ⟨v2, hv2, hw7⟩ := hw7
   rcases ft (!v2) with ha1 | ha1
   ·replace hw7 := ite_t ha1 hw7
    have hw7 := oi hw7
    subst hw7
    exact (r_dq Tryd_mixed 26 [] [(2, .p (.bool true))] [(2, {call := some (none, [.p (.bool v1)], true)}), (5, gF), (6, gF), (7, {g := some false, call := some (none, [.p (.bool v2)], true)}), (8, gF), (9, bF), (11, gT), (12, gT), (13, gT), (14, gT), (15, bT), (17, gT), (18, gT), (19, gT), (20, gT), (21, bT), (23, gT), (24, gT), (25, gT), (26, gT), (27, bT)] (B6 (wk_impl_isCoord hv1) ha0 ha0 ha0 (wk_impl_isRat hv2) ha0 (B6 ha0 ha1 ha1 ha1 ha1 ha1 (B6 (show true = true from rfl) (show true = true from rfl) (show true = true from rfl) (show true = true from rfl) (show true = true from rfl) (show true = true from rfl) (A4 (show true = true from rfl) (show true = true from rfl) (show true = true from rfl) (show true = true from rfl))))))
   ·replace hw7 := ite_f ha1 hw7
    rcases ft (decide (a0.2.2 > 100)) with ha2 | ha2
    ·replace hw7 := ite_t ha2 hw7
     have hw7 := oi hw7
     subst hw7
     exact (r_dq Tryd_mixed 26 [] [(2, .p (.bool true))] [(2, {call := some (none, [.p (.bool v1)], true)}), (5, gF), (6, gF), (7, {g := some false, call := some (none, [.p (.bool v2)], true)}), (8, gF), (9, bF), (11, gF), (12, gF), (13, gF), (14, gF), (15, bF), (17, gT), (18, gT), (19, gT), (20, gT), (21, bT), (23, gT), (24, gT), (25, gT), (26, gT), (27, bT)] (B6 (wk_impl_isCoord hv1) ha0 ha0 ha0 (wk_impl_isRat hv2) ha0 (B6 ha0 ha1 ha1 ha1 ha1 ha1 (B6 ha2 ha2 ha2 ha2 ha2 (show true = true from rfl) (A4 (show true = true from rfl) (show true = true from rfl) (show true = true from rfl) (show true = true from rfl))))))
    ·replace hw7 := ite_f ha2 hw7
     replace hw7 := bs hw7
     obtain ⟨v3, hv3, hw7⟩ := hw7
     replace hw7 := bs hw7
     obtain ⟨v4, hv4, hw7⟩ := hw7
     rcases ft v4 with ha3 | ha3
     ·replace hw7 := ite_t ha3 hw7
      have hw7 := oi hw7
      subst hw7
      exact (r_dq Tryd_mixed 26 [] [(2, .p (.bool true))] [(2, {call := some (none, [.p (.bool v1)], true)}), (5, gF), (6, gF), (7, {g := some false, call := some (none, [.p (.bool v2)], true)}), (8, gF), (9, bF), (11, gF), (12, gF), (13, gF), (14, gF), (15, bF), (17, gF), (18, gF), (19, {g := some false, call := some (none, [.p (vRt v3)], true)}), (20, {g := some false, call := some (none, [.p (.bool v4)], true)}), (21, bF), (23, gT), (24, gT), (25, gT), (26, gT), (27, bT)] (B6 (wk_impl_isCoord hv1) ha0 ha0 ha0 (wk_impl_isRat hv2) ha0 (B6 ha0 ha1 ha1 ha1 ha1 ha1 (B6 ha2 ha2 ha2 (wk_impl_whole hv3) ha2 (wk_impl_less hv4) (A6 ha2 ha3 ha3 ha3 ha3 ha3)))))
     ·replace hw7 := ite_f ha3 hw7
      replace hw7 := bs hw7
      obtain ⟨v5, hv5, hw7⟩ := hw7
      replace hw7 := bs hw7
      obtain ⟨v6, hv6, hw7⟩ := hw7
      have hw7 := oi hw7
      subst hw7
      exact (r_dq Tryd_mixed 26 [] [(2, .p (.bool v6))] [(2, {call := some (none, [.p (.bool v1)], true)}), (5, gF), (6, gF), (7, {g := some false, call := some (none, [.p (.bool v2)], true)}), (8, gF), (9, bF), (11, gF), (12, gF), (13, gF), (14, gF), (15, bF), (17, gF), (18, gF), (19, {g := some false, call := some (none, [.p (vRt v3)], true)}), (20, {g := some false, call := some (none, [.p (.bool v4)], true)}), (21, bF), (23, {g := some false, call := some (none, [.p (vRt v5)], true)}), (24, gF), (25, gF), (26, {g := some false, call := some (none, [.p (.bool v6)], true)}), (27, bF)] (B6 (wk_impl_isCoord hv1) ha0 ha0 ha0 (wk_impl_isRat hv2) ha0 (B6 ha0 ha1 ha1 ha1 ha1 ha1 (B6 ha2 ha2 ha2 (wk_impl_whole hv3) ha2 (wk_impl_less hv4) (B6 ha2 ha3 (wk_impl_whole hv5) ha3 ha3 ha3 (A2 (wk_impl_less hv6) ha3))))))
 ·refine k_ret ?_
  obtain rfl := oi h
  exact er [(.p (.bool w7), 2)]
theorem wk_impl_zero   {r : Qr} (h : impl_zero  = some r) : Meets Tryd.prog 31 [] { vals := [.p (vRt r)] } := by
 refine mo Tryd.func31 [] ?_
 unfold impl_zero at h
 refine k_sreg (r_gq [(0, .box [rI 0, rI 0])] [] trivial) ?_
 refine k_sreg (r_gq [(0, .box [rI 0, rI 1])] [] trivial) ?_
 refine k_ret ?_
 obtain rfl := oi h
 exact er [(.p (.agg #[.int .i64 0, .int .i64 1]), 0)]
theorem wk_impl_oneRat   {r : Qr} (h : impl_oneRat  = some r) : Meets Tryd.prog 32 [] { vals := [.p (vRt r)] } := by
 refine mo Tryd.func32 [] ?_
 unfold impl_oneRat at h
 refine k_sreg (r_gq [(0, .box [rI 0, rI 0])] [] trivial) ?_
 refine k_sreg (r_gq [(0, .box [rI 1, rI 1])] [] trivial) ?_
 refine k_ret ?_
 obtain rfl := oi h
 exact er [(.p (.agg #[.int .i64 1, .int .i64 1]), 0)]
theorem wk_impl_isLift {a0 : (List Qp)}  {r : Bool} (h : impl_isLift a0 = some r) : Meets Tryd.prog 14 [.d true [.sl none (a0.map ePt)]] { vals := [.p (.bool r)] } := by
 refine mo Tryd.func14 [(0, .d true [.sl none (a0.map ePt)])] ?_
 unfold impl_isLift at h
 refine k_sreg (r_gq [(1, .box [.sl none (a0.map ePt)])] [] trivial) ?_
 refine k_sreg (r_gq [(3, .d false [.sl none (a0.map ePt)])] [(1, bT)] (A1 (show frR [.sl none (a0.map ePt)] = true from (frR1 (frL_enc (fr_P (fr_P fr_I fr_I) (fr_P fr_I fr_I))) rfl)))) ?_
 refine k_seq ?_
 replace h := bs h
 obtain ⟨v1, hv1, h⟩ := h
 replace h := bs h
 obtain ⟨w3, hw3, h⟩ := h
 refine k_sreg (l1 := [(3, .d false [.sl none (a0.map ePt)]), (16, .p (.bool w3))]) ?_ ?_
 ·clear h
  rcases ft (!v1) with ha0 | ha0
  ·replace hw3 := ite_t ha0 hw3
   have hw3 := oi hw3
   subst hw3
   exact (r_gq [(3, .d false [.sl none (a0.map ePt)]), (16, .p (.bool true))] [(1, {n := some a0.length}), (2, {call := some (none, [.p (.bool v1)], true)}), (5, gT), (6, gT), (7, bT)] (A5 (show (a0.map ePt).length = a0.length from (List.length_map ..)) (wk_impl_within hv1) ha0 ha0 ha0))
  ·replace hw3 := ite_f ha0 hw3
   replace hw3 := bs hw3
   obtain ⟨v2, hv2, hw3⟩ := hw3
   have hw3 := oi hw3
   subst hw3
   exact (r_gq [(3, .d false [.sl none (a0.map ePt)]), (16, .p (.bool v2))] [(1, {n := some a0.length}), (2, {call := some (none, [.p (.bool v1)], true)}), (5, gF), (6, {g := some false, call := some (none, [.p (.bool v2)], true)}), (7, bF)] (A6 (show (a0.map ePt).length = a0.length from (List.length_map ..)) (wk_impl_within hv1) ha0 ha0 (show Meets Tryd.prog 25 ([.d false [.sl none (a0.map ePt)], .v (.func (.func 26) #[] #[])] ++ []) { vals := [.p (.bool v2)] } from (wk_slices_ContainsFunc_Limpl_Point_impl_Point_v (fun x0 y hy => wk_impl_isLift_1 hy) hv2)) ha0))
 ·refine kc w3 (fun hc2_3 => ?_) (fun hc2_3 => ?_)
  ·replace h := ite_t hc2_3 h
   refine k_sreg (r_gq [(2, .p (.bool false))] [] trivial) ?_
   refine k_ret ?_
   refine q_r ?_
   obtain rfl := oi h
   exact er [(.p (.bool false), 2)]
  ·replace h := ite_f hc2_3 h
   refine k_skip ?_
   refine q_n ?_
   refine k_join (J := fun (x : Unit) => [(3, .d false [.sl none (a0.map ePt)])]) (K := fun x => impl_isLift_k1 a0 x = some r) (fun x5 h => ?_) ?_
   ·unfold impl_isLift_k1 at h
    replace h := bs h
    obtain ⟨v6, hv6, h⟩ := h
    replace h := bs h
    obtain ⟨v7, hv7, h⟩ := h
    refine k_sreg (r_dq Tryd_mixed 12 [(11, 5)] [(5, .box (ePt v6)), (6, .box (ePt v7))] [(1, {row := some (ePt v6)}), (5, {n := some a0.length}), (7, {row := some (ePt v7)})] (A5 (idxO_some hv6).1 (map_get ePt (idxO_some hv6).2) (show (a0.map ePt).length = a0.length from (List.length_map ..)) (idxO_some hv7).1 (map_get ePt (idxO_some hv7).2))) ?_
    replace h := bs h
    obtain ⟨v8, hv8, h⟩ := h
    replace h := bs h
    obtain ⟨w10, hw10, h⟩ := h
    refine k_sreg (l1 := [(2, .p (.bool w10))]) ?_ ?_
    ·clear h
     rcases ft ((v6.1.1 == v8.1) && (v6.1.2 == v8.2)) with ha1 | ha1
     ·replace hw10 := ite_t ha1 hw10
      replace hw10 := bs hw10
      obtain ⟨v9, hv9, hw10⟩ := hw10
      rcases ft ((v7.1.1 == v9.1) && (v7.1.2 == v9.2)) with ha2 | ha2
      ·replace hw10 := ite_t ha2 hw10
       have hw10 := oi hw10
       subst hw10
       exact (r_dq Tryd_mixed 24 [] [(2, .p (.bool ((v7.2.1 == (w64 (v6.2.1 + v6.2.2))) && (v7.2.2 == v6.2.2))))] [(2, {call := some (none, [.p (vRt v8)], true)}), (3, {pv := some (.bool ((v6.1.1 == v8.1) && (v6.1.2 == v8.2)))}), (5, gT), (6, gT), (7, {g := some true, call := some (none, [.p (vRt v9)], true)}), (8, {g := some true, pv := some (.bool ((v7.1.1 == v9.1) && (v7.1.2 == v9.2)))}), (9, bT), (11, gT), (12, gT), (13, gT), (14, gT), (15, gT), (16, gT), (17, gT), (18, gT), (19, gT), (20, gT), (21, gT), (22, gT), (23, gT), (24, {g := some true, pv := some (.bool ((v7.2.1 == (w64 (v6.2.1 + v6.2.2))) && (v7.2.2 == v6.2.2)))}), (25, bT)] (B6 (wk_impl_zero hv8) (show PureAt Tryd.prog (.binOp .eql 33 (.tmp 60) (.tmp 61) 33) [vRt v6.1, vRt v8] (.bool ((v6.1.1 == v8.1) && (v6.1.2 == v8.2))) from (pure_eql2 (by kernel_rfl))) ha1 ha1 ha1 (wk_impl_oneRat hv9) (B6 ha1 (show PureAt Tryd.prog (.binOp .eql 33 (.tmp 65) (.tmp 66) 33) [vRt v7.1, vRt v9] (.bool ((v7.1.1 == v9.1) && (v7.1.2 == v9.2))) from (pure_eql2 (by kernel_rfl))) ha1 ha2 ha2 ha2 (B6 ha2 ha2 ha2 ha2 ha2 ha2 (B6 ha2 ha2 ha2 ha2 ha2 (show PureAt Tryd.prog (.binOp .eql 33 (.tmp 71) (.tmp 82) 33) [vRt v7.2, .agg #[.int .i64 (w64 (v6.2.1 + v6.2.2)), .int .i64 v6.2.2]] (.bool ((v7.2.1 == (w64 (v6.2.1 + v6.2.2))) && (v7.2.2 == v6.2.2))) from (pure_eql2 (by kernel_rfl))) (A1 ha2))))))
      ·replace hw10 := ite_f ha2 hw10
       have hw10 := oi hw10
       subst hw10
       exact (r_dq Tryd_mixed 24 [] [(2, .p (.bool false))] [(2, {call := some (none, [.p (vRt v8)], true)}), (3, {pv := some (.bool ((v6.1.1 == v8.1) && (v6.1.2 == v8.2)))}), (5, gT), (6, gT), (7, {g := some true, call := some (none, [.p (vRt v9)], true)}), (8, {g := some true, pv := some (.bool ((v7.1.1 == v9.1) && (v7.1.2 == v9.2)))}), (9, bT), (11, gF), (12, gF), (13, gF), (14, gF), (15, gF), (16, gF), (17, gF), (18, gF), (19, gF), (20, gF), (21, gF), (22, gF), (23, gF), (24, gF), (25, bF)] (B6 (wk_impl_zero hv8) (show PureAt Tryd.prog (.binOp .eql 33 (.tmp 60) (.tmp 61) 33) [vRt v6.1, vRt v8] (.bool ((v6.1.1 == v8.1) && (v6.1.2 == v8.2))) from (pure_eql2 (by kernel_rfl))) ha1 ha1 ha1 (wk_impl_oneRat hv9) (B6 ha1 (show PureAt Tryd.prog (.binOp .eql 33 (.tmp 65) (.tmp 66) 33) [vRt v7.1, vRt v9] (.bool ((v7.1.1 == v9.1) && (v7.1.2 == v9.2))) from (pure_eql2 (by kernel_rfl))) ha1 ha2 ha2 ha2 (B6 ha2 ha2 ha2 ha2 ha2 ha2 (A6 ha2 ha2 ha2 ha2 ha2 ha2)))))
     ·replace hw10 := ite_f ha1 hw10
      have hw10 := oi hw10
      subst hw10
      exact (r_dq Tryd_mixed 24 [] [(2, .p (.bool false))] [(2, {call := some (none, [.p (vRt v8)], true)}), (3, {pv := some (.bool ((v6.1.1 == v8.1) && (v6.1.2 == v8.2)))}), (5, gF), (6, gF), (7, gF), (8, gF), (9, bF), (11, gF), (12, gF), (13, gF), (14, gF), (15, gF), (16, gF), (17, gF), (18, gF), (19, gF), (20, gF), (21, gF), (22, gF), (23, gF), (24, gF), (25, bF)] (B6 (wk_impl_zero hv8) (show PureAt Tryd.prog (.binOp .eql 33 (.tmp 60) (.tmp 61) 33) [vRt v6.1, vRt v8] (.bool ((v6.1.1 == v8.1) && (v6.1.2 == v8.2))) from (pure_eql2 (by kernel_rfl))) ha1 ha1 ha1 ha1 (B6 ha1 (show false = false from rfl) (show false = false from rfl) (show false = false from rfl) (show false = false from rfl) (show false = false from rfl) (B6 (show false = false from rfl) (show false = false from rfl) (show false = false from rfl) (show false = false from rfl) (show false = false from rfl) (show false = false from rfl) (A4 (show false = false from rfl) (show false = false from rfl) (show false = false from rfl) (show false = false from rfl))))))
    ·refine k_ret ?_
     obtain rfl := oi h
     exact er [(.p (.bool w10), 2)]
   ·refine k_sreg (r_gq [(3, .d false [.sl none (a0.map ePt)]), (4, .p (iV 1))] [] trivial) ?_
    refine k_block ?_
    obtain ⟨y12, hl_x11, hk_x11⟩ := bs h
    clear h
    refine k_loop (J := fun (x : Int) => [(3, .d false [.sl none (a0.map ePt)]), (4, .p (iV x))]) hl_x11 (wk_of (by kernel_rfl) (by kernel_rfl)) (fun x11 o_x11 h hy_x11 => ?_)
    unfold impl_isLift_b1 at h
    refine k_seq ?_
    refine k_sreg (r_gq [(3, .d false [.sl none (a0.map ePt)]), (4, .p (iV x11)), (20, .p (.bool (decide (x11 < (a0.length : Int)))))] [(2, {n := some a0.length})] (A1 (show (a0.map ePt).length = a0.length from (List.length_map ..)))) ?_
    refine kc (decide (x11 < (a0.length : Int))) (fun hc5_12 => ?_) (fun hc5_12 => ?_)
    ·replace h := ite_t hc5_12 h
     refine k_skip ?_
     refine q_n ?_
     refine k_seq ?_
     refine k_block ?_
     replace h := bs h
     obtain ⟨v14, hv14, h⟩ := h
     replace h := bs h
     obtain ⟨v15, hv15, h⟩ := h
     replace h := bs h
     obtain ⟨v16, hv16, h⟩ := h
     replace h := bs h
     obtain ⟨w18, hw18, h⟩ := h
     refine k_sreg (l1 := [(3, .d false [.sl none (a0.map ePt)]), (4, .p (iV x11)), (49, .p (.bool w18))]) ?_ ?_
     ·clear h
      rcases ft (!v16) with ha2 | ha2
      ·replace hw18 := ite_t ha2 hw18
       have hw18 := oi hw18
       subst hw18
       exact (r_dq Tryd_mixed 25 [] [(3, .d false [.sl none (a0.map ePt)]), (4, .p (iV x11)), (49, .p (.bool true))] [(3, {row := some (ePt v14)}), (8, {row := some (ePt v15)}), (11, {call := some (none, [.p (.bool v16)], true)}), (14, gT), (15, gT), (16, gT), (17, gT), (18, gT), (19, gT), (20, gT), (21, gT), (22, gT), (23, gT), (24, gT), (25, gT), (26, bT)] (B6 (idxO_some hv14).1 (map_get ePt (idxO_some hv14).2) (idxO_some hv15).1 (map_get ePt (idxO_some hv15).2) (wk_impl_less hv16) ha2 (B6 ha2 ha2 ha2 ha2 ha2 ha2 (A6 ha2 ha2 ha2 ha2 ha2 ha2))))
      ·replace hw18 := ite_f ha2 hw18
       replace hw18 := bs hw18
       obtain ⟨v17, hv17, hw18⟩ := hw18
       have hw18 := oi hw18
       subst hw18
       exact (r_dq Tryd_mixed 25 [] [(3, .d false [.sl none (a0.map ePt)]), (4, .p (iV x11)), (49, .p (.bool v17))] [(3, {row := some (ePt v14)}), (8, {row := some (ePt v15)}), (11, {call := some (none, [.p (.bool v16)], true)}), (14, gF), (15, gF), (16, {g := some false, row := some (ePt v15)}), (17, gF), (18, gF), (19, gF), (20, gF), (21, gF), (22, {g := some false, row := some (ePt v14)}), (23, gF), (24, gF), (25, {g := some false, call := some (none, [.p (.bool v17)], true)}), (26, bF)] (B6 (idxO_some hv14).1 (map_get ePt (idxO_some hv14).2) (idxO_some hv15).1 (map_get ePt (idxO_some hv15).2) (wk_impl_less hv16) ha2 (B6 ha2 ha2 (idxO_some hv15).1 (map_get ePt (idxO_some hv15).2) ha2 ha2 (B6 ha2 ha2 ha2 ha2 (idxO_some hv14).1 (map_get ePt (idxO_some hv14).2) (A5 ha2 ha2 ha2 (wk_impl_less hv17) ha2)))))
     ·refine kc w18 (fun hc6_18 => ?_) (fun hc6_18 => ?_)
      ·replace h := ite_t hc6_18 h
       refine k_sreg (r_gq [(2, .p (.bool false))] [] trivial) ?_
       refine k_ret ?_
       refine b_r ?_
       refine q_r ?_
       refine lq_r ?_
       refine b_r ?_
       refine q_r ?_
       have hyy := hy_x11 _ (oi h).symm
       subst hyy
       have h := hk_x11
       dsimp only [Sum.elim] at h
       obtain rfl := oi h
       exact er [(.p (.bool false), 2)]
      ·replace h := ite_f hc6_18 h
       refine k_skip ?_
       refine b_n ?_
       refine q_n ?_
       refine k_reg (r_gq [(3, .d false [.sl none (a0.map ePt)]), (4, .p (iV (w64 (x11 + 1))))] [] trivial) ?_
       exact lqn (w64 (x11 + 1)) h
    ·replace h := ite_f hc5_12 h
     refine k_exit ?_
     refine q_x ?_
     refine lq_x ?_
     refine b_x ?_
     have hyy := hy_x11 _ (oi h).symm
     subst hyy
     have h := hk_x11
     dsimp only [Sum.elim] at h
     refine q_n ?_
     exact jx () h
theorem wk_impl_ParseLift {a0 : ByteArray}  {r : ((List Qp) × Bool)} (h : impl_ParseLift a0 = some r) : Meets Tryd.prog 5 [.v (.string a0)] { vals := [.ov true [.sl (some 37) (r.1.map ePt)], .p (.bool r.2)] } := by
 refine mo Tryd.func5 [(0, .p (.string a0))] ?_
 unfold impl_ParseLift at h
 refine k_sreg (r_gq [(0, .p (.string a0)), (2, .box [.sl (some 37) []])] [] trivial) ?_
 replace h := bs h
 obtain ⟨v1, hv1, h⟩ := h
 refine k_sreg (r_gq [(2, .box [.sl (some 37) []]), (4, .ov false [.sl (some 37) (v1.1.map ePt)]), (5, .p (.bool v1.2))] [(1, {call := some (none, [.ov false [.sl (some 37) (v1.1.map ePt)], .p (.bool v1.2)], true)})] (A2 (wk_impl_readPoints hv1) (show List.all [.ov false [.sl (some 37) (v1.1.map ePt)], .p (.bool v1.2)] simpleR = true from (sa_o (wnR1 (wnL_enc (wn_P (wn_P wn_I wn_I) (wn_P wn_I wn_I))) rfl) (sa_p rfl))))) ?_
 refine k_sreg (r_gq [(2, .box [.sl (some 37) []]), (5, .p (.bool v1.2)), (6, .box [.sl (some 37) (v1.1.map ePt)])] [] trivial) ?_
 refine k_seq ?_
 replace h := bs h
 obtain ⟨w3, hw3, h⟩ := h
 refine k_sreg (l1 := [(2, .box [.sl (some 37) []]), (6, .box [.sl (some 37) (v1.1.map ePt)]), (20, .p (.bool w3))]) ?_ ?_
 ·clear h
  rcases ft (!v1.2) with ha0 | ha0
  ·replace hw3 := ite_t ha0 hw3
   have hw3 := oi hw3
   subst hw3
   exact (r_gq [(2, .box [.sl (some 37) []]), (6, .box [.sl (some 37) (v1.1.map ePt)]), (20, .p (.bool true))] [(3, gT), (4, gT), (5, gT), (6, bT)] (A4 ha0 ha0 ha0 ha0))
  ·replace hw3 := ite_f ha0 hw3
   replace hw3 := bs hw3
   obtain ⟨v2, hv2, hw3⟩ := hw3
   have hw3 := oi hw3
   subst hw3
   exact (r_gq [(2, .box [.sl (some 37) []]), (6, .box [.sl (some 37) (v1.1.map ePt)]), (20, .p (.bool (!v2)))] [(3, gF), (4, {g := some false, call := some (some [.d true [.sl none (v1.1.map ePt)]], [.p (.bool v2)], true)}), (5, gF), (6, bF)] (B6 ha0 (show frR [.sl (some 37) (v1.1.map ePt)] = false from rfl) ha0 (show ([.d true [.sl none (eraL (v1.1.map ePt))]] : List Arg) = [.d true [.sl none (v1.1.map ePt)]] from (by simp only [eraL_enc (h := ePt) (era_P (era_P er_I er_I) (era_P er_I er_I))])) (wk_impl_isLift hv2) ha0 (A1 ha0)))
 ·refine kc w3 (fun hc2_3 => ?_) (fun hc2_3 => ?_)
  ·replace h := ite_t hc2_3 h
   refine k_sreg (r_gq [(2, .box [.sl (some 37) []]), (3, .p (.bool false))] [(0, bT)] trivial) ?_
   refine k_ret ?_
   refine q_r ?_
   obtain rfl := oi h
   exact er [(.ov true [.sl (some 37) []], 2), (.p (.bool false), 3)]
  ·replace h := ite_f hc2_3 h
   refine k_skip ?_
   refine q_n ?_
   refine k_sreg (r_gq [(2, .box [.sl (some 37) (v1.1.map ePt)]), (3, .p (.bool true))] [] (A1 (show frR [.sl (some 37) (v1.1.map ePt)] = false from rfl))) ?_
   refine k_ret ?_
   obtain rfl := oi h
   exact er [(.ov true [.sl (some 37) (v1.1.map ePt)], 2), (.p (.bool true), 3)]
theorem wk_laws_eqRat {a0 : Qr} {a1 : Qr}  {r : Bool} (h : laws_eqRat a0 a1 = some r) : Meets Tryd.prog 50 [.v (vRt a0), .v (vRt a1)] { vals := [.p (.bool r)] } := by
 refine mo Tryd.func50 [(0, .p (vRt a0)), (1, .p (vRt a1))] ?_
 unfold laws_eqRat at h
 refine k_sreg (r_gq [(2, .box (eRt a0)), (3, .box (eRt a1))] [] trivial) ?_
 refine k_seq ?_
 refine k_sreg (r_gq [(2, .box (eRt a0)), (3, .box (eRt a1)), (9, .p (.bool (a0.1 != a1.1)))] [] trivial) ?_
 refine kc (a0.1 != a1.1) (fun hc2_0 => ?_) (fun hc2_0 => ?_)
 ·replace h := ite_t hc2_0 h
  refine k_sreg (r_gq [(4, .p (.bool false))] [] trivial) ?_
  refine k_ret ?_
  refine q_r ?_
  obtain rfl := oi h
  exact er [(.p (.bool false), 4)]
 ·replace h := ite_f hc2_0 h
  refine k_skip ?_
  refine q_n ?_
  refine k_seq ?_
  refine k_sreg (r_gq [(14, .p (.bool (a0.2 != a1.2)))] [] trivial) ?_
  refine kc (a0.2 != a1.2) (fun hc2_1 => ?_) (fun hc2_1 => ?_)
  ·replace h := ite_t hc2_1 h
   refine k_sreg (r_gq [(4, .p (.bool false))] [] trivial) ?_
   refine k_ret ?_
   refine q_r ?_
   obtain rfl := oi h
   exact er [(.p (.bool false), 4)]
  ·replace h := ite_f hc2_1 h
   refine k_skip ?_
   refine q_n ?_
   refine k_sreg (r_gq [(4, .p (.bool true))] [] trivial) ?_
   refine k_ret ?_
   obtain rfl := oi h
   exact er [(.p (.bool true), 4)]
theorem wk_laws_eqPoint {a0 : Qp} {a1 : Qp}  {r : Bool} (h : laws_eqPoint a0 a1 = some r) : Meets Tryd.prog 33 [.v (vPt a0), .v (vPt a1)] { vals := [.p (.bool r)] } := by
 refine mo Tryd.func33 [(0, .p (vPt a0)), (1, .p (vPt a1))] ?_
 unfold laws_eqPoint at h
 refine k_sreg (r_gq [(2, .box (ePt a0)), (3, .box (ePt a1))] [] trivial) ?_
 refine k_seq ?_
 replace h := bs h
 obtain ⟨v1, hv1, h⟩ := h
 refine k_sreg (r_gq [(2, .box (ePt a0)), (3, .box (ePt a1)), (10, .p (.bool (!v1)))] [(4, {call := some (none, [.p (.bool v1)], true)})] (A1 (wk_laws_eqRat hv1))) ?_
 refine kc (!v1) (fun hc2_1 => ?_) (fun hc2_1 => ?_)
 ·replace h := ite_t hc2_1 h
  refine k_sreg (r_gq [(4, .p (.bool false))] [] trivial) ?_
  refine k_ret ?_
  refine q_r ?_
  obtain rfl := oi h
  exact er [(.p (.bool false), 4)]
 ·replace h := ite_f hc2_1 h
  refine k_skip ?_
  refine q_n ?_
  refine k_seq ?_
  replace h := bs h
  obtain ⟨v3, hv3, h⟩ := h
  refine k_sreg (r_gq [(16, .p (.bool (!v3)))] [(4, {call := some (none, [.p (.bool v3)], true)})] (A1 (wk_laws_eqRat hv3))) ?_
  refine kc (!v3) (fun hc2_3 => ?_) (fun hc2_3 => ?_)
  ·replace h := ite_t hc2_3 h
   refine k_sreg (r_gq [(4, .p (.bool false))] [] trivial) ?_
   refine k_ret ?_
   refine q_r ?_
   obtain rfl := oi h
   exact er [(.p (.bool false), 4)]
  ·replace h := ite_f hc2_3 h
   refine k_skip ?_
   refine q_n ?_
   refine k_sreg (r_gq [(4, .p (.bool true))] [] trivial) ?_
   refine k_ret ?_
   obtain rfl := oi h
   exact er [(.p (.bool true), 4)]
theorem wk_laws_eqPointS {a0 : (List Qp)} {a1 : (List Qp)}  {r : Bool} (h : laws_eqPointS a0 a1 = some r) : Meets Tryd.prog 15 [.d false [.sl none (a0.map ePt)], .d false [.sl none (a1.map ePt)]] { vals := [.p (.bool r)] } := by
 refine mo Tryd.func15 [(0, .d false [.sl none (a0.map ePt)]), (1, .d false [.sl none (a1.map ePt)])] ?_
 unfold laws_eqPointS at h
 refine k_sreg (r_gq [(0, .d false [.sl none (a0.map ePt)]), (1, .d false [.sl none (a1.map ePt)])] [] trivial) ?_
 refine k_seq ?_
 refine k_sreg (r_gq [(0, .d false [.sl none (a0.map ePt)]), (1, .d false [.sl none (a1.map ePt)]), (10, .p (.bool ((a0.length : Int) != (a1.length : Int))))] [(1, {n := some a0.length}), (3, {n := some a1.length})] (A2 (show (a0.map ePt).length = a0.length from (List.length_map ..)) (show (a1.map ePt).length = a1.length from (List.length_map ..)))) ?_
 refine kc ((a0.length : Int) != (a1.length : Int)) (fun hc2_0 => ?_) (fun hc2_0 => ?_)
 ·replace h := ite_t hc2_0 h
  refine k_sreg (r_gq [(4, .p (.bool false))] [] trivial) ?_
  refine k_ret ?_
  refine q_r ?_
  obtain rfl := oi h
  exact er [(.p (.bool false), 4)]
 ·replace h := ite_f hc2_0 h
  refine k_skip ?_
  refine q_n ?_
  refine k_join (J := fun (x : Unit) => []) (K := fun x => laws_eqPointS_k1 x = some r) (fun x2 h => ?_) ?_
  ·unfold laws_eqPointS_k1 at h
   refine k_sreg (r_gq [(4, .p (.bool true))] [] trivial) ?_
   refine k_ret ?_
   obtain rfl := oi h
   exact er [(.p (.bool true), 4)]
  ·refine k_sreg (r_gq [(0, .d false [.sl none (a0.map ePt)]), (1, .d false [.sl none (a1.map ePt)]), (5, .p (iV 0))] [] trivial) ?_
   refine k_block ?_
   obtain ⟨y4, hl_x3, hk_x3⟩ := bs h
   clear h
   refine k_loop (J := fun (x : Int) => [(0, .d false [.sl none (a0.map ePt)]), (1, .d false [.sl none (a1.map ePt)]), (5, .p (iV x))]) hl_x3 (wk_of (by kernel_rfl) (by kernel_rfl)) (fun x3 o_x3 h hy_x3 => ?_)
   unfold laws_eqPointS_b1 at h
   refine k_seq ?_
   refine k_sreg (r_gq [(0, .d false [.sl none (a0.map ePt)]), (1, .d false [.sl none (a1.map ePt)]), (5, .p (iV x3)), (14, .p (.bool (decide (x3 < (a0.length : Int)))))] [(2, {n := some a0.length})] (A1 (show (a0.map ePt).length = a0.length from (List.length_map ..)))) ?_
   refine kc (decide (x3 < (a0.length : Int))) (fun hc5_4 => ?_) (fun hc5_4 => ?_)
   ·replace h := ite_t hc5_4 h
    refine k_skip ?_
    refine q_n ?_
    refine k_seq ?_
    refine k_block ?_
    replace h := bs h
    obtain ⟨v6, hv6, h⟩ := h
    replace h := bs h
    obtain ⟨v7, hv7, h⟩ := h
    replace h := bs h
    obtain ⟨v8, hv8, h⟩ := h
    refine k_sreg (r_dq Tryd_mixed 8 [] [(0, .d false [.sl none (a0.map ePt)]), (1, .d false [.sl none (a1.map ePt)]), (5, .p (iV x3)), (26, .p (.bool (!v8)))] [(2, {row := some (ePt v6)}), (6, {row := some (ePt v7)}), (8, {call := some (none, [.p (.bool v8)], true)})] (A5 (idxO_some hv6).1 (map_get ePt (idxO_some hv6).2) (idxO_some hv7).1 (map_get ePt (idxO_some hv7).2) (wk_laws_eqPoint hv8))) ?_
    refine kc (!v8) (fun hc6_8 => ?_) (fun hc6_8 => ?_)
    ·replace h := ite_t hc6_8 h
     refine k_sreg (r_gq [(4, .p (.bool false))] [] trivial) ?_
     refine k_ret ?_
     refine b_r ?_
     refine q_r ?_
     refine lq_r ?_
     refine b_r ?_
     refine q_r ?_
     have hyy := hy_x3 _ (oi h).symm
     subst hyy
     have h := hk_x3
     dsimp only [Sum.elim] at h
     obtain rfl := oi h
     exact er [(.p (.bool false), 4)]
    ·replace h := ite_f hc6_8 h
     refine k_skip ?_
     refine b_n ?_
     refine q_n ?_
     refine k_reg (r_gq [(0, .d false [.sl none (a0.map ePt)]), (1, .d false [.sl none (a1.map ePt)]), (5, .p (iV (w64 (x3 + 1))))] [] trivial) ?_
     exact lqn (w64 (x3 + 1)) h
   ·replace h := ite_f hc5_4 h
    refine k_exit ?_
    refine q_x ?_
    refine lq_x ?_
    refine b_x ?_
    have hyy := hy_x3 _ (oi h).symm
    subst hyy
    have h := hk_x3
    dsimp only [Sum.elim] at h
    refine q_n ?_
    exact jx () h
theorem wk_laws_eqLift {a0 : (List Qp)} {a1 : (List Qp)}  {r : Bool} (h : laws_eqLift a0 a1 = some r) : Meets Tryd.prog 6 [.d true [.sl none (a0.map ePt)], .d true [.sl none (a1.map ePt)]] { vals := [.p (.bool r)] } := by
 refine mo Tryd.func6 [(0, .d true [.sl none (a0.map ePt)]), (1, .d true [.sl none (a1.map ePt)])] ?_
 unfold laws_eqLift at h
 refine k_sreg (r_gq [(2, .box [.sl none (a0.map ePt)]), (3, .box [.sl none (a1.map ePt)])] [] trivial) ?_
 refine k_seq ?_
 replace h := bs h
 obtain ⟨v1, hv1, h⟩ := h
 refine k_sreg (r_gq [(10, .p (.bool (!v1)))] [(1, bT), (3, bT), (4, {call := some (none, [.p (.bool v1)], true)})] (A3 (show frR [.sl none (a0.map ePt)] = true from (frR1 (frL_enc (fr_P (fr_P fr_I fr_I) (fr_P fr_I fr_I))) rfl)) (show frR [.sl none (a1.map ePt)] = true from (frR1 (frL_enc (fr_P (fr_P fr_I fr_I) (fr_P fr_I fr_I))) rfl)) (wk_laws_eqPointS hv1))) ?_
 refine kc (!v1) (fun hc2_1 => ?_) (fun hc2_1 => ?_)
 ·replace h := ite_t hc2_1 h
  refine k_sreg (r_gq [(4, .p (.bool false))] [] trivial) ?_
  refine k_ret ?_
  refine q_r ?_
  obtain rfl := oi h
  exact er [(.p (.bool false), 4)]
 ·replace h := ite_f hc2_1 h
  refine k_skip ?_
  refine q_n ?_
  refine k_sreg (r_gq [(4, .p (.bool true))] [] trivial) ?_
  refine k_ret ?_
  obtain rfl := oi h
  exact er [(.p (.bool true), 4)]
theorem wk_laws_markPointS {a0 : (List Qp)} {a1 : Int}  {r : (Int × (List Qp))} (h : laws_markPointS a0 a1 = some r) : MeetsB Tryd.prog 16 (.ov false [.sl (some 37) (a0.map ePt)]) [wI a1] [.p (iV r.1)] (.ov false [.sl (some 37) (r.2.map ePt)]) := by
 refine mob Tryd.func16 [(0, .ov false [.sl (some 37) (a0.map ePt)]), (1, .p (iV a1))] ?_
 unfold laws_markPointS at h
 refine k_sreg (r_gq [(0, .ov false [.sl (some 37) (a0.map ePt)]), (1, .p (iV a1))] [] trivial) ?_
 refine k_join (J := fun (x : ((List Qp) × Int)) => [(0, .ov false [.sl (some 37) (x.1.map ePt)]), (1, .p (iV x.2))]) (K := fun x => laws_markPointS_k1 x = some r) (fun x1 h => ?_) ?_
 ·unfold laws_markPointS_k1 at h
  refine k_sreg (r_gq [(0, .ov false [.sl (some 37) (x1.1.map ePt)]), (4, .p (iV x1.2))] [] trivial) ?_
  refine k_ret ?_
  obtain rfl := oi h
  exact ebr [(.p (iV x1.2), 4)]
 ·refine k_sreg (r_gq [(0, .ov false [.sl (some 37) (a0.map ePt)]), (1, .p (iV a1)), (5, .p (iV 0))] [] trivial) ?_
  refine k_block ?_
  obtain ⟨y3, hl_x2, hk_x2⟩ := bs h
  clear h
  refine k_loop (J := fun (x : ((List Qp) × Int × Int)) => [(0, .ov false [.sl (some 37) (x.1.map ePt)]), (1, .p (iV x.2.1)), (5, .p (iV x.2.2))]) hl_x2 (wk_of (by kernel_rfl) (by kernel_rfl)) (fun x2 o_x2 h hy_x2 => ?_)
  unfold laws_markPointS_b1 at h
  refine k_seq ?_
  refine k_sreg (r_gq [(0, .ov false [.sl (some 37) (x2.1.map ePt)]), (1, .p (iV x2.2.1)), (5, .p (iV x2.2.2)), (9, .p (.bool (decide (x2.2.2 < (x2.1.length : Int)))))] [(2, {n := some x2.1.length})] (A1 (show (x2.1.map ePt).length = x2.1.length from (List.length_map ..)))) ?_
  refine kc (decide (x2.2.2 < (x2.1.length : Int))) (fun hc5_3 => ?_) (fun hc5_3 => ?_)
  ·replace h := ite_t hc5_3 h
   refine k_skip ?_
   refine q_n ?_
   refine k_seq ?_
   refine k_block ?_
   replace h := bs h
   obtain ⟨v5, hv5, h⟩ := h
   refine k_sreg (r_gq [(0, .ov false [.sl (some 37) ((x2.1.set (Int.toNat x2.2.2) ((x2.2.1, v5.1.2), v5.2)).map ePt)]), (1, .p (iV x2.2.1)), (5, .p (iV x2.2.2))] [(3, {row := some (ePt v5)}), (6, {row := some (ePt v5), fix := some (0, .ov false [.sl (some 37) ((x2.1.set (Int.toNat x2.2.2) ((x2.2.1, v5.1.2), v5.2)).map ePt)])})] (A4 (idxO_some hv5).1 (map_get ePt (idxO_some hv5).2) (show getRow [[.sl (some 37) (x2.1.map ePt)]] [(0, 0), ((Int.toNat x2.2.2), 0)] = some (ePt v5) from ((gr0 rfl).trans (gre (map_get ePt (idxO_some hv5).2)))) (show (SV.ov false [.sl (some 37) (setL (x2.1.map ePt) [((Int.toNat x2.2.2), 0)] (eI x2.2.1))] : SV) = .ov false [.sl (some 37) ((x2.1.set (Int.toNat x2.2.2) ((x2.2.1, v5.1.2), v5.2)).map ePt)] from (congrArg (fun z => SV.ov false [.sl (some 37) z]) (set1 (f := ePt) (y := ((x2.2.1, v5.1.2), v5.2)) (idxO_some hv5).2 rfl))))) ?_
   refine k_sreg (r_gq [(0, .ov false [.sl (some 37) ((x2.1.set (Int.toNat x2.2.2) ((x2.2.1, v5.1.2), v5.2)).map ePt)]), (1, .p (iV (w64 (x2.2.1 + 1)))), (5, .p (iV x2.2.2))] [] trivial) ?_
   replace h := bs h
   obtain ⟨v6, hv6, h⟩ := h
   refine k_sreg (r_gq [(0, .ov false [.sl (some 37) (((x2.1.set (Int.toNat x2.2.2) ((x2.2.1, v5.1.2), v5.2)).set (Int.toNat x2.2.2) ((v6.1.1, (w64 (x2.2.1 + 1))), v6.2)).map ePt)]), (1, .p (iV (w64 (x2.2.1 + 1)))), (5, .p (iV x2.2.2))] [(3, {row := some (ePt v6)}), (6, {row := some [rI v6.1.2, rI v6.2.1, rI v6.2.2], fix := some (0, .ov false [.sl (some 37) (((x2.1.set (Int.toNat x2.2.2) ((x2.2.1, v5.1.2), v5.2)).set (Int.toNat x2.2.2) ((v6.1.1, (w64 (x2.2.1 + 1))), v6.2)).map ePt)])})] (A4 (idxO_some hv6).1 (map_get ePt (idxO_some hv6).2) (show getRow [[.sl (some 37) ((x2.1.set (Int.toNat x2.2.2) ((x2.2.1, v5.1.2), v5.2)).map ePt)]] [(0, 0), ((Int.toNat x2.2.2), 1)] = some [rI v6.1.2, rI v6.2.1, rI v6.2.2] from ((gr0 rfl).trans (gre (map_get ePt (idxO_some hv6).2)))) (show (SV.ov false [.sl (some 37) (setL ((x2.1.set (Int.toNat x2.2.2) ((x2.2.1, v5.1.2), v5.2)).map ePt) [((Int.toNat x2.2.2), 1)] [rI (w64 (x2.2.1 + 1))])] : SV) = .ov false [.sl (some 37) (((x2.1.set (Int.toNat x2.2.2) ((x2.2.1, v5.1.2), v5.2)).set (Int.toNat x2.2.2) ((v6.1.1, (w64 (x2.2.1 + 1))), v6.2)).map ePt)] from (congrArg (fun z => SV.ov false [.sl (some 37) z]) (set1 (f := ePt) (y := ((v6.1.1, (w64 (x2.2.1 + 1))), v6.2)) (idxO_some hv6).2 rfl))))) ?_
   refine k_sreg (r_gq [(0, .ov false [.sl (some 37) (((x2.1.set (Int.toNat x2.2.2) ((x2.2.1, v5.1.2), v5.2)).set (Int.toNat x2.2.2) ((v6.1.1, (w64 (x2.2.1 + 1))), v6.2)).map ePt)]), (1, .p (iV (w64 ((w64 (x2.2.1 + 1)) + 1)))), (5, .p (iV x2.2.2))] [] trivial) ?_
   replace h := bs h
   obtain ⟨v7, hv7, h⟩ := h
   refine k_sreg (r_gq [(0, .ov false [.sl (some 37) ((((x2.1.set (Int.toNat x2.2.2) ((x2.2.1, v5.1.2), v5.2)).set (Int.toNat x2.2.2) ((v6.1.1, (w64 (x2.2.1 + 1))), v6.2)).set (Int.toNat x2.2.2) (v7.1, ((w64 ((w64 (x2.2.1 + 1)) + 1)), v7.2.2))).map ePt)]), (1, .p (iV (w64 ((w64 (x2.2.1 + 1)) + 1)))), (5, .p (iV x2.2.2))] [(3, {row := some (ePt v7)}), (6, {row := some (eRt v7.2), fix := some (0, .ov false [.sl (some 37) ((((x2.1.set (Int.toNat x2.2.2) ((x2.2.1, v5.1.2), v5.2)).set (Int.toNat x2.2.2) ((v6.1.1, (w64 (x2.2.1 + 1))), v6.2)).set (Int.toNat x2.2.2) (v7.1, ((w64 ((w64 (x2.2.1 + 1)) + 1)), v7.2.2))).map ePt)])})] (A4 (idxO_some hv7).1 (map_get ePt (idxO_some hv7).2) (show getRow [[.sl (some 37) (((x2.1.set (Int.toNat x2.2.2) ((x2.2.1, v5.1.2), v5.2)).set (Int.toNat x2.2.2) ((v6.1.1, (w64 (x2.2.1 + 1))), v6.2)).map ePt)]] [(0, 0), ((Int.toNat x2.2.2), 2)] = some (eRt v7.2) from ((gr0 rfl).trans (gre (map_get ePt (idxO_some hv7).2)))) (show (SV.ov false [.sl (some 37) (setL (((x2.1.set (Int.toNat x2.2.2) ((x2.2.1, v5.1.2), v5.2)).set (Int.toNat x2.2.2) ((v6.1.1, (w64 (x2.2.1 + 1))), v6.2)).map ePt) [((Int.toNat x2.2.2), 2)] [rI (w64 ((w64 (x2.2.1 + 1)) + 1))])] : SV) = .ov false [.sl (some 37) ((((x2.1.set (Int.toNat x2.2.2) ((x2.2.1, v5.1.2), v5.2)).set (Int.toNat x2.2.2) ((v6.1.1, (w64 (x2.2.1 + 1))), v6.2)).set (Int.toNat x2.2.2) (v7.1, ((w64 ((w64 (x2.2.1 + 1)) + 1)), v7.2.2))).map ePt)] from (congrArg (fun z => SV.ov false [.sl (some 37) z]) (set1 (f := ePt) (y := (v7.1, ((w64 ((w64 (x2.2.1 + 1)) + 1)), v7.2.2))) (idxO_some hv7).2 rfl))))) ?_
   refine k_sreg (r_gq [(0, .ov false [.sl (some 37) ((((x2.1.set (Int.toNat x2.2.2) ((x2.2.1, v5.1.2), v5.2)).set (Int.toNat x2.2.2) ((v6.1.1, (w64 (x2.2.1 + 1))), v6.2)).set (Int.toNat x2.2.2) (v7.1, ((w64 ((w64 (x2.2.1 + 1)) + 1)), v7.2.2))).map ePt)]), (1, .p (iV (w64 ((w64 ((w64 (x2.2.1 + 1)) + 1)) + 1)))), (5, .p (iV x2.2.2))] [] trivial) ?_
   replace h := bs h
   obtain ⟨v8, hv8, h⟩ := h
   refine k_sreg (r_gq [(0, .ov false [.sl (some 37) (((((x2.1.set (Int.toNat x2.2.2) ((x2.2.1, v5.1.2), v5.2)).set (Int.toNat x2.2.2) ((v6.1.1, (w64 (x2.2.1 + 1))), v6.2)).set (Int.toNat x2.2.2) (v7.1, ((w64 ((w64 (x2.2.1 + 1)) + 1)), v7.2.2))).set (Int.toNat x2.2.2) (v8.1, (v8.2.1, (w64 ((w64 ((w64 (x2.2.1 + 1)) + 1)) + 1))))).map ePt)]), (1, .p (iV (w64 ((w64 ((w64 (x2.2.1 + 1)) + 1)) + 1)))), (5, .p (iV x2.2.2))] [(3, {row := some (ePt v8)}), (6, {row := some (eI v8.2.2), fix := some (0, .ov false [.sl (some 37) (((((x2.1.set (Int.toNat x2.2.2) ((x2.2.1, v5.1.2), v5.2)).set (Int.toNat x2.2.2) ((v6.1.1, (w64 (x2.2.1 + 1))), v6.2)).set (Int.toNat x2.2.2) (v7.1, ((w64 ((w64 (x2.2.1 + 1)) + 1)), v7.2.2))).set (Int.toNat x2.2.2) (v8.1, (v8.2.1, (w64 ((w64 ((w64 (x2.2.1 + 1)) + 1)) + 1))))).map ePt)])})] (A4 (idxO_some hv8).1 (map_get ePt (idxO_some hv8).2) (show getRow [[.sl (some 37) ((((x2.1.set (Int.toNat x2.2.2) ((x2.2.1, v5.1.2), v5.2)).set (Int.toNat x2.2.2) ((v6.1.1, (w64 (x2.2.1 + 1))), v6.2)).set (Int.toNat x2.2.2) (v7.1, ((w64 ((w64 (x2.2.1 + 1)) + 1)), v7.2.2))).map ePt)]] [(0, 0), ((Int.toNat x2.2.2), 3)] = some (eI v8.2.2) from ((gr0 rfl).trans (gre (map_get ePt (idxO_some hv8).2)))) (show (SV.ov false [.sl (some 37) (setL ((((x2.1.set (Int.toNat x2.2.2) ((x2.2.1, v5.1.2), v5.2)).set (Int.toNat x2.2.2) ((v6.1.1, (w64 (x2.2.1 + 1))), v6.2)).set (Int.toNat x2.2.2) (v7.1, ((w64 ((w64 (x2.2.1 + 1)) + 1)), v7.2.2))).map ePt) [((Int.toNat x2.2.2), 3)] [rI (w64 ((w64 ((w64 (x2.2.1 + 1)) + 1)) + 1))])] : SV) = .ov false [.sl (some 37) (((((x2.1.set (Int.toNat x2.2.2) ((x2.2.1, v5.1.2), v5.2)).set (Int.toNat x2.2.2) ((v6.1.1, (w64 (x2.2.1 + 1))), v6.2)).set (Int.toNat x2.2.2) (v7.1, ((w64 ((w64 (x2.2.1 + 1)) + 1)), v7.2.2))).set (Int.toNat x2.2.2) (v8.1, (v8.2.1, (w64 ((w64 ((w64 (x2.2.1 + 1)) + 1)) + 1))))).map ePt)] from (congrArg (fun z => SV.ov false [.sl (some 37) z]) (set1 (f := ePt) (y := (v8.1, (v8.2.1, (w64 ((w64 ((w64 (x2.2.1 + 1)) + 1)) + 1))))) (idxO_some hv8).2 rfl))))) ?_
   refine k_reg (r_gq [(0, .ov false [.sl (some 37) (((((x2.1.set (Int.toNat x2.2.2) ((x2.2.1, v5.1.2), v5.2)).set (Int.toNat x2.2.2) ((v6.1.1, (w64 (x2.2.1 + 1))), v6.2)).set (Int.toNat x2.2.2) (v7.1, ((w64 ((w64 (x2.2.1 + 1)) + 1)), v7.2.2))).set (Int.toNat x2.2.2) (v8.1, (v8.2.1, (w64 ((w64 ((w64 (x2.2.1 + 1)) + 1)) + 1))))).map ePt)]), (1, .p (iV (w64 ((w64 ((w64 ((w64 (x2.2.1 + 1)) + 1)) + 1)) + 1)))), (5, .p (iV x2.2.2))] [] trivial) ?_
   refine b_n ?_
   refine q_n ?_
   refine k_reg (r_gq [(0, .ov false [.sl (some 37) (((((x2.1.set (Int.toNat x2.2.2) ((x2.2.1, v5.1.2), v5.2)).set (Int.toNat x2.2.2) ((v6.1.1, (w64 (x2.2.1 + 1))), v6.2)).set (Int.toNat x2.2.2) (v7.1, ((w64 ((w64 (x2.2.1 + 1)) + 1)), v7.2.2))).set (Int.toNat x2.2.2) (v8.1, (v8.2.1, (w64 ((w64 ((w64 (x2.2.1 + 1)) + 1)) + 1))))).map ePt)]), (1, .p (iV (w64 ((w64 ((w64 ((w64 (x2.2.1 + 1)) + 1)) + 1)) + 1)))), (5, .p (iV (w64 (x2.2.2 + 1))))] [] trivial) ?_
   exact lqn (((((x2.1.set (Int.toNat x2.2.2) ((x2.2.1, v5.1.2), v5.2)).set (Int.toNat x2.2.2) ((v6.1.1, (w64 (x2.2.1 + 1))), v6.2)).set (Int.toNat x2.2.2) (v7.1, ((w64 ((w64 (x2.2.1 + 1)) + 1)), v7.2.2))).set (Int.toNat x2.2.2) (v8.1, (v8.2.1, (w64 ((w64 ((w64 (x2.2.1 + 1)) + 1)) + 1))))), (w64 ((w64 ((w64 ((w64 (x2.2.1 + 1)) + 1)) + 1)) + 1)), (w64 (x2.2.2 + 1))) h
  ·replace h := ite_f hc5_3 h
   refine k_exit ?_
   refine q_x ?_
   refine lq_x ?_
   refine b_x ?_
   have hyy := hy_x2 _ (oi h).symm
   subst hyy
   have h := hk_x2
   refine q_n ?_
   exact jx (x2.1, x2.2.1) h
theorem wk_laws_markLift {a0 : (List Qp)} {a1 : Int} {r : (Int × (List Qp))} (h : laws_markLift a0 a1 = some r) : MeetsB Tryd.prog 7 (.ov true [.sl (some 37) (a0.map ePt)]) [wI a1] [.p (iV r.1)] (.ov true [.sl (some 37) (r.2.map ePt)]) := by
 unfold laws_markLift at h
 refine wrap_lent (T := 24) (S := 22) (by kernel_rfl) Tryd.func7 rfl ⟨rfl, rfl, rfl⟩ ⟨rfl, rfl, rfl⟩ ⟨rfl, rfl, rfl⟩ ⟨rfl, rfl, rfl⟩ ⟨rfl, rfl, rfl⟩ ⟨rfl, rfl, rfl⟩ ⟨rfl, rfl, rfl⟩ (by kernel_rfl) (by kernel_rfl) (by kernel_rfl) (wk_laws_markPointS h) ?_
 refine k_sreg (r_go [(4, .p (iV r.1))] [] [] (by kernel_rfl) trivial) ?_
 refine k_ret ?_
 exact e_ret (ls := [(.p (iV r.1), 4)]) (by kernel_rfl) rfl (by kernel_rfl) rfl
theorem wk_laws_heldPointS {a0 : (List Qp)} {a1 : Int}  {r : Int} (h : laws_heldPointS a0 a1 = some r) : Meets Tryd.prog 17 [.d false [.sl none (a0.map ePt)], wI a1] { vals := [.p (iV r)] } := by
 refine mo Tryd.func17 [(0, .d false [.sl none (a0.map ePt)]), (1, .p (iV a1))] ?_
 unfold laws_heldPointS at h
 refine k_sreg (r_gq [(0, .d false [.sl none (a0.map ePt)]), (1, .p (iV a1))] [] trivial) ?_
 refine k_join (J := fun (x : Int) => [(1, .p (iV x))]) (K := fun x => laws_heldPointS_k1 x = some r) (fun x1 h => ?_) ?_
 ·unfold laws_heldPointS_k1 at h
  refine k_sreg (r_gq [(4, .p (iV x1))] [] trivial) ?_
  refine k_ret ?_
  obtain rfl := oi h
  exact er [(.p (iV x1), 4)]
 ·refine k_sreg (r_gq [(0, .d false [.sl none (a0.map ePt)]), (1, .p (iV a1)), (5, .p (iV 0))] [] trivial) ?_
  refine k_block ?_
  obtain ⟨y3, hl_x2, hk_x2⟩ := bs h
  clear h
  refine k_loop (J := fun (x : Qr) => [(0, .d false [.sl none (a0.map ePt)]), (1, .p (iV x.1)), (5, .p (iV x.2))]) hl_x2 (wk_of (by kernel_rfl) (by kernel_rfl)) (fun x2 o_x2 h hy_x2 => ?_)
  unfold laws_heldPointS_b1 at h
  refine k_seq ?_
  refine k_sreg (r_gq [(0, .d false [.sl none (a0.map ePt)]), (1, .p (iV x2.1)), (5, .p (iV x2.2)), (9, .p (.bool (decide (x2.2 < (a0.length : Int)))))] [(2, {n := some a0.length})] (A1 (show (a0.map ePt).length = a0.length from (List.length_map ..)))) ?_
  refine kc (decide (x2.2 < (a0.length : Int))) (fun hc5_3 => ?_) (fun hc5_3 => ?_)
  ·replace h := ite_t hc5_3 h
   refine k_skip ?_
   refine q_n ?_
   refine k_seq ?_
   refine k_block ?_
   refine k_seq ?_
   replace h := bs h
   obtain ⟨v5, hv5, h⟩ := h
   refine k_sreg (r_gq [(0, .d false [.sl none (a0.map ePt)]), (1, .p (iV x2.1)), (5, .p (iV x2.2)), (19, .p (.bool (v5.1.1 != x2.1)))] [(2, {row := some (ePt v5)})] (A2 (idxO_some hv5).1 (map_get ePt (idxO_some hv5).2))) ?_
   refine kc (v5.1.1 != x2.1) (fun hc7_5 => ?_) (fun hc7_5 => ?_)
   ·replace h := ite_t hc7_5 h
    refine k_sreg (r_gq [(4, .p (iV (-1)))] [] trivial) ?_
    refine k_ret ?_
    refine q_r ?_
    refine b_r ?_
    refine q_r ?_
    refine lq_r ?_
    refine b_r ?_
    refine q_r ?_
    have hyy := hy_x2 _ (oi h).symm
    subst hyy
    have h := hk_x2
    dsimp only [Sum.elim] at h
    obtain rfl := oi h
    exact er [(.p (iV (-1)), 4)]
   ·replace h := ite_f hc7_5 h
    refine k_skip ?_
    refine q_n ?_
    refine k_sreg (r_gq [(0, .d false [.sl none (a0.map ePt)]), (1, .p (iV (w64 (x2.1 + 1)))), (5, .p (iV x2.2))] [] trivial) ?_
    refine k_seq ?_
    refine k_sreg (r_gq [(0, .d false [.sl none (a0.map ePt)]), (1, .p (iV (w64 (x2.1 + 1)))), (5, .p (iV x2.2)), (29, .p (.bool (v5.1.2 != (w64 (x2.1 + 1)))))] [(2, {row := some (ePt v5)})] (A2 (idxO_some hv5).1 (map_get ePt (idxO_some hv5).2))) ?_
    refine kc (v5.1.2 != (w64 (x2.1 + 1))) (fun hc7_6 => ?_) (fun hc7_6 => ?_)
    ·replace h := ite_t hc7_6 h
     refine k_sreg (r_gq [(4, .p (iV (-1)))] [] trivial) ?_
     refine k_ret ?_
     refine q_r ?_
     refine b_r ?_
     refine q_r ?_
     refine lq_r ?_
     refine b_r ?_
     refine q_r ?_
     have hyy := hy_x2 _ (oi h).symm
     subst hyy
     have h := hk_x2
     dsimp only [Sum.elim] at h
     obtain rfl := oi h
     exact er [(.p (iV (-1)), 4)]
    ·replace h := ite_f hc7_6 h
     refine k_skip ?_
     refine q_n ?_
     refine k_sreg (r_gq [(0, .d false [.sl none (a0.map ePt)]), (1, .p (iV (w64 ((w64 (x2.1 + 1)) + 1)))), (5, .p (iV x2.2))] [] trivial) ?_
     refine k_seq ?_
     refine k_sreg (r_gq [(0, .d false [.sl none (a0.map ePt)]), (1, .p (iV (w64 ((w64 (x2.1 + 1)) + 1)))), (5, .p (iV x2.2)), (39, .p (.bool (v5.2.1 != (w64 ((w64 (x2.1 + 1)) + 1)))))] [(2, {row := some (ePt v5)})] (A2 (idxO_some hv5).1 (map_get ePt (idxO_some hv5).2))) ?_
     refine kc (v5.2.1 != (w64 ((w64 (x2.1 + 1)) + 1))) (fun hc7_7 => ?_) (fun hc7_7 => ?_)
     ·replace h := ite_t hc7_7 h
      refine k_sreg (r_gq [(4, .p (iV (-1)))] [] trivial) ?_
      refine k_ret ?_
      refine q_r ?_
      refine b_r ?_
      refine q_r ?_
      refine lq_r ?_
      refine b_r ?_
      refine q_r ?_
      have hyy := hy_x2 _ (oi h).symm
      subst hyy
      have h := hk_x2
      dsimp only [Sum.elim] at h
      obtain rfl := oi h
      exact er [(.p (iV (-1)), 4)]
     ·replace h := ite_f hc7_7 h
      refine k_skip ?_
      refine q_n ?_
      refine k_sreg (r_gq [(0, .d false [.sl none (a0.map ePt)]), (1, .p (iV (w64 ((w64 ((w64 (x2.1 + 1)) + 1)) + 1)))), (5, .p (iV x2.2))] [] trivial) ?_
      refine k_seq ?_
      refine k_sreg (r_gq [(0, .d false [.sl none (a0.map ePt)]), (1, .p (iV (w64 ((w64 ((w64 (x2.1 + 1)) + 1)) + 1)))), (5, .p (iV x2.2)), (49, .p (.bool (v5.2.2 != (w64 ((w64 ((w64 (x2.1 + 1)) + 1)) + 1)))))] [(2, {row := some (ePt v5)})] (A2 (idxO_some hv5).1 (map_get ePt (idxO_some hv5).2))) ?_
      refine kc (v5.2.2 != (w64 ((w64 ((w64 (x2.1 + 1)) + 1)) + 1))) (fun hc7_8 => ?_) (fun hc7_8 => ?_)
      ·replace h := ite_t hc7_8 h
       refine k_sreg (r_gq [(4, .p (iV (-1)))] [] trivial) ?_
       refine k_ret ?_
       refine q_r ?_
       refine b_r ?_
       refine q_r ?_
       refine lq_r ?_
       refine b_r ?_
       refine q_r ?_
       have hyy := hy_x2 _ (oi h).symm
       subst hyy
       have h := hk_x2
       dsimp only [Sum.elim] at h
       obtain rfl := oi h
       exact er [(.p (iV (-1)), 4)]
      ·replace h := ite_f hc7_8 h
       refine k_skip ?_
       refine q_n ?_
       refine k_reg (r_gq [(0, .d false [.sl none (a0.map ePt)]), (1, .p (iV (w64 ((w64 ((w64 ((w64 (x2.1 + 1)) + 1)) + 1)) + 1)))), (5, .p (iV x2.2))] [] trivial) ?_
       refine b_n ?_
       refine q_n ?_
       refine k_reg (r_gq [(0, .d false [.sl none (a0.map ePt)]), (1, .p (iV (w64 ((w64 ((w64 ((w64 (x2.1 + 1)) + 1)) + 1)) + 1)))), (5, .p (iV (w64 (x2.2 + 1))))] [] trivial) ?_
       exact lqn ((w64 ((w64 ((w64 ((w64 (x2.1 + 1)) + 1)) + 1)) + 1)), (w64 (x2.2 + 1))) h
  ·replace h := ite_f hc5_3 h
   refine k_exit ?_
   refine q_x ?_
   refine lq_x ?_
   refine b_x ?_
   have hyy := hy_x2 _ (oi h).symm
   subst hyy
   have h := hk_x2
   dsimp only [Sum.elim] at h
   refine q_n ?_
   exact jx x2.1 h
theorem wk_laws_heldLift {a0 : (List Qp)} {a1 : Int}  {r : Int} (h : laws_heldLift a0 a1 = some r) : Meets Tryd.prog 8 [.d true [.sl none (a0.map ePt)], wI a1] { vals := [.p (iV r)] } := by
 refine mo Tryd.func8 [(0, .d true [.sl none (a0.map ePt)]), (1, .p (iV a1))] ?_
 unfold laws_heldLift at h
 refine k_sreg (r_gq [(1, .p (iV a1)), (2, .box [.sl none (a0.map ePt)])] [] trivial) ?_
 replace h := bs h
 obtain ⟨v1, hv1, h⟩ := h
 refine k_sreg (r_gq [(1, .p (iV v1))] [(1, bT), (3, {call := some (none, [.p (iV v1)], true)})] (A2 (show frR [.sl none (a0.map ePt)] = true from (frR1 (frL_enc (fr_P (fr_P fr_I fr_I) (fr_P fr_I fr_I))) rfl)) (wk_laws_heldPointS hv1))) ?_
 refine k_seq ?_
 refine k_sreg (r_gq [(1, .p (iV v1)), (10, .p (.bool (decide (v1 < 0))))] [] trivial) ?_
 refine kc (decide (v1 < 0)) (fun hc2_1 => ?_) (fun hc2_1 => ?_)
 ·replace h := ite_t hc2_1 h
  refine k_sreg (r_gq [(4, .p (iV (-1)))] [] trivial) ?_
  refine k_ret ?_
  refine q_r ?_
  obtain rfl := oi h
  exact er [(.p (iV (-1)), 4)]
 ·replace h := ite_f hc2_1 h
  refine k_skip ?_
  refine q_n ?_
  refine k_sreg (r_gq [(4, .p (iV v1))] [] trivial) ?_
  refine k_ret ?_
  obtain rfl := oi h
  exact er [(.p (iV v1), 4)]
theorem wk_laws_FnExactParseLift {a0 : ByteArray}  {r : Bool} (h : laws_FnExactParseLift a0 = some r) : Meets Tryd.prog 3 [.v (.string a0)] { vals := [.p (.bool r)] } := by
 refine mo Tryd.func3 [(0, .p (.string a0))] ?_
 unfold laws_FnExactParseLift at h
 refine k_sreg (r_gq [(0, .p (.string a0))] [] trivial) ?_
 refine k_seq ?_
 refine k_sreg (r_gq [(0, .p (.string a0)), (13, .p (.bool (decide ((a0.size : Int) > 1048576))))] [] trivial) ?_
 refine kc (decide ((a0.size : Int) > 1048576)) (fun hc2_0 => ?_) (fun hc2_0 => ?_)
 ·replace h := ite_t hc2_0 h
  refine k_sreg (r_gq [(2, .p (.bool true))] [] trivial) ?_
  refine k_ret ?_
  refine q_r ?_
  obtain rfl := oi h
  exact er [(.p (.bool true), 2)]
 ·replace h := ite_f hc2_0 h
  refine k_skip ?_
  refine q_n ?_
  replace h := bs h
  obtain ⟨v2, hv2, h⟩ := h
  refine k_sreg (r_gq [(0, .p (.string a0)), (3, .box [.sl none (v2.1.map ePt)]), (4, .p (.bool v2.2))] [(1, {call := some (none, [.ov true [.sl none (v2.1.map ePt)], .p (.bool v2.2)], false)})] (A1 (wk_spec_ParseLift hv2))) ?_
  replace h := bs h
  obtain ⟨v3, hv3, h⟩ := h
  refine k_sreg (r_gq [(0, .p (.string a0)), (3, .box [.sl none (v2.1.map ePt)]), (4, .p (.bool v2.2)), (5, .box [.sl (some 37) (v3.1.map ePt)]), (6, .p (.bool v3.2))] [(1, {call := some (none, [.ov true [.sl (some 37) (v3.1.map ePt)], .p (.bool v3.2)], true)})] (A2 (wk_impl_ParseLift hv3) (show List.all [.ov true [.sl (some 37) (v3.1.map ePt)], .p (.bool v3.2)] simpleR = true from (sa_o (wnR1 (wnL_enc (wn_P (wn_P wn_I wn_I) (wn_P wn_I wn_I))) rfl) (sa_p rfl))))) ?_
  refine k_seq ?_
  replace h := bs h
  obtain ⟨v4, hv4, h⟩ := h
  refine k_sreg (l1 := [(0, .p (.string a0)), (3, .box [.sl none (v2.1.map ePt)]), (4, .p (.bool v2.2)), (5, .box [.sl (some 37) (v3.1.map ePt)]), (32, .p (.bool ((!v4) || (!(v3.2 == v2.2)))))]) ?_ ?_
  ·rcases ft (!v4) with ha1 | ha1
   ·exact RegOk.of_eq (l2 := [(0, .p (.string a0)), (3, .box [.sl none (v2.1.map ePt)]), (4, .p (.bool v2.2)), (5, .box [.sl (some 37) (v3.1.map ePt)]), (32, .p (.bool ((!v4) || (!(v3.2 == v2.2)))))]) (r_gq [(0, .p (.string a0)), (3, .box [.sl none (v2.1.map ePt)]), (4, .p (.bool v2.2)), (5, .box [.sl (some 37) (v3.1.map ePt)]), (32, .p (.bool true))] [(1, bT), (2, {call := some (some [.d true [.sl none (v3.1.map ePt)], .d true [.sl none (v2.1.map ePt)]], [.p (.bool v4)], true)}), (5, gT), (6, gT), (7, gT), (8, bT)] (B6 (show frR [.sl (some 37) (v3.1.map ePt)] = false from rfl) (show frR [.sl none (v2.1.map ePt)] = true from (frR1 (frL_enc (fr_P (fr_P fr_I fr_I) (fr_P fr_I fr_I))) rfl)) (show ([.d true [.sl none (eraL (v3.1.map ePt))], .d true [.sl none (v2.1.map ePt)]] : List Arg) = [.d true [.sl none (v3.1.map ePt)], .d true [.sl none (v2.1.map ePt)]] from (by simp only [eraL_enc (h := ePt) (era_P (era_P er_I er_I) (era_P er_I er_I))])) (wk_laws_eqLift hv4) ha1 ha1 (A2 ha1 ha1))) (by simp [ha1])
   ·exact RegOk.of_eq (l2 := [(0, .p (.string a0)), (3, .box [.sl none (v2.1.map ePt)]), (4, .p (.bool v2.2)), (5, .box [.sl (some 37) (v3.1.map ePt)]), (32, .p (.bool ((!v4) || (!(v3.2 == v2.2)))))]) (r_gq [(0, .p (.string a0)), (3, .box [.sl none (v2.1.map ePt)]), (4, .p (.bool v2.2)), (5, .box [.sl (some 37) (v3.1.map ePt)]), (32, .p (.bool (!(v3.2 == v2.2))))] [(1, bT), (2, {call := some (some [.d true [.sl none (v3.1.map ePt)], .d true [.sl none (v2.1.map ePt)]], [.p (.bool v4)], true)}), (5, gF), (6, gF), (7, gF), (8, bF)] (B6 (show frR [.sl (some 37) (v3.1.map ePt)] = false from rfl) (show frR [.sl none (v2.1.map ePt)] = true from (frR1 (frL_enc (fr_P (fr_P fr_I fr_I) (fr_P fr_I fr_I))) rfl)) (show ([.d true [.sl none (eraL (v3.1.map ePt))], .d true [.sl none (v2.1.map ePt)]] : List Arg) = [.d true [.sl none (v3.1.map ePt)], .d true [.sl none (v2.1.map ePt)]] from (by simp only [eraL_enc (h := ePt) (era_P (era_P er_I er_I) (era_P er_I er_I))])) (wk_laws_eqLift hv4) ha1 ha1 (A2 ha1 ha1))) (by simp [ha1])
  ·refine kc ((!v4) || (!(v3.2 == v2.2))) (fun hc2_4 => ?_) (fun hc2_4 => ?_)
   ·replace h := ite_t hc2_4 h
    refine k_sreg (r_gq [(2, .p (.bool false))] [] trivial) ?_
    refine k_ret ?_
    refine q_r ?_
    obtain rfl := oi h
    exact er [(.p (.bool false), 2)]
   ·replace h := ite_f hc2_4 h
    refine k_skip ?_
    refine q_n ?_
    refine k_sreg (r_gq [(0, .p (.string a0)), (3, .box [.sl none (v2.1.map ePt)]), (4, .p (.bool v2.2)), (5, .box [.sl (some 37) (v3.1.map ePt)]), (7, .p (iV 1))] [] trivial) ?_
    replace h := bs h
    obtain ⟨v6, hv6, h⟩ := h
    refine k_sreg (r_gq [(0, .p (.string a0)), (3, .box [.sl none (v2.1.map ePt)]), (4, .p (.bool v2.2)), (5, .box [.sl (some 37) (v6.2.map ePt)]), (7, .p (iV v6.1))] [(2, {lend := some (none, [.p (iV v6.1)], .ov true [.sl (some 37) (v6.2.map ePt)], true)})] (A3 (show frR [.sl (some 37) (v3.1.map ePt)] = false from rfl) (wk_laws_markLift hv6) (show (List.all [.p (iV v6.1)] simpleR && wnS (.ov true [.sl (some 37) (v6.2.map ePt)])) = true from (ls_t rfl (wnR1 (wnL_enc (wn_P (wn_P wn_I wn_I) (wn_P wn_I wn_I))) rfl))))) ?_
    refine k_sreg (r_gq [(0, .p (.string a0)), (3, .box [.sl none (v2.1.map ePt)]), (4, .p (.bool v2.2)), (5, .box [.sl (some 37) (v6.2.map ePt)]), (7, .p (iV v6.1)), (8, .p (iV 1))] [] trivial) ?_
    replace h := bs h
    obtain ⟨v7, hv7, h⟩ := h
    refine k_sreg (r_gq [(0, .p (.string a0)), (3, .box [.sl none (v2.1.map ePt)]), (4, .p (.bool v2.2)), (5, .box [.sl (some 37) (v6.2.map ePt)]), (7, .p (iV v6.1)), (8, .p (iV v7))] [(2, {call := some (some [.d true [.sl none (v6.2.map ePt)], wI 1], [.p (iV v7)], true)})] (A3 (show frR [.sl (some 37) (v6.2.map ePt)] = false from rfl) (show ([.d true [.sl none (eraL (v6.2.map ePt))], wI 1] : List Arg) = [.d true [.sl none (v6.2.map ePt)], wI 1] from (by simp only [eraL_enc (h := ePt) (era_P (era_P er_I er_I) (era_P er_I er_I))])) (wk_laws_heldLift hv7))) ?_
    refine k_seq ?_
    refine k_sreg (r_gq [(0, .p (.string a0)), (3, .box [.sl none (v2.1.map ePt)]), (4, .p (.bool v2.2)), (5, .box [.sl (some 37) (v6.2.map ePt)]), (7, .p (iV v6.1)), (8, .p (iV v7)), (40, .p (.bool (decide (v7 < 0))))] [] trivial) ?_
    refine kc (decide (v7 < 0)) (fun hc2_7 => ?_) (fun hc2_7 => ?_)
    ·replace h := ite_t hc2_7 h
     refine k_sreg (r_gq [(2, .p (.bool false))] [] trivial) ?_
     refine k_ret ?_
     refine q_r ?_
     obtain rfl := oi h
     exact er [(.p (.bool false), 2)]
    ·replace h := ite_f hc2_7 h
     refine k_skip ?_
     refine q_n ?_
     refine k_seq ?_
     refine k_sreg (r_gq [(0, .p (.string a0)), (3, .box [.sl none (v2.1.map ePt)]), (4, .p (.bool v2.2)), (5, .box [.sl (some 37) (v6.2.map ePt)]), (7, .p (iV v6.1)), (43, .p (.bool (v7 != v6.1)))] [] trivial) ?_
     refine kc (v7 != v6.1) (fun hc2_8 => ?_) (fun hc2_8 => ?_)
     ·replace h := ite_t hc2_8 h
      refine k_sreg (r_gq [(2, .p (.bool false))] [] trivial) ?_
      refine k_ret ?_
      refine q_r ?_
      obtain rfl := oi h
      exact er [(.p (.bool false), 2)]
     ·replace h := ite_f hc2_8 h
      refine k_skip ?_
      refine q_n ?_
      replace h := bs h
      obtain ⟨v10, hv10, h⟩ := h
      refine k_sreg (r_gq [(3, .box [.sl none (v2.1.map ePt)]), (4, .p (.bool v2.2)), (5, .box [.sl (some 37) (v6.2.map ePt)]), (7, .p (iV v6.1)), (9, .box [.sl (some 37) (v10.1.map ePt)]), (10, .p (.bool v10.2))] [(1, {call := some (none, [.ov true [.sl (some 37) (v10.1.map ePt)], .p (.bool v10.2)], true)})] (A2 (wk_impl_ParseLift hv10) (show List.all [.ov true [.sl (some 37) (v10.1.map ePt)], .p (.bool v10.2)] simpleR = true from (sa_o (wnR1 (wnL_enc (wn_P (wn_P wn_I wn_I) (wn_P wn_I wn_I))) rfl) (sa_p rfl))))) ?_
      refine k_seq ?_
      replace h := bs h
      obtain ⟨v11, hv11, h⟩ := h
      refine k_sreg (l1 := [(5, .box [.sl (some 37) (v6.2.map ePt)]), (7, .p (iV v6.1)), (57, .p (.bool ((!v11) || (!(v10.2 == v2.2)))))]) ?_ ?_
      ·rcases ft (!v11) with ha4 | ha4
       ·exact RegOk.of_eq (l2 := [(5, .box [.sl (some 37) (v6.2.map ePt)]), (7, .p (iV v6.1)), (57, .p (.bool ((!v11) || (!(v10.2 == v2.2)))))]) (r_gq [(5, .box [.sl (some 37) (v6.2.map ePt)]), (7, .p (iV v6.1)), (57, .p (.bool true))] [(1, bT), (2, {call := some (some [.d true [.sl none (v10.1.map ePt)], .d true [.sl none (v2.1.map ePt)]], [.p (.bool v11)], true)}), (5, gT), (6, gT), (7, gT), (8, bT)] (B6 (show frR [.sl (some 37) (v10.1.map ePt)] = false from rfl) (show frR [.sl none (v2.1.map ePt)] = true from (frR1 (frL_enc (fr_P (fr_P fr_I fr_I) (fr_P fr_I fr_I))) rfl)) (show ([.d true [.sl none (eraL (v10.1.map ePt))], .d true [.sl none (v2.1.map ePt)]] : List Arg) = [.d true [.sl none (v10.1.map ePt)], .d true [.sl none (v2.1.map ePt)]] from (by simp only [eraL_enc (h := ePt) (era_P (era_P er_I er_I) (era_P er_I er_I))])) (wk_laws_eqLift hv11) ha4 ha4 (A2 ha4 ha4))) (by simp [ha4])
       ·exact RegOk.of_eq (l2 := [(5, .box [.sl (some 37) (v6.2.map ePt)]), (7, .p (iV v6.1)), (57, .p (.bool ((!v11) || (!(v10.2 == v2.2)))))]) (r_gq [(5, .box [.sl (some 37) (v6.2.map ePt)]), (7, .p (iV v6.1)), (57, .p (.bool (!(v10.2 == v2.2))))] [(1, bT), (2, {call := some (some [.d true [.sl none (v10.1.map ePt)], .d true [.sl none (v2.1.map ePt)]], [.p (.bool v11)], true)}), (5, gF), (6, gF), (7, gF), (8, bF)] (B6 (show frR [.sl (some 37) (v10.1.map ePt)] = false from rfl) (show frR [.sl none (v2.1.map ePt)] = true from (frR1 (frL_enc (fr_P (fr_P fr_I fr_I) (fr_P fr_I fr_I))) rfl)) (show ([.d true [.sl none (eraL (v10.1.map ePt))], .d true [.sl none (v2.1.map ePt)]] : List Arg) = [.d true [.sl none (v10.1.map ePt)], .d true [.sl none (v2.1.map ePt)]] from (by simp only [eraL_enc (h := ePt) (era_P (era_P er_I er_I) (era_P er_I er_I))])) (wk_laws_eqLift hv11) ha4 ha4 (A2 ha4 ha4))) (by simp [ha4])
      ·refine kc ((!v11) || (!(v10.2 == v2.2))) (fun hc2_11 => ?_) (fun hc2_11 => ?_)
       ·replace h := ite_t hc2_11 h
        refine k_sreg (r_gq [(2, .p (.bool false))] [] trivial) ?_
        refine k_ret ?_
        refine q_r ?_
        obtain rfl := oi h
        exact er [(.p (.bool false), 2)]
       ·replace h := ite_f hc2_11 h
        refine k_skip ?_
        refine q_n ?_
        refine k_sreg (r_gq [(5, .box [.sl (some 37) (v6.2.map ePt)]), (7, .p (iV v6.1)), (8, .p (iV 1))] [] trivial) ?_
        replace h := bs h
        obtain ⟨v13, hv13, h⟩ := h
        refine k_sreg (r_gq [(7, .p (iV v6.1)), (8, .p (iV v13))] [(2, {call := some (some [.d true [.sl none (v6.2.map ePt)], wI 1], [.p (iV v13)], true)})] (A3 (show frR [.sl (some 37) (v6.2.map ePt)] = false from rfl) (show ([.d true [.sl none (eraL (v6.2.map ePt))], wI 1] : List Arg) = [.d true [.sl none (v6.2.map ePt)], wI 1] from (by simp only [eraL_enc (h := ePt) (era_P (era_P er_I er_I) (era_P er_I er_I))])) (wk_laws_heldLift hv13))) ?_
        refine k_seq ?_
        refine k_sreg (r_gq [(7, .p (iV v6.1)), (8, .p (iV v13)), (62, .p (.bool (decide (v13 < 0))))] [] trivial) ?_
        refine kc (decide (v13 < 0)) (fun hc2_13 => ?_) (fun hc2_13 => ?_)
        ·replace h := ite_t hc2_13 h
         refine k_sreg (r_gq [(2, .p (.bool false))] [] trivial) ?_
         refine k_ret ?_
         refine q_r ?_
         obtain rfl := oi h
         exact er [(.p (.bool false), 2)]
        ·replace h := ite_f hc2_13 h
         refine k_skip ?_
         refine q_n ?_
         refine k_seq ?_
         refine k_sreg (r_gq [(65, .p (.bool (v13 != v6.1)))] [] trivial) ?_
         refine kc (v13 != v6.1) (fun hc2_14 => ?_) (fun hc2_14 => ?_)
         ·replace h := ite_t hc2_14 h
          refine k_sreg (r_gq [(2, .p (.bool false))] [] trivial) ?_
          refine k_ret ?_
          refine q_r ?_
          obtain rfl := oi h
          exact er [(.p (.bool false), 2)]
         ·replace h := ite_f hc2_14 h
          refine k_skip ?_
          refine q_n ?_
          refine k_sreg (r_gq [(2, .p (.bool true))] [] trivial) ?_
          refine k_ret ?_
          obtain rfl := oi h
          exact er [(.p (.bool true), 2)]
end Go.PV

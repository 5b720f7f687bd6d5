/-
  Walks through the functions that the law reaches: each answers as its plain definition does.
  Conditions: none.
-/
import Derived.KernelRfl
import Derived.Test.YtkcfcccfonekoaaDf
import Derived.Test.YtkcfcccfonekoaaProg
import Derived.Test.YtkcfcccfonekoaaPvCx
open Go Go.PV Go.Proofs
set_option linter.all false
namespace Go.PV
attribute [local irreducible] pvC pvL pvD sOp seqQ blockQ Meets MeetsB Ok OkL RegOk agree endQ seqL blockL loopQ endL endLB OkV Takes
theorem Try_mixed : Try.prog.follows .mixedOrders = true := by kernel_rfl
theorem wk_laws_szPointS {a0 : (List Qp)} {a1 : Int}  {r : Int} (h : laws_szPointS a0 a1 = some r) : Meets Try.prog 14 [.d false [.sl none (a0.map ePt)], wI a1] { vals := [.p (iV r)] } := by
 refine mo Try.func14 [(0, .d false [.sl none (a0.map ePt)]), (1, .p (iV a1))] ?_
 unfold laws_szPointS at h
 refine k_sreg (r_gq [(0, .d false [.sl none (a0.map ePt)]), (1, .p (iV a1))] [] trivial) ?_
 refine k_sreg (r_gq [(1, .p (iV (w64 (a1 - (a0.length : Int)))))] [(2, {n := some a0.length})] (A1 (show (a0.map ePt).length = a0.length from (List.length_map ..)))) ?_
 refine k_seq ?_
 refine k_sreg (r_gq [(1, .p (iV (w64 (a1 - (a0.length : Int))))), (10, .p (.bool (decide ((w64 (a1 - (a0.length : Int))) < 0))))] [] trivial) ?_
 refine kc (decide ((w64 (a1 - (a0.length : Int))) < 0)) (fun hc2_0 => ?_) (fun hc2_0 => ?_)
 ·replace h := ite_t hc2_0 h
  refine k_sreg (r_gq [(4, .p (iV (-1)))] [] trivial) ?_
  refine k_ret ?_
  refine q_r ?_
  obtain rfl := oi h
  exact er [(.p (iV (-1)), 4)]
 ·replace h := ite_f hc2_0 h
  refine k_skip ?_
  refine q_n ?_
  refine k_sreg (r_gq [(4, .p (iV (w64 (a1 - (a0.length : Int)))))] [] trivial) ?_
  refine k_ret ?_
  obtain rfl := oi h
  exact er [(.p (iV (w64 (a1 - (a0.length : Int)))), 4)]
theorem wk_laws_szIntervalS {a0 : (List Qp)} {a1 : Int}  {r : Int} (h : laws_szIntervalS a0 a1 = some r) : Meets Try.prog 45 [.d false [.sl none (a0.map ePt)], wI a1] { vals := [.p (iV r)] } := by
 refine mo Try.func45 [(0, .d false [.sl none (a0.map ePt)]), (1, .p (iV a1))] ?_
 unfold laws_szIntervalS at h
 refine k_sreg (r_gq [(0, .d false [.sl none (a0.map ePt)]), (1, .p (iV a1))] [] trivial) ?_
 refine k_sreg (r_gq [(1, .p (iV (w64 (a1 - (a0.length : Int)))))] [(2, {n := some a0.length})] (A1 (show (a0.map ePt).length = a0.length from (List.length_map ..)))) ?_
 refine k_seq ?_
 refine k_sreg (r_gq [(1, .p (iV (w64 (a1 - (a0.length : Int))))), (10, .p (.bool (decide ((w64 (a1 - (a0.length : Int))) < 0))))] [] trivial) ?_
 refine kc (decide ((w64 (a1 - (a0.length : Int))) < 0)) (fun hc2_0 => ?_) (fun hc2_0 => ?_)
 ·replace h := ite_t hc2_0 h
  refine k_sreg (r_gq [(4, .p (iV (-1)))] [] trivial) ?_
  refine k_ret ?_
  refine q_r ?_
  obtain rfl := oi h
  exact er [(.p (iV (-1)), 4)]
 ·replace h := ite_f hc2_0 h
  refine k_skip ?_
  refine q_n ?_
  refine k_sreg (r_gq [(4, .p (iV (w64 (a1 - (a0.length : Int)))))] [] trivial) ?_
  refine k_ret ?_
  obtain rfl := oi h
  exact er [(.p (iV (w64 (a1 - (a0.length : Int)))), 4)]
theorem wk_laws_toRat {a0 : Qr}  {r : Qr} (h : laws_toRat a0 = some r) : Meets Try.prog 89 [.v (vRt a0)] { vals := [.p (vRt r)] } := by
 refine mo Try.func89 [(0, .p (vRt a0))] ?_
 unfold laws_toRat at h
 refine k_sreg (r_gq [(1, .box (eRt a0)), (2, .box [rI 0, rI 0])] [] trivial) ?_
 refine k_sreg (r_gq [(1, .box (eRt a0)), (2, .box [rI 0, rI 0]), (3, .box [rI 0, rI 0])] [] trivial) ?_
 refine k_sreg (r_gq [(1, .box (eRt a0)), (2, .box [rI 0, rI 0]), (3, .box [rI a0.1, rI 0])] [] trivial) ?_
 refine k_sreg (r_gq [(2, .box [rI 0, rI 0]), (3, .box (eRt a0))] [] trivial) ?_
 refine k_sreg (r_gq [(2, .box (eRt a0))] [] trivial) ?_
 refine k_ret ?_
 obtain rfl := oi h
 exact er [(.p (vRt a0), 2)]
theorem wk_laws_toPoint {a0 : Qp}  {r : Qp} (h : laws_toPoint a0 = some r) : Meets Try.prog 52 [.v (vPt a0)] { vals := [.p (vPt r)] } := by
 refine mo Try.func52 [(0, .p (vPt a0))] ?_
 unfold laws_toPoint at h
 refine k_sreg (r_gq [(1, .box (ePt a0)), (2, .box [rI 0, rI 0, rI 0, rI 0])] [] trivial) ?_
 refine k_sreg (r_gq [(1, .box (ePt a0)), (2, .box [rI 0, rI 0, rI 0, rI 0]), (3, .box [rI 0, rI 0, rI 0, rI 0])] [] trivial) ?_
 replace h := bs h
 obtain ⟨v1, hv1, h⟩ := h
 refine k_sreg (r_gq [(1, .box (ePt a0)), (2, .box [rI 0, rI 0, rI 0, rI 0]), (3, .box [rI v1.1, rI v1.2, rI 0, rI 0])] [(2, {call := some (none, [.p (vRt v1)], true)})] (A1 (wk_laws_toRat hv1))) ?_
 replace h := bs h
 obtain ⟨v2, hv2, h⟩ := h
 refine k_sreg (r_gq [(2, .box [rI 0, rI 0, rI 0, rI 0]), (3, .box [rI v1.1, rI v1.2, rI v2.1, rI v2.2])] [(2, {call := some (none, [.p (vRt v2)], true)})] (A1 (wk_laws_toRat hv2))) ?_
 refine k_sreg (r_gq [(2, .box [rI v1.1, rI v1.2, rI v2.1, rI v2.2])] [] trivial) ?_
 refine k_ret ?_
 obtain rfl := oi h
 exact er [(.p (.agg #[.int .i64 v1.1, .int .i64 v1.2, .int .i64 v2.1, .int .i64 v2.2]), 2)]
theorem wk_laws_toPointS {a0 : (List Qp)}  {r : (List Qp)} (h : laws_toPointS a0 = some r) : Meets Try.prog 16 [.d false [.sl none (a0.map ePt)]] { vals := [.ov false [.sl (some 62) (r.map ePt)]] } := by
 refine mo Try.func16 [(0, .d false [.sl none (a0.map ePt)])] ?_
 unfold laws_toPointS at h
 refine k_sreg (r_gq [(0, .d false [.sl none (a0.map ePt)])] [] trivial) ?_
 replace h := bs h
 obtain ⟨u1, hu1, h⟩ := h
 refine k_sreg (r_gq [(0, .d false [.sl none (a0.map ePt)]), (3, .ov false [.sl (some 62) ((List.replicate (Int.toNat (a0.length : Int)) ((0, 0), (0, 0))).map ePt)])] [(1, {n := some a0.length}), (2, {fix := some (7, .ov false [.sl (some 62) ((List.replicate (Int.toNat (a0.length : Int)) ((0, 0), (0, 0))).map ePt)])})] (A5 (show (a0.map ePt).length = a0.length from (List.length_map ..)) (show (a0.length : Int) = (a0.length : Int) from rfl) (guardO_some hu1).1 (guardO_some hu1).2 (show (SV.ov false [.sl (some 62) (List.replicate (Int.toNat (a0.length : Int)) [rI 0, rI 0, rI 0, rI 0])] : SV) = .ov false [.sl (some 62) ((List.replicate (Int.toNat (a0.length : Int)) ((0, 0), (0, 0))).map ePt)] from (congrArg (fun z => SV.ov false [.sl (some 62) z]) (rep_fix ePt ((0, 0), (0, 0))))))) ?_
 refine k_join (J := fun (x : (List Qp)) => [(3, .ov false [.sl (some 62) (x.map ePt)])]) (K := fun x => laws_toPointS_k1 x = some r) (fun x2 h => ?_) ?_
 ·unfold laws_toPointS_k1 at h
  refine k_sreg (r_gq [(2, .ov false [.sl (some 62) (x2.map ePt)])] [] trivial) ?_
  refine k_ret ?_
  obtain rfl := oi h
  exact er [(.ov false [.sl (some 62) (x2.map ePt)], 2)]
 ·refine k_sreg (r_gq [(0, .d false [.sl none (a0.map ePt)]), (3, .ov false [.sl (some 62) ((List.replicate (Int.toNat (a0.length : Int)) ((0, 0), (0, 0))).map ePt)]), (4, .p (iV 0))] [] trivial) ?_
  refine k_block ?_
  obtain ⟨y4, hl_x3, hk_x3⟩ := bs h
  clear h
  refine k_loop (J := fun (x : ((List Qp) × Int)) => [(0, .d false [.sl none (a0.map ePt)]), (3, .ov false [.sl (some 62) (x.1.map ePt)]), (4, .p (iV x.2))]) hl_x3 (wk_of (by kernel_rfl) (by kernel_rfl)) (fun x3 o_x3 h hy_x3 => ?_)
  unfold laws_toPointS_b1 at h
  refine k_seq ?_
  refine k_sreg (r_gq [(0, .d false [.sl none (a0.map ePt)]), (3, .ov false [.sl (some 62) (x3.1.map ePt)]), (4, .p (iV x3.2)), (11, .p (.bool (decide (x3.2 < (a0.length : Int)))))] [(2, {n := some a0.length})] (A1 (show (a0.map ePt).length = a0.length from (List.length_map ..)))) ?_
  refine kc (decide (x3.2 < (a0.length : Int))) (fun hc5_4 => ?_) (fun hc5_4 => ?_)
  ·replace h := ite_t hc5_4 h
   refine k_skip ?_
   refine q_n ?_
   refine k_seq ?_
   refine k_block ?_
   replace h := bs h
   obtain ⟨v6, hv6, h⟩ := h
   replace h := bs h
   obtain ⟨v7, hv7, h⟩ := h
   replace h := bs h
   obtain ⟨v8, hv8, h⟩ := h
   refine k_reg (r_gq [(0, .d false [.sl none (a0.map ePt)]), (3, .ov false [.sl (some 62) ((x3.1.set (Int.toNat x3.2) v7).map ePt)]), (4, .p (iV x3.2))] [(4, {row := some (ePt v6)}), (6, {call := some (none, [.p (vPt v7)], true)}), (7, {row := some (ePt v8)}), (8, {row := some (ePt v8), fix := some (3, .ov false [.sl (some 62) ((x3.1.set (Int.toNat x3.2) v7).map ePt)])})] (B6 (idxO_some hv6).1 (map_get ePt (idxO_some hv6).2) (wk_laws_toPoint hv7) (idxO_some hv8).1 (map_get ePt (idxO_some hv8).2) (show getRow [[.sl (some 62) (x3.1.map ePt)]] [(0, 0), ((Int.toNat x3.2), 0)] = some (ePt v8) from ((gr0 rfl).trans (gre (map_get ePt (idxO_some hv8).2)))) (A1 (show (SV.ov false [.sl (some 62) (setL (x3.1.map ePt) [((Int.toNat x3.2), 0)] (ePt v7))] : SV) = .ov false [.sl (some 62) ((x3.1.set (Int.toNat x3.2) v7).map ePt)] from (congrArg (fun z => SV.ov false [.sl (some 62) z]) (set1 (f := ePt) (y := v7) (idxO_some hv8).2 rfl)))))) ?_
   refine b_n ?_
   refine q_n ?_
   refine k_reg (r_gq [(0, .d false [.sl none (a0.map ePt)]), (3, .ov false [.sl (some 62) ((x3.1.set (Int.toNat x3.2) v7).map ePt)]), (4, .p (iV (w64 (x3.2 + 1))))] [] trivial) ?_
   exact lqn ((x3.1.set (Int.toNat x3.2) v7), (w64 (x3.2 + 1))) h
  ·replace h := ite_f hc5_4 h
   refine k_exit ?_
   refine q_x ?_
   refine lq_x ?_
   refine b_x ?_
   have hyy := hy_x3 _ (oi h).symm
   subst hyy
   have h := hk_x3
   refine q_n ?_
   exact jx x3.1 h
theorem wk_laws_toInterval {a0 : Qp}  {r : Qp} (h : laws_toInterval a0 = some r) : Meets Try.prog 81 [.v (vPt a0)] { vals := [.p (vPt r)] } := by
 refine mo Try.func81 [(0, .p (vPt a0))] ?_
 unfold laws_toInterval at h
 refine k_sreg (r_gq [(1, .box (ePt a0)), (2, .box [rI 0, rI 0, rI 0, rI 0])] [] trivial) ?_
 refine k_sreg (r_gq [(1, .box (ePt a0)), (2, .box [rI 0, rI 0, rI 0, rI 0]), (3, .box [rI 0, rI 0, rI 0, rI 0])] [] trivial) ?_
 replace h := bs h
 obtain ⟨v1, hv1, h⟩ := h
 refine k_sreg (r_gq [(1, .box (ePt a0)), (2, .box [rI 0, rI 0, rI 0, rI 0]), (3, .box [rI v1.1, rI v1.2, rI 0, rI 0])] [(2, {call := some (none, [.p (vRt v1)], true)})] (A1 (wk_laws_toRat hv1))) ?_
 replace h := bs h
 obtain ⟨v2, hv2, h⟩ := h
 refine k_sreg (r_gq [(2, .box [rI 0, rI 0, rI 0, rI 0]), (3, .box [rI v1.1, rI v1.2, rI v2.1, rI v2.2])] [(2, {call := some (none, [.p (vRt v2)], true)})] (A1 (wk_laws_toRat hv2))) ?_
 refine k_sreg (r_gq [(2, .box [rI v1.1, rI v1.2, rI v2.1, rI v2.2])] [] trivial) ?_
 refine k_ret ?_
 obtain rfl := oi h
 exact er [(.p (.agg #[.int .i64 v1.1, .int .i64 v1.2, .int .i64 v2.1, .int .i64 v2.2]), 2)]
theorem wk_laws_toIntervalS {a0 : (List Qp)}  {r : (List Qp)} (h : laws_toIntervalS a0 = some r) : Meets Try.prog 47 [.d false [.sl none (a0.map ePt)]] { vals := [.ov false [.sl (some 89) (r.map ePt)]] } := by
 refine mo Try.func47 [(0, .d false [.sl none (a0.map ePt)])] ?_
 unfold laws_toIntervalS at h
 refine k_sreg (r_gq [(0, .d false [.sl none (a0.map ePt)])] [] trivial) ?_
 replace h := bs h
 obtain ⟨u1, hu1, h⟩ := h
 refine k_sreg (r_gq [(0, .d false [.sl none (a0.map ePt)]), (3, .ov false [.sl (some 89) ((List.replicate (Int.toNat (a0.length : Int)) ((0, 0), (0, 0))).map ePt)])] [(1, {n := some a0.length}), (2, {fix := some (7, .ov false [.sl (some 89) ((List.replicate (Int.toNat (a0.length : Int)) ((0, 0), (0, 0))).map ePt)])})] (A5 (show (a0.map ePt).length = a0.length from (List.length_map ..)) (show (a0.length : Int) = (a0.length : Int) from rfl) (guardO_some hu1).1 (guardO_some hu1).2 (show (SV.ov false [.sl (some 89) (List.replicate (Int.toNat (a0.length : Int)) [rI 0, rI 0, rI 0, rI 0])] : SV) = .ov false [.sl (some 89) ((List.replicate (Int.toNat (a0.length : Int)) ((0, 0), (0, 0))).map ePt)] from (congrArg (fun z => SV.ov false [.sl (some 89) z]) (rep_fix ePt ((0, 0), (0, 0))))))) ?_
 refine k_join (J := fun (x : (List Qp)) => [(3, .ov false [.sl (some 89) (x.map ePt)])]) (K := fun x => laws_toIntervalS_k1 x = some r) (fun x2 h => ?_) ?_
 ·unfold laws_toIntervalS_k1 at h
  refine k_sreg (r_gq [(2, .ov false [.sl (some 89) (x2.map ePt)])] [] trivial) ?_
  refine k_ret ?_
  obtain rfl := oi h
  exact er [(.ov false [.sl (some 89) (x2.map ePt)], 2)]
 ·refine k_sreg (r_gq [(0, .d false [.sl none (a0.map ePt)]), (3, .ov false [.sl (some 89) ((List.replicate (Int.toNat (a0.length : Int)) ((0, 0), (0, 0))).map ePt)]), (4, .p (iV 0))] [] trivial) ?_
  refine k_block ?_
  obtain ⟨y4, hl_x3, hk_x3⟩ := bs h
  clear h
  refine k_loop (J := fun (x : ((List Qp) × Int)) => [(0, .d false [.sl none (a0.map ePt)]), (3, .ov false [.sl (some 89) (x.1.map ePt)]), (4, .p (iV x.2))]) hl_x3 (wk_of (by kernel_rfl) (by kernel_rfl)) (fun x3 o_x3 h hy_x3 => ?_)
  unfold laws_toIntervalS_b1 at h
  refine k_seq ?_
  refine k_sreg (r_gq [(0, .d false [.sl none (a0.map ePt)]), (3, .ov false [.sl (some 89) (x3.1.map ePt)]), (4, .p (iV x3.2)), (11, .p (.bool (decide (x3.2 < (a0.length : Int)))))] [(2, {n := some a0.length})] (A1 (show (a0.map ePt).length = a0.length from (List.length_map ..)))) ?_
  refine kc (decide (x3.2 < (a0.length : Int))) (fun hc5_4 => ?_) (fun hc5_4 => ?_)
  ·replace h := ite_t hc5_4 h
   refine k_skip ?_
   refine q_n ?_
   refine k_seq ?_
   refine k_block ?_
   replace h := bs h
   obtain ⟨v6, hv6, h⟩ := h
   replace h := bs h
   obtain ⟨v7, hv7, h⟩ := h
   replace h := bs h
   obtain ⟨v8, hv8, h⟩ := h
   refine k_reg (r_gq [(0, .d false [.sl none (a0.map ePt)]), (3, .ov false [.sl (some 89) ((x3.1.set (Int.toNat x3.2) v7).map ePt)]), (4, .p (iV x3.2))] [(4, {row := some (ePt v6)}), (6, {call := some (none, [.p (vPt v7)], true)}), (7, {row := some (ePt v8)}), (8, {row := some (ePt v8), fix := some (3, .ov false [.sl (some 89) ((x3.1.set (Int.toNat x3.2) v7).map ePt)])})] (B6 (idxO_some hv6).1 (map_get ePt (idxO_some hv6).2) (wk_laws_toInterval hv7) (idxO_some hv8).1 (map_get ePt (idxO_some hv8).2) (show getRow [[.sl (some 89) (x3.1.map ePt)]] [(0, 0), ((Int.toNat x3.2), 0)] = some (ePt v8) from ((gr0 rfl).trans (gre (map_get ePt (idxO_some hv8).2)))) (A1 (show (SV.ov false [.sl (some 89) (setL (x3.1.map ePt) [((Int.toNat x3.2), 0)] (ePt v7))] : SV) = .ov false [.sl (some 89) ((x3.1.set (Int.toNat x3.2) v7).map ePt)] from (congrArg (fun z => SV.ov false [.sl (some 89) z]) (set1 (f := ePt) (y := v7) (idxO_some hv8).2 rfl)))))) ?_
   refine b_n ?_
   refine q_n ?_
   refine k_reg (r_gq [(0, .d false [.sl none (a0.map ePt)]), (3, .ov false [.sl (some 89) ((x3.1.set (Int.toNat x3.2) v7).map ePt)]), (4, .p (iV (w64 (x3.2 + 1))))] [] trivial) ?_
   exact lqn ((x3.1.set (Int.toNat x3.2) v7), (w64 (x3.2 + 1))) h
  ·replace h := ite_f hc5_4 h
   refine k_exit ?_
   refine q_x ?_
   refine lq_x ?_
   refine b_x ?_
   have hyy := hy_x3 _ (oi h).symm
   subst hyy
   have h := hk_x3
   refine q_n ?_
   exact jx x3.1 h
theorem wk_spec_l1In {a0 : Int} {a1 : Int} {a2 : Int}  {r : Bool} (h : spec_l1In a0 a1 a2 = some r) : Meets Try.prog 58 [wI a0, wI a1, wI a2] { vals := [.p (.bool r)] } := by
 refine mo Try.func58 [(0, .p (iV a0)), (1, .p (iV a1)), (2, .p (iV a2))] ?_
 unfold spec_l1In at h
 refine k_sreg (r_gq [(0, .p (iV a0)), (1, .p (iV a1)), (2, .p (iV a2))] [] trivial) ?_
 refine k_sreg (l1 := [(6, .p (.bool ((decide (a0 ≥ a1)) && (decide (a0 ≤ a2)))))]) ?_ ?_
 ·rcases ft (decide (a0 ≥ a1)) with ha0 | ha0
  ·exact RegOk.of_eq (l2 := [(6, .p (.bool ((decide (a0 ≥ a1)) && (decide (a0 ≤ a2)))))]) (r_gq [(6, .p (.bool (decide (a0 ≤ a2))))] [(4, gT), (5, gT), (6, gT), (7, bT)] (A4 ha0 ha0 ha0 ha0)) (by simp [ha0])
  ·exact RegOk.of_eq (l2 := [(6, .p (.bool ((decide (a0 ≥ a1)) && (decide (a0 ≤ a2)))))]) (r_gq [(6, .p (.bool false))] [(4, gF), (5, gF), (6, gF), (7, bF)] (A4 ha0 ha0 ha0 ha0)) (by simp [ha0])
 ·refine k_ret ?_
  obtain rfl := oi h
  exact er [(.p (.bool ((decide (a0 ≥ a1)) && (decide (a0 ≤ a2)))), 6)]
theorem wk_spec_l1Most {a0 : Int} {a1 : Int}  {r : Int} (h : spec_l1Most a0 a1 = some r) : Meets Try.prog 116 [wI a0, wI a1] { vals := [.p (iV r)] } := by
 refine mo Try.func116 [(0, .p (iV a0)), (1, .p (iV a1))] ?_
 unfold spec_l1Most at h
 refine k_sreg (r_gq [(0, .p (iV a0)), (1, .p (iV a1))] [] trivial) ?_
 refine k_seq ?_
 refine k_sreg (r_gq [(0, .p (iV a0)), (1, .p (iV a1)), (7, .p (.bool (decide (a0 > a1))))] [] trivial) ?_
 refine kc (decide (a0 > a1)) (fun hc2_0 => ?_) (fun hc2_0 => ?_)
 ·replace h := ite_t hc2_0 h
  refine k_sreg (r_gq [(4, .p (iV a0))] [] trivial) ?_
  refine k_ret ?_
  refine q_r ?_
  obtain rfl := oi h
  exact er [(.p (iV a0), 4)]
 ·replace h := ite_f hc2_0 h
  refine k_skip ?_
  refine q_n ?_
  refine k_sreg (r_gq [(4, .p (iV a1))] [] trivial) ?_
  refine k_ret ?_
  obtain rfl := oi h
  exact er [(.p (iV a1), 4)]
theorem wk_spec_l1Abs {a0 : Int}  {r : Int} (h : spec_l1Abs a0 = some r) : Meets Try.prog 87 [wI a0] { vals := [.p (iV r)] } := by
 refine mo Try.func87 [(0, .p (iV a0))] ?_
 unfold spec_l1Abs at h
 refine k_sreg (r_gq [(0, .p (iV a0))] [] trivial) ?_
 replace h := bs h
 obtain ⟨v1, hv1, h⟩ := h
 refine k_sreg (r_gq [(2, .p (iV v1))] [(3, {call := some (none, [.p (iV v1)], true)})] (A1 (wk_spec_l1Most hv1))) ?_
 refine k_ret ?_
 obtain rfl := oi h
 exact er [(.p (iV v1), 2)]
theorem wk_spec_raCommon {a0 : Int} {a1 : Int}  {r : Int} (h : spec_raCommon a0 a1 = some r) : Meets Try.prog 138 [wI a0, wI a1] { vals := [.p (iV r)] } := by
 refine mo Try.func138 [(0, .p (iV a0)), (1, .p (iV a1))] ?_
 unfold spec_raCommon at h
 refine k_sreg (r_gq [(0, .p (iV a0)), (1, .p (iV a1))] [] trivial) ?_
 refine k_join (J := fun (x : Int) => [(0, .p (iV x))]) (K := fun x => spec_raCommon_k1 x = some r) (fun x1 h => ?_) ?_
 ·unfold spec_raCommon_k1 at h
  refine k_sreg (r_gq [(4, .p (iV x1))] [] trivial) ?_
  refine k_ret ?_
  obtain rfl := oi h
  exact er [(.p (iV x1), 4)]
 ·refine k_block ?_
  obtain ⟨y3, hl_x2, hk_x2⟩ := bs h
  clear h
  refine k_loop (J := fun (x : Qr) => [(0, .p (iV x.1)), (1, .p (iV x.2))]) hl_x2 (wk_of (by kernel_rfl) (by kernel_rfl)) (fun x2 o_x2 h hy_x2 => ?_)
  unfold spec_raCommon_b1 at h
  refine k_seq ?_
  refine k_sreg (r_gq [(0, .p (iV x2.1)), (1, .p (iV x2.2)), (7, .p (.bool (decide (x2.2 > 0))))] [] trivial) ?_
  refine kc (decide (x2.2 > 0)) (fun hc5_3 => ?_) (fun hc5_3 => ?_)
  ·replace h := ite_t hc5_3 h
   refine k_skip ?_
   refine q_n ?_
   refine k_block ?_
   replace h := bs h
   obtain ⟨u5, hu5, h⟩ := h
   refine k_sreg (r_gq [(1, .p (iV x2.2)), (5, .p (iV (Int.tmod x2.1 x2.2)))] [] (A1 (guardO_some hu5))) ?_
   refine k_sreg (r_gq [(0, .p (iV x2.2)), (5, .p (iV (Int.tmod x2.1 x2.2)))] [] trivial) ?_
   refine k_reg (r_gq [(0, .p (iV x2.2)), (1, .p (iV (Int.tmod x2.1 x2.2)))] [] trivial) ?_
   refine b_n ?_
   exact lqn (x2.2, (Int.tmod x2.1 x2.2)) h
  ·replace h := ite_f hc5_3 h
   refine k_exit ?_
   refine q_x ?_
   refine lq_x ?_
   refine b_x ?_
   have hyy := hy_x2 _ (oi h).symm
   subst hyy
   have h := hk_x2
   refine q_n ?_
   exact jx x2.1 h
theorem wk_spec_raGood {a0 : Qr}  {r : Bool} (h : spec_raGood a0 = some r) : Meets Try.prog 137 [.v (vRt a0)] { vals := [.p (.bool r)] } := by
 refine mo Try.func137 [(0, .p (vRt a0))] ?_
 unfold spec_raGood at h
 refine k_sreg (r_gq [(1, .box (eRt a0))] [] trivial) ?_
 replace h := bs h
 obtain ⟨v1, hv1, h⟩ := h
 replace h := bs h
 obtain ⟨w5, hw5, h⟩ := h
 refine k_sreg (l1 := [(2, .p (.bool w5))]) ?_ ?_
 ·clear h
  rcases ft v1 with ha0 | ha0
  ·replace hw5 := ite_t ha0 hw5
   replace hw5 := bs hw5
   obtain ⟨v2, hv2, hw5⟩ := hw5
   rcases ft v2 with ha1 | ha1
   ·replace hw5 := ite_t ha1 hw5
    replace hw5 := bs hw5
    obtain ⟨v3, hv3, hw5⟩ := hw5
    replace hw5 := bs hw5
    obtain ⟨v4, hv4, hw5⟩ := hw5
    have hw5 := oi hw5
    subst hw5
    exact (r_dq Try_mixed 14 [] [(2, .p (.bool (v4 == 1)))] [(2, {call := some (none, [.p (.bool v1)], true)}), (4, gT), (5, gT), (6, {g := some true, call := some (none, [.p (.bool v2)], true)}), (7, bT), (9, gT), (10, gT), (11, {g := some true, call := some (none, [.p (iV v3)], true)}), (12, gT), (13, gT), (14, {g := some true, call := some (none, [.p (iV v4)], true)}), (15, gT), (16, bT)] (B6 (wk_spec_l1In hv1) ha0 ha0 ha0 (wk_spec_l1In hv2) ha0 (B6 ha1 ha1 ha1 (wk_spec_l1Abs hv3) ha1 ha1 (A4 ha1 (wk_spec_raCommon hv4) ha1 ha1))))
   ·replace hw5 := ite_f ha1 hw5
    have hw5 := oi hw5
    subst hw5
    exact (r_dq Try_mixed 14 [] [(2, .p (.bool false))] [(2, {call := some (none, [.p (.bool v1)], true)}), (4, gT), (5, gT), (6, {g := some true, call := some (none, [.p (.bool v2)], true)}), (7, bT), (9, gF), (10, gF), (11, gF), (12, gF), (13, gF), (14, gF), (15, gF), (16, bF)] (B6 (wk_spec_l1In hv1) ha0 ha0 ha0 (wk_spec_l1In hv2) ha0 (B6 ha1 ha1 ha1 ha1 ha1 ha1 (A2 ha1 ha1))))
  ·replace hw5 := ite_f ha0 hw5
   have hw5 := oi hw5
   subst hw5
   exact (r_dq Try_mixed 14 [] [(2, .p (.bool false))] [(2, {call := some (none, [.p (.bool v1)], true)}), (4, gF), (5, gF), (6, gF), (7, bF), (9, gF), (10, gF), (11, gF), (12, gF), (13, gF), (14, gF), (15, gF), (16, bF)] (B6 (wk_spec_l1In hv1) ha0 ha0 ha0 ha0 (show false = false from rfl) (B6 (show false = false from rfl) (show false = false from rfl) (show false = false from rfl) (show false = false from rfl) (show false = false from rfl) (show false = false from rfl) (A1 (show false = false from rfl)))))
 ·refine k_ret ?_
  obtain rfl := oi h
  exact er [(.p (.bool w5), 2)]
theorem wk_spec_raUnit {a0 : Qr}  {r : Bool} (h : spec_raUnit a0 = some r) : Meets Try.prog 114 [.v (vRt a0)] { vals := [.p (.bool r)] } := by
 refine mo Try.func114 [(0, .p (vRt a0))] ?_
 unfold spec_raUnit at h
 refine k_sreg (r_gq [(1, .box (eRt a0))] [] trivial) ?_
 replace h := bs h
 obtain ⟨v1, hv1, h⟩ := h
 replace h := bs h
 obtain ⟨w3, hw3, h⟩ := h
 refine k_sreg (l1 := [(2, .p (.bool w3))]) ?_ ?_
 ·clear h
  rcases ft v1 with ha0 | ha0
  ·replace hw3 := ite_t ha0 hw3
   replace hw3 := bs hw3
   obtain ⟨v2, hv2, hw3⟩ := hw3
   have hw3 := oi hw3
   subst hw3
   exact (r_gq [(2, .p (.bool v2))] [(1, {call := some (none, [.p (.bool v1)], true)}), (3, gT), (4, gT), (5, gT), (6, gT), (7, {g := some true, call := some (none, [.p (.bool v2)], true)}), (8, bT)] (B6 (wk_spec_raGood hv1) ha0 ha0 ha0 ha0 ha0 (A2 (wk_spec_l1In hv2) ha0)))
  ·replace hw3 := ite_f ha0 hw3
   have hw3 := oi hw3
   subst hw3
   exact (r_gq [(2, .p (.bool false))] [(1, {call := some (none, [.p (.bool v1)], true)}), (3, gF), (4, gF), (5, gF), (6, gF), (7, gF), (8, bF)] (B6 (wk_spec_raGood hv1) ha0 ha0 ha0 ha0 ha0 (A1 ha0)))
 ·refine k_ret ?_
  obtain rfl := oi h
  exact er [(.p (.bool w3), 2)]
theorem wk_spec_imCoord {a0 : Qr}  {r : Bool} (h : spec_imCoord a0 = some r) : Meets Try.prog 85 [.v (vRt a0)] { vals := [.p (.bool r)] } := by
 refine mo Try.func85 [(0, .p (vRt a0))] ?_
 unfold spec_imCoord at h
 refine k_sreg (r_gq [(1, .box (eRt a0))] [] trivial) ?_
 replace h := bs h
 obtain ⟨v1, hv1, h⟩ := h
 refine k_sreg (l1 := [(2, .p (.bool (v1 && (decide (a0.2 ≤ 100)))))]) ?_ ?_
 ·rcases ft v1 with ha0 | ha0
  ·exact RegOk.of_eq (l2 := [(2, .p (.bool (v1 && (decide (a0.2 ≤ 100)))))]) (r_gq [(2, .p (.bool (decide (a0.2 ≤ 100))))] [(1, {call := some (none, [.p (.bool v1)], true)}), (3, gT), (4, gT), (5, gT), (6, bT)] (A5 (wk_spec_raUnit hv1) ha0 ha0 ha0 ha0)) (by simp [ha0])
  ·exact RegOk.of_eq (l2 := [(2, .p (.bool (v1 && (decide (a0.2 ≤ 100)))))]) (r_gq [(2, .p (.bool false))] [(1, {call := some (none, [.p (.bool v1)], true)}), (3, gF), (4, gF), (5, gF), (6, bF)] (A5 (wk_spec_raUnit hv1) ha0 ha0 ha0 ha0)) (by simp [ha0])
 ·refine k_ret ?_
  obtain rfl := oi h
  exact er [(.p (.bool (v1 && (decide (a0.2 ≤ 100)))), 2)]
theorem wk_spec_l1Sign {a0 : Int}  {r : Int} (h : spec_l1Sign a0 = some r) : Meets Try.prog 99 [wI a0] { vals := [.p (iV r)] } := by
 refine mo Try.func99 [(0, .p (iV a0))] ?_
 unfold spec_l1Sign at h
 refine k_sreg (r_gq [(0, .p (iV a0))] [] trivial) ?_
 refine k_seq ?_
 refine k_block ?_
 refine k_sreg (r_gq [(0, .p (iV a0)), (3, .p (.bool (decide (a0 > 0))))] [] trivial) ?_
 refine kc (decide (a0 > 0)) (fun hc3_0 => ?_) (fun hc3_0 => ?_)
 ·replace h := ite_t hc3_0 h
  refine k_sreg (r_gq [(2, .p (iV 1))] [] trivial) ?_
  refine k_ret ?_
  refine b_r ?_
  refine q_r ?_
  obtain rfl := oi h
  exact er [(.p (iV 1), 2)]
 ·replace h := ite_f hc3_0 h
  refine k_sreg (r_gq [(6, .p (.bool (decide (a0 < 0))))] [] trivial) ?_
  refine kc (decide (a0 < 0)) (fun hc3_1 => ?_) (fun hc3_1 => ?_)
  ·replace h := ite_t hc3_1 h
   refine k_sreg (r_gq [(2, .p (iV (-1)))] [] trivial) ?_
   refine k_ret ?_
   refine b_r ?_
   refine q_r ?_
   obtain rfl := oi h
   exact er [(.p (iV (-1)), 2)]
  ·replace h := ite_f hc3_1 h
   refine k_skip ?_
   refine b_n ?_
   refine q_n ?_
   refine k_sreg (r_gq [(2, .p (iV 0))] [] trivial) ?_
   refine k_ret ?_
   obtain rfl := oi h
   exact er [(.p (iV 0), 2)]
theorem wk_spec_raCmp {a0 : Qr} {a1 : Qr}  {r : Int} (h : spec_raCmp a0 a1 = some r) : Meets Try.prog 71 [.v (vRt a0), .v (vRt a1)] { vals := [.p (iV r)] } := by
 refine mo Try.func71 [(0, .p (vRt a0)), (1, .p (vRt a1))] ?_
 unfold spec_raCmp at h
 refine k_sreg (r_gq [(2, .box (eRt a0)), (3, .box (eRt a1))] [] trivial) ?_
 replace h := bs h
 obtain ⟨v1, hv1, h⟩ := h
 refine k_sreg (r_gq [(4, .p (iV v1))] [(11, {call := some (none, [.p (iV v1)], true)})] (A1 (wk_spec_l1Sign hv1))) ?_
 refine k_ret ?_
 obtain rfl := oi h
 exact er [(.p (iV v1), 4)]
theorem wk_spec_raInt {a0 : Int}  {r : Qr} (h : spec_raInt a0 = some r) : Meets Try.prog 63 [wI a0] { vals := [.p (vRt r)] } := by
 refine mo Try.func63 [(0, .p (iV a0))] ?_
 unfold spec_raInt at h
 refine k_sreg (r_gq [(0, .p (iV a0)), (2, .box [rI 0, rI 0])] [] trivial) ?_
 refine k_sreg (r_gq [(2, .box [rI a0, rI 1])] [] trivial) ?_
 refine k_ret ?_
 obtain rfl := oi h
 exact er [(.p (.agg #[.int .i64 a0, .int .i64 1]), 2)]
theorem wk_spec_imGood {a0 : (List Qp)}  {r : Bool} (h : spec_imGood a0 = some r) : Meets Try.prog 50 [.d false [.sl none (a0.map ePt)]] { vals := [.p (.bool r)] } := by
 refine mo Try.func50 [(0, .d false [.sl none (a0.map ePt)])] ?_
 unfold spec_imGood at h
 refine k_sreg (r_gq [(0, .d false [.sl none (a0.map ePt)])] [] trivial) ?_
 refine k_seq ?_
 replace h := bs h
 obtain ⟨v1, hv1, h⟩ := h
 refine k_sreg (r_gq [(0, .d false [.sl none (a0.map ePt)]), (8, .p (.bool (!v1)))] [(1, {n := some a0.length}), (2, {call := some (none, [.p (.bool v1)], true)})] (A2 (show (a0.map ePt).length = a0.length from (List.length_map ..)) (wk_spec_l1In hv1))) ?_
 refine kc (!v1) (fun hc2_1 => ?_) (fun hc2_1 => ?_)
 ·replace h := ite_t hc2_1 h
  refine k_sreg (r_gq [(2, .p (.bool false))] [] trivial) ?_
  refine k_ret ?_
  refine q_r ?_
  obtain rfl := oi h
  exact er [(.p (.bool false), 2)]
 ·replace h := ite_f hc2_1 h
  refine k_skip ?_
  refine q_n ?_
  refine k_join (J := fun (x : Unit) => [(0, .d false [.sl none (a0.map ePt)])]) (K := fun x => spec_imGood_k1 a0 x = some r) (fun x3 h => ?_) ?_
  ·unfold spec_imGood_k1 at h
   replace h := bs h
   obtain ⟨v4, hv4, h⟩ := h
   replace h := bs h
   obtain ⟨v5, hv5, h⟩ := h
   replace h := bs h
   obtain ⟨v6, hv6, h⟩ := h
   replace h := bs h
   obtain ⟨w10, hw10, h⟩ := h
   refine k_sreg (l1 := [(2, .p (.bool w10))]) ?_ ?_
   ·clear h
    rcases ft (v6 == 0) with ha1 | ha1
    ·replace hw10 := ite_t ha1 hw10
     replace hw10 := bs hw10
     obtain ⟨v7, hv7, hw10⟩ := hw10
     replace hw10 := bs hw10
     obtain ⟨v8, hv8, hw10⟩ := hw10
     replace hw10 := bs hw10
     obtain ⟨v9, hv9, hw10⟩ := hw10
     have hw10 := oi hw10
     subst hw10
     exact (r_dq Try_mixed 16 [] [(2, .p (.bool (v9 == 0)))] [(1, {row := some (ePt v4)}), (4, {call := some (none, [.p (vRt v5)], true)}), (5, {call := some (none, [.p (iV v6)], true)}), (8, gT), (9, gT), (10, {g := some true, n := some a0.length}), (11, gT), (12, {g := some true, row := some (ePt v7)}), (13, gT), (14, gT), (15, {g := some true, call := some (none, [.p (vRt v8)], true)}), (16, {g := some true, call := some (none, [.p (iV v9)], true)}), (17, gT), (18, bT)] (B6 (idxO_some hv4).1 (map_get ePt (idxO_some hv4).2) (wk_spec_raInt hv5) (wk_spec_raCmp hv6) ha1 ha1 (B6 ha1 (show (a0.map ePt).length = a0.length from (List.length_map ..)) ha1 ha1 (idxO_some hv7).1 (map_get ePt (idxO_some hv7).2) (B6 ha1 ha1 ha1 (wk_spec_raInt hv8) ha1 (wk_spec_raCmp hv9) (A2 ha1 ha1)))))
    ·replace hw10 := ite_f ha1 hw10
     have hw10 := oi hw10
     subst hw10
     exact (r_dq Try_mixed 16 [] [(2, .p (.bool false))] [(1, {row := some (ePt v4)}), (4, {call := some (none, [.p (vRt v5)], true)}), (5, {call := some (none, [.p (iV v6)], true)}), (8, gF), (9, gF), (10, gF), (11, gF), (12, gF), (13, gF), (14, gF), (15, gF), (16, gF), (17, gF), (18, bF)] (B6 (idxO_some hv4).1 (map_get ePt (idxO_some hv4).2) (wk_spec_raInt hv5) (wk_spec_raCmp hv6) ha1 ha1 (B6 ha1 ha1 ha1 ha1 ha1 ha1 (A3 ha1 ha1 ha1))))
   ·refine k_ret ?_
    obtain rfl := oi h
    exact er [(.p (.bool w10), 2)]
  ·refine k_sreg (r_gq [(0, .d false [.sl none (a0.map ePt)]), (9, .d false [.sl none (a0.map ePt)]), (10, .p (iV (a0.length : Int))), (11, .p (iV 0))] [(1, {n := some a0.length})] (A1 (show (a0.map ePt).length = a0.length from (List.length_map ..)))) ?_
   refine k_block ?_
   obtain ⟨y12, hl_x11, hk_x11⟩ := bs h
   clear h
   refine k_loop (J := fun (x : Int) => [(0, .d false [.sl none (a0.map ePt)]), (9, .d false [.sl none (a0.map ePt)]), (10, .p (iV (a0.length : Int))), (11, .p (iV x))]) hl_x11 (wk_of (by kernel_rfl) (by kernel_rfl)) (fun x11 o_x11 h hy_x11 => ?_)
   unfold spec_imGood_b1 at h
   refine k_sreg (r_gq [(0, .d false [.sl none (a0.map ePt)]), (9, .d false [.sl none (a0.map ePt)]), (10, .p (iV (a0.length : Int))), (11, .p (iV x11)), (12, .p (.bool (decide (x11 < (a0.length : Int)))))] [] trivial) ?_
   refine k_seq ?_
   refine kc (decide (x11 < (a0.length : Int))) (fun hc5_12 => ?_) (fun hc5_12 => ?_)
   ·replace h := ite_t hc5_12 h
    refine k_skip ?_
    refine q_n ?_
    refine k_seq ?_
    refine k_block ?_
    replace h := bs h
    obtain ⟨v14, hv14, h⟩ := h
    refine k_sreg (r_gq [(0, .d false [.sl none (a0.map ePt)]), (3, .p (iV x11)), (4, .box (ePt v14)), (9, .d false [.sl none (a0.map ePt)]), (10, .p (iV (a0.length : Int))), (11, .p (iV x11))] [(1, {row := some (ePt v14)})] (A2 (idxO_some hv14).1 (map_get ePt (idxO_some hv14).2))) ?_
    replace h := bs h
    obtain ⟨v15, hv15, h⟩ := h
    replace h := bs h
    obtain ⟨w19, hw19, h⟩ := h
    refine k_sreg (l1 := [(0, .d false [.sl none (a0.map ePt)]), (9, .d false [.sl none (a0.map ePt)]), (10, .p (iV (a0.length : Int))), (11, .p (iV x11)), (41, .p (.bool w19))]) ?_ ?_
    ·clear h
     rcases ft (!v15) with ha2 | ha2
     ·replace hw19 := ite_t ha2 hw19
      have hw19 := oi hw19
      subst hw19
      exact (r_dq Try_mixed 22 [] [(0, .d false [.sl none (a0.map ePt)]), (9, .d false [.sl none (a0.map ePt)]), (10, .p (iV (a0.length : Int))), (11, .p (iV x11)), (41, .p (.bool true))] [(2, {call := some (none, [.p (.bool v15)], true)}), (5, gT), (6, gT), (7, gT), (8, gT), (9, bT), (11, gT), (12, gT), (13, gT), (24, gT), (25, bT)] (B6 (wk_spec_imCoord hv15) ha2 ha2 ha2 ha2 ha2 (A5 (show true = true from rfl) (show true = true from rfl) (show true = true from rfl) (show true = true from rfl) (show true = true from rfl))))
     ·replace hw19 := ite_f ha2 hw19
      replace hw19 := bs hw19
      obtain ⟨v16, hv16, hw19⟩ := hw19
      rcases ft (!v16) with ha3 | ha3
      ·replace hw19 := ite_t ha3 hw19
       have hw19 := oi hw19
       subst hw19
       exact (r_dq Try_mixed 22 [] [(0, .d false [.sl none (a0.map ePt)]), (9, .d false [.sl none (a0.map ePt)]), (10, .p (iV (a0.length : Int))), (11, .p (iV x11)), (41, .p (.bool true))] [(2, {call := some (none, [.p (.bool v15)], true)}), (5, gF), (6, gF), (7, {g := some false, call := some (none, [.p (.bool v16)], true)}), (8, gF), (9, bF), (11, gT), (12, gT), (13, gT), (24, gT), (25, bT)] (B6 (wk_spec_imCoord hv15) ha2 ha2 ha2 (wk_spec_imCoord hv16) ha2 (A6 ha2 ha3 ha3 ha3 ha3 ha3)))
      ·replace hw19 := ite_f ha3 hw19
       rcases ft (decide (x11 > 0)) with ha4 | ha4
       ·replace hw19 := ite_t ha4 hw19
        replace hw19 := bs hw19
        obtain ⟨v17, hv17, hw19⟩ := hw19
        replace hw19 := bs hw19
        obtain ⟨v18, hv18, hw19⟩ := hw19
        have hw19 := oi hw19
        subst hw19
        exact (r_dq Try_mixed 22 [] [(0, .d false [.sl none (a0.map ePt)]), (9, .d false [.sl none (a0.map ePt)]), (10, .p (iV (a0.length : Int))), (11, .p (iV x11)), (41, .p (.bool (decide (v18 ≥ 0))))] [(2, {call := some (none, [.p (.bool v15)], true)}), (5, gF), (6, gF), (7, {g := some false, call := some (none, [.p (.bool v16)], true)}), (8, gF), (9, bF), (11, gF), (12, gF), (13, gF), (14, gT), (15, gT), (16, gT), (17, {g := some true, row := some (ePt v17)}), (18, gT), (19, gT), (20, gT), (21, gT), (22, {g := some true, call := some (none, [.p (iV v18)], true)}), (23, gT), (24, {g := some false, b := some true}), (25, bF)] (B6 (wk_spec_imCoord hv15) ha2 ha2 ha2 (wk_spec_imCoord hv16) ha2 (B6 ha2 ha3 ha3 ha3 ha4 ha4 (B6 ha4 ha4 (idxO_some hv17).1 (map_get ePt (idxO_some hv17).2) ha4 ha4 (B6 ha4 ha4 ha4 (wk_spec_raCmp hv18) ha4 ha3 (A2 ha4 ha3))))))
       ·replace hw19 := ite_f ha4 hw19
        have hw19 := oi hw19
        subst hw19
        exact (r_dq Try_mixed 22 [] [(0, .d false [.sl none (a0.map ePt)]), (9, .d false [.sl none (a0.map ePt)]), (10, .p (iV (a0.length : Int))), (11, .p (iV x11)), (41, .p (.bool false))] [(2, {call := some (none, [.p (.bool v15)], true)}), (5, gF), (6, gF), (7, {g := some false, call := some (none, [.p (.bool v16)], true)}), (8, gF), (9, bF), (11, gF), (12, gF), (13, gF), (14, gF), (15, gF), (16, gF), (17, gF), (18, gF), (19, gF), (20, gF), (21, gF), (22, gF), (23, gF), (24, {g := some false, b := some false}), (25, bF)] (B6 (wk_spec_imCoord hv15) ha2 ha2 ha2 (wk_spec_imCoord hv16) ha2 (B6 ha2 ha3 ha3 ha3 ha4 ha4 (B6 ha4 ha4 ha4 ha4 ha4 ha4 (A5 ha4 ha4 ha3 ha4 ha3)))))
    ·refine kc w19 (fun hc6_19 => ?_) (fun hc6_19 => ?_)
     ·replace h := ite_t hc6_19 h
      refine k_sreg (r_gq [(2, .p (.bool false))] [] trivial) ?_
      refine k_ret ?_
      refine b_r ?_
      refine q_r ?_
      refine lq_r ?_
      refine b_r ?_
      refine q_r ?_
      have hyy := hy_x11 _ (oi h).symm
      subst hyy
      have h := hk_x11
      dsimp only [Sum.elim] at h
      obtain rfl := oi h
      exact er [(.p (.bool false), 2)]
     ·replace h := ite_f hc6_19 h
      refine k_skip ?_
      refine b_n ?_
      refine q_n ?_
      refine k_reg (r_gq [(0, .d false [.sl none (a0.map ePt)]), (9, .d false [.sl none (a0.map ePt)]), (10, .p (iV (a0.length : Int))), (11, .p (iV (w64 (x11 + 1))))] [] trivial) ?_
      exact lqn (w64 (x11 + 1)) h
   ·replace h := ite_f hc5_12 h
    refine k_exit ?_
    refine q_x ?_
    refine lq_x ?_
    refine b_x ?_
    have hyy := hy_x11 _ (oi h).symm
    subst hyy
    have h := hk_x11
    dsimp only [Sum.elim] at h
    refine q_n ?_
    exact jx () h
theorem wk_spec_ivGood {a0 : Qp}  {r : Bool} (h : spec_ivGood a0 = some r) : Meets Try.prog 131 [.v (vPt a0)] { vals := [.p (.bool r)] } := by
 refine mo Try.func131 [(0, .p (vPt a0))] ?_
 unfold spec_ivGood at h
 refine k_sreg (r_gq [(1, .box (ePt a0))] [] trivial) ?_
 replace h := bs h
 obtain ⟨v1, hv1, h⟩ := h
 replace h := bs h
 obtain ⟨w4, hw4, h⟩ := h
 refine k_sreg (l1 := [(2, .p (.bool w4))]) ?_ ?_
 ·clear h
  rcases ft v1 with ha0 | ha0
  ·replace hw4 := ite_t ha0 hw4
   replace hw4 := bs hw4
   obtain ⟨v2, hv2, hw4⟩ := hw4
   rcases ft v2 with ha1 | ha1
   ·replace hw4 := ite_t ha1 hw4
    replace hw4 := bs hw4
    obtain ⟨v3, hv3, hw4⟩ := hw4
    have hw4 := oi hw4
    subst hw4
    exact (r_gq [(2, .p (.bool (decide (v3 < 0))))] [(2, {call := some (none, [.p (.bool v1)], true)}), (4, gT), (5, gT), (6, {g := some true, call := some (none, [.p (.bool v2)], true)}), (7, bT), (9, gT), (10, gT), (11, gT), (12, gT), (13, {g := some true, call := some (none, [.p (iV v3)], true)}), (14, gT), (15, bT)] (B6 (wk_spec_raUnit hv1) ha0 ha0 ha0 (wk_spec_raUnit hv2) ha0 (B6 ha1 ha1 ha1 ha1 ha1 (wk_spec_raCmp hv3) (A2 ha1 ha1))))
   ·replace hw4 := ite_f ha1 hw4
    have hw4 := oi hw4
    subst hw4
    exact (r_gq [(2, .p (.bool false))] [(2, {call := some (none, [.p (.bool v1)], true)}), (4, gT), (5, gT), (6, {g := some true, call := some (none, [.p (.bool v2)], true)}), (7, bT), (9, gF), (10, gF), (11, gF), (12, gF), (13, gF), (14, gF), (15, bF)] (B6 (wk_spec_raUnit hv1) ha0 ha0 ha0 (wk_spec_raUnit hv2) ha0 (B6 ha1 ha1 ha1 ha1 ha1 ha1 (A1 ha1))))
  ·replace hw4 := ite_f ha0 hw4
   have hw4 := oi hw4
   subst hw4
   exact (r_gq [(2, .p (.bool false))] [(2, {call := some (none, [.p (.bool v1)], true)}), (4, gF), (5, gF), (6, gF), (7, bF), (9, gF), (10, gF), (11, gF), (12, gF), (13, gF), (14, gF), (15, bF)] (B6 (wk_spec_raUnit hv1) ha0 ha0 ha0 ha0 (show false = false from rfl) (A6 (show false = false from rfl) (show false = false from rfl) (show false = false from rfl) (show false = false from rfl) (show false = false from rfl) (show false = false from rfl))))
 ·refine k_ret ?_
  obtain rfl := oi h
  exact er [(.p (.bool w4), 2)]
theorem wk_spec_ivList {a0 : (List Qp)}  {r : Bool} (h : spec_ivList a0 = some r) : Meets Try.prog 106 [.d false [.sl none (a0.map ePt)]] { vals := [.p (.bool r)] } := by
 refine mo Try.func106 [(0, .d false [.sl none (a0.map ePt)])] ?_
 unfold spec_ivList at h
 refine k_sreg (r_gq [(0, .d false [.sl none (a0.map ePt)])] [] trivial) ?_
 refine k_join (J := fun (x : Unit) => [(0, .d false [.sl none (a0.map ePt)])]) (K := fun x => spec_ivList_k1 a0 x = some r) (fun x1 h => ?_) ?_
 ·unfold spec_ivList_k1 at h
  replace h := bs h
  obtain ⟨v2, hv2, h⟩ := h
  refine k_sreg (r_gq [(2, .p (.bool v2))] [(1, {n := some a0.length}), (2, {call := some (none, [.p (.bool v2)], true)})] (A2 (show (a0.map ePt).length = a0.length from (List.length_map ..)) (wk_spec_l1In hv2))) ?_
  refine k_ret ?_
  obtain rfl := oi h
  exact er [(.p (.bool v2), 2)]
 ·refine k_sreg (r_gq [(0, .d false [.sl none (a0.map ePt)]), (5, .d false [.sl none (a0.map ePt)]), (6, .p (iV (a0.length : Int))), (7, .p (iV 0))] [(1, {n := some a0.length})] (A1 (show (a0.map ePt).length = a0.length from (List.length_map ..)))) ?_
  refine k_block ?_
  obtain ⟨y4, hl_x3, hk_x3⟩ := bs h
  clear h
  refine k_loop (J := fun (x : Int) => [(0, .d false [.sl none (a0.map ePt)]), (5, .d false [.sl none (a0.map ePt)]), (6, .p (iV (a0.length : Int))), (7, .p (iV x))]) hl_x3 (wk_of (by kernel_rfl) (by kernel_rfl)) (fun x3 o_x3 h hy_x3 => ?_)
  unfold spec_ivList_b1 at h
  refine k_sreg (r_gq [(0, .d false [.sl none (a0.map ePt)]), (5, .d false [.sl none (a0.map ePt)]), (6, .p (iV (a0.length : Int))), (7, .p (iV x3)), (8, .p (.bool (decide (x3 < (a0.length : Int)))))] [] trivial) ?_
  refine k_seq ?_
  refine kc (decide (x3 < (a0.length : Int))) (fun hc5_4 => ?_) (fun hc5_4 => ?_)
  ·replace h := ite_t hc5_4 h
   refine k_skip ?_
   refine q_n ?_
   refine k_seq ?_
   refine k_block ?_
   replace h := bs h
   obtain ⟨v6, hv6, h⟩ := h
   refine k_sreg (r_gq [(0, .d false [.sl none (a0.map ePt)]), (4, .box (ePt v6)), (5, .d false [.sl none (a0.map ePt)]), (6, .p (iV (a0.length : Int))), (7, .p (iV x3))] [(0, {row := some (ePt v6)})] (A2 (idxO_some hv6).1 (map_get ePt (idxO_some hv6).2))) ?_
   replace h := bs h
   obtain ⟨v7, hv7, h⟩ := h
   refine k_sreg (r_gq [(0, .d false [.sl none (a0.map ePt)]), (5, .d false [.sl none (a0.map ePt)]), (6, .p (iV (a0.length : Int))), (7, .p (iV x3)), (13, .p (.bool (!v7)))] [(1, {call := some (none, [.p (.bool v7)], true)})] (A1 (wk_spec_ivGood hv7))) ?_
   refine kc (!v7) (fun hc6_7 => ?_) (fun hc6_7 => ?_)
   ·replace h := ite_t hc6_7 h
    refine k_sreg (r_gq [(2, .p (.bool false))] [] trivial) ?_
    refine k_ret ?_
    refine b_r ?_
    refine q_r ?_
    refine lq_r ?_
    refine b_r ?_
    refine q_r ?_
    have hyy := hy_x3 _ (oi h).symm
    subst hyy
    have h := hk_x3
    dsimp only [Sum.elim] at h
    obtain rfl := oi h
    exact er [(.p (.bool false), 2)]
   ·replace h := ite_f hc6_7 h
    refine k_skip ?_
    refine b_n ?_
    refine q_n ?_
    refine k_reg (r_gq [(0, .d false [.sl none (a0.map ePt)]), (5, .d false [.sl none (a0.map ePt)]), (6, .p (iV (a0.length : Int))), (7, .p (iV (w64 (x3 + 1))))] [] trivial) ?_
    exact lqn (w64 (x3 + 1)) h
  ·replace h := ite_f hc5_4 h
   refine k_exit ?_
   refine q_x ?_
   refine lq_x ?_
   refine b_x ?_
   have hyy := hy_x3 _ (oi h).symm
   subst hyy
   have h := hk_x3
   dsimp only [Sum.elim] at h
   refine q_n ?_
   exact jx () h
theorem wk_spec_chAsked {a0 : (List Qp)} {a1 : (List Qp)}  {r : Bool} (h : spec_chAsked a0 a1 = some r) : Meets Try.prog 77 [.d false [.sl none (a0.map ePt)], .d false [.sl none (a1.map ePt)]] { vals := [.p (.bool r)] } := by
 refine mo Try.func77 [(0, .d false [.sl none (a0.map ePt)]), (1, .d false [.sl none (a1.map ePt)])] ?_
 unfold spec_chAsked at h
 refine k_sreg (r_gq [(0, .d false [.sl none (a0.map ePt)]), (1, .d false [.sl none (a1.map ePt)])] [] trivial) ?_
 replace h := bs h
 obtain ⟨v1, hv1, h⟩ := h
 replace h := bs h
 obtain ⟨w3, hw3, h⟩ := h
 refine k_sreg (l1 := [(4, .p (.bool w3))]) ?_ ?_
 ·clear h
  rcases ft v1 with ha0 | ha0
  ·replace hw3 := ite_t ha0 hw3
   replace hw3 := bs hw3
   obtain ⟨v2, hv2, hw3⟩ := hw3
   have hw3 := oi hw3
   subst hw3
   exact (r_gq [(4, .p (.bool v2))] [(1, {call := some (none, [.p (.bool v1)], true)}), (3, gT), (4, {g := some true, call := some (none, [.p (.bool v2)], true)}), (5, bT)] (A5 (wk_spec_imGood hv1) ha0 ha0 (wk_spec_ivList hv2) ha0))
  ·replace hw3 := ite_f ha0 hw3
   have hw3 := oi hw3
   subst hw3
   exact (r_gq [(4, .p (.bool false))] [(1, {call := some (none, [.p (.bool v1)], true)}), (3, gF), (4, gF), (5, bF)] (A4 (wk_spec_imGood hv1) ha0 ha0 ha0))
 ·refine k_ret ?_
  obtain rfl := oi h
  exact er [(.p (.bool w3), 4)]
theorem wk_spec_foLength {a0 : Int}  {r : Bool} (h : spec_foLength a0 = some r) : Meets Try.prog 78 [wI a0] { vals := [.p (.bool r)] } := by
 refine mo Try.func78 [(0, .p (iV a0))] ?_
 unfold spec_foLength at h
 refine k_sreg (r_gq [(0, .p (iV a0))] [] trivial) ?_
 replace h := bs h
 obtain ⟨v1, hv1, h⟩ := h
 refine k_sreg (r_gq [(2, .p (.bool v1))] [(1, {call := some (none, [.p (.bool v1)], true)})] (A1 (wk_spec_l1In hv1))) ?_
 refine k_ret ?_
 obtain rfl := oi h
 exact er [(.p (.bool v1), 2)]
theorem wk_spec_imPiece {a0 : (List Qp)} {a1 : Qr}  {r : Int} (h : spec_imPiece a0 a1 = some r) : Meets Try.prog 129 [.d false [.sl none (a0.map ePt)], .v (vRt a1)] { vals := [.p (iV r)] } := by
 refine mo Try.func129 [(0, .d false [.sl none (a0.map ePt)]), (1, .p (vRt a1))] ?_
 unfold spec_imPiece at h
 refine k_sreg (r_gq [(0, .d false [.sl none (a0.map ePt)]), (3, .box (eRt a1))] [] trivial) ?_
 refine k_sreg (r_gq [(0, .d false [.sl none (a0.map ePt)]), (3, .box (eRt a1)), (5, .p (iV 0))] [] trivial) ?_
 refine k_join (J := fun (x : Int) => [(5, .p (iV x))]) (K := fun x => spec_imPiece_k1 x = some r) (fun x1 h => ?_) ?_
 ·unfold spec_imPiece_k1 at h
  refine k_sreg (r_gq [(4, .p (iV x1))] [] trivial) ?_
  refine k_ret ?_
  obtain rfl := oi h
  exact er [(.p (iV x1), 4)]
 ·refine k_block ?_
  obtain ⟨y3, hl_x2, hk_x2⟩ := bs h
  clear h
  refine k_loop (J := fun (x : Int) => [(0, .d false [.sl none (a0.map ePt)]), (3, .box (eRt a1)), (5, .p (iV x))]) hl_x2 (wk_of (by kernel_rfl) (by kernel_rfl)) (fun x2 o_x2 h hy_x2 => ?_)
  unfold spec_imPiece_b1 at h
  refine k_seq ?_
  replace h := bs h
  obtain ⟨w6, hw6, h⟩ := h
  refine k_sreg (l1 := [(0, .d false [.sl none (a0.map ePt)]), (3, .box (eRt a1)), (5, .p (iV x2)), (21, .p (.bool w6))]) ?_ ?_
  ·clear h
   rcases ft (decide ((w64 (x2 + 2)) < (a0.length : Int))) with ha0 | ha0
   ·replace hw6 := ite_t ha0 hw6
    replace hw6 := bs hw6
    obtain ⟨v4, hv4, hw6⟩ := hw6
    replace hw6 := bs hw6
    obtain ⟨v5, hv5, hw6⟩ := hw6
    have hw6 := oi hw6
    subst hw6
    exact (r_dq Try_mixed 13 [] [(0, .d false [.sl none (a0.map ePt)]), (3, .box (eRt a1)), (5, .p (iV x2)), (21, .p (.bool (decide (v5 < 0))))] [(3, {n := some a0.length}), (6, gT), (7, gT), (8, gT), (9, {g := some true, row := some (ePt v4)}), (10, gT), (11, gT), (12, gT), (13, {g := some true, call := some (none, [.p (iV v5)], true)}), (14, gT), (15, bT)] (B6 (show (a0.map ePt).length = a0.length from (List.length_map ..)) ha0 ha0 ha0 ha0 (idxO_some hv4).1 (B6 (map_get ePt (idxO_some hv4).2) ha0 ha0 ha0 ha0 (wk_spec_raCmp hv5) (A2 ha0 ha0))))
   ·replace hw6 := ite_f ha0 hw6
    have hw6 := oi hw6
    subst hw6
    exact (r_dq Try_mixed 13 [] [(0, .d false [.sl none (a0.map ePt)]), (3, .box (eRt a1)), (5, .p (iV x2)), (21, .p (.bool false))] [(3, {n := some a0.length}), (6, gF), (7, gF), (8, gF), (9, gF), (10, gF), (11, gF), (12, gF), (13, gF), (14, gF), (15, bF)] (B6 (show (a0.map ePt).length = a0.length from (List.length_map ..)) ha0 ha0 ha0 ha0 ha0 (A5 ha0 ha0 ha0 ha0 ha0)))
  ·refine kc w6 (fun hc5_6 => ?_) (fun hc5_6 => ?_)
   ·replace h := ite_t hc5_6 h
    refine k_skip ?_
    refine q_n ?_
    refine k_block ?_
    refine k_reg (r_gq [(0, .d false [.sl none (a0.map ePt)]), (3, .box (eRt a1)), (5, .p (iV (w64 (x2 + 1))))] [] trivial) ?_
    refine b_n ?_
    exact lqn (w64 (x2 + 1)) h
   ·replace h := ite_f hc5_6 h
    refine k_exit ?_
    refine q_x ?_
    refine lq_x ?_
    refine b_x ?_
    have hyy := hy_x2 _ (oi h).symm
    subst hyy
    have h := hk_x2
    refine q_n ?_
    exact jx x2 h
theorem wk_spec_raMake {a0 : Int} {a1 : Int}  {r : (Qr × Bool)} (h : spec_raMake a0 a1 = some r) : Meets Try.prog 115 [wI a0, wI a1] { vals := [.p (vRt r.1), .p (.bool r.2)] } := by
 refine mo Try.func115 [(0, .p (iV a0)), (1, .p (iV a1))] ?_
 unfold spec_raMake at h
 refine k_sreg (r_gq [(0, .p (iV a0)), (1, .p (iV a1)), (4, .box [rI 0, rI 0])] [] trivial) ?_
 refine k_seq ?_
 refine k_sreg (r_gq [(0, .p (iV a0)), (1, .p (iV a1)), (4, .box [rI 0, rI 0]), (9, .p (.bool (a1 == 0)))] [] trivial) ?_
 refine kc (a1 == 0) (fun hc2_0 => ?_) (fun hc2_0 => ?_)
 ·replace h := ite_t hc2_0 h
  refine k_sreg (r_gq [(4, .box [rI 0, rI 0]), (5, .p (.bool false))] [] trivial) ?_
  refine k_ret ?_
  refine q_r ?_
  obtain rfl := oi h
  exact er [(.p (.agg #[.int .i64 0, .int .i64 0]), 4), (.p (.bool false), 5)]
 ·replace h := ite_f hc2_0 h
  refine k_skip ?_
  refine q_n ?_
  replace h := bs h
  obtain ⟨v2, hv2, h⟩ := h
  replace h := bs h
  obtain ⟨v3, hv3, h⟩ := h
  replace h := bs h
  obtain ⟨v4, hv4, h⟩ := h
  refine k_sreg (r_gq [(0, .p (iV a0)), (1, .p (iV a1)), (4, .box [rI 0, rI 0]), (6, .p (iV v4))] [(1, {call := some (none, [.p (iV v2)], true)}), (3, {call := some (none, [.p (iV v3)], true)}), (4, {call := some (none, [.p (iV v4)], true)})] (A3 (wk_spec_l1Abs hv2) (wk_spec_l1Abs hv3) (wk_spec_raCommon hv4))) ?_
  refine k_join (J := fun (x : Int) => [(0, .p (iV a0)), (1, .p (iV a1)), (4, .box [rI 0, rI 0]), (6, .p (iV x))]) (K := fun x => spec_raMake_k1 a0 a1 x = some r) (fun x5 h => ?_) ?_
  ·unfold spec_raMake_k1 at h
   replace h := bs h
   obtain ⟨u6, hu6, h⟩ := h
   refine k_sreg (r_dq Try_mixed 8 [] [(4, .box [rI 0, rI 0]), (7, .box [rI (w64 (Int.tdiv a0 x5)), rI (w64 (Int.tdiv a1 x5))])] [] (A2 (guardO_some hu6) (guardO_some hu6))) ?_
   refine k_seq ?_
   replace h := bs h
   obtain ⟨v7, hv7, h⟩ := h
   refine k_sreg (r_gq [(4, .box [rI 0, rI 0]), (7, .box [rI (w64 (Int.tdiv a0 x5)), rI (w64 (Int.tdiv a1 x5))]), (29, .p (.bool (!v7)))] [(1, {call := some (none, [.p (.bool v7)], true)})] (A1 (wk_spec_raGood hv7))) ?_
   refine kc (!v7) (fun hc2_7 => ?_) (fun hc2_7 => ?_)
   ·replace h := ite_t hc2_7 h
    refine k_sreg (r_gq [(4, .box [rI 0, rI 0]), (5, .p (.bool false))] [] trivial) ?_
    refine k_ret ?_
    refine q_r ?_
    obtain rfl := oi h
    exact er [(.p (.agg #[.int .i64 0, .int .i64 0]), 4), (.p (.bool false), 5)]
   ·replace h := ite_f hc2_7 h
    refine k_skip ?_
    refine q_n ?_
    refine k_sreg (r_gq [(4, .box [rI (w64 (Int.tdiv a0 x5)), rI (w64 (Int.tdiv a1 x5))]), (5, .p (.bool true))] [] trivial) ?_
    refine k_ret ?_
    obtain rfl := oi h
    exact er [(.p (.agg #[.int .i64 (w64 (Int.tdiv a0 x5)), .int .i64 (w64 (Int.tdiv a1 x5))]), 4), (.p (.bool true), 5)]
  ·refine k_sreg (r_gq [(0, .p (iV a0)), (1, .p (iV a1)), (4, .box [rI 0, rI 0]), (6, .p (iV v4)), (17, .p (.bool (decide (a1 < 0))))] [] trivial) ?_
   refine kc (decide (a1 < 0)) (fun hc2_8 => ?_) (fun hc2_8 => ?_)
   ·replace h := ite_t hc2_8 h
    refine k_reg (r_gq [(0, .p (iV a0)), (1, .p (iV a1)), (4, .box [rI 0, rI 0]), (6, .p (iV (w64 (0 - v4))))] [] trivial) ?_
    refine q_n ?_
    exact jx (w64 (0 - v4)) h
   ·replace h := ite_f hc2_8 h
    refine k_skip ?_
    refine q_n ?_
    exact jx v4 h
theorem wk_spec_raSub {a0 : Qr} {a1 : Qr}  {r : (Qr × Bool)} (h : spec_raSub a0 a1 = some r) : Meets Try.prog 86 [.v (vRt a0), .v (vRt a1)] { vals := [.p (vRt r.1), .p (.bool r.2)] } := by
 refine mo Try.func86 [(0, .p (vRt a0)), (1, .p (vRt a1))] ?_
 unfold spec_raSub at h
 refine k_sreg (r_gq [(2, .box (eRt a0)), (3, .box (eRt a1)), (4, .box [rI 0, rI 0])] [] trivial) ?_
 replace h := bs h
 obtain ⟨v1, hv1, h⟩ := h
 refine k_sreg (r_gq [(4, .box (eRt v1.1)), (5, .p (.bool v1.2))] [(16, {call := some (none, [.p (vRt v1.1), .p (.bool v1.2)], true)})] (A1 (wk_spec_raMake hv1))) ?_
 refine k_ret ?_
 obtain rfl := oi h
 exact er [(.p (vRt v1.1), 4), (.p (.bool v1.2), 5)]
theorem wk_spec_raDiv {a0 : Qr} {a1 : Qr}  {r : (Qr × Bool)} (h : spec_raDiv a0 a1 = some r) : Meets Try.prog 143 [.v (vRt a0), .v (vRt a1)] { vals := [.p (vRt r.1), .p (.bool r.2)] } := by
 refine mo Try.func143 [(0, .p (vRt a0)), (1, .p (vRt a1))] ?_
 unfold spec_raDiv at h
 refine k_sreg (r_gq [(2, .box (eRt a0)), (3, .box (eRt a1)), (4, .box [rI 0, rI 0])] [] trivial) ?_
 refine k_seq ?_
 refine k_sreg (r_gq [(2, .box (eRt a0)), (3, .box (eRt a1)), (4, .box [rI 0, rI 0]), (8, .p (.bool (a1.1 == 0)))] [] trivial) ?_
 refine kc (a1.1 == 0) (fun hc2_0 => ?_) (fun hc2_0 => ?_)
 ·replace h := ite_t hc2_0 h
  refine k_sreg (r_gq [(4, .box [rI 0, rI 0]), (5, .p (.bool false))] [] trivial) ?_
  refine k_ret ?_
  refine q_r ?_
  obtain rfl := oi h
  exact er [(.p (.agg #[.int .i64 0, .int .i64 0]), 4), (.p (.bool false), 5)]
 ·replace h := ite_f hc2_0 h
  refine k_skip ?_
  refine q_n ?_
  replace h := bs h
  obtain ⟨v2, hv2, h⟩ := h
  refine k_sreg (r_gq [(4, .box (eRt v2.1)), (5, .p (.bool v2.2))] [(10, {call := some (none, [.p (vRt v2.1), .p (.bool v2.2)], true)})] (A1 (wk_spec_raMake hv2))) ?_
  refine k_ret ?_
  obtain rfl := oi h
  exact er [(.p (vRt v2.1), 4), (.p (.bool v2.2), 5)]
theorem wk_spec_imSlope {a0 : Qp} {a1 : Qp}  {r : Qr} (h : spec_imSlope a0 a1 = some r) : Meets Try.prog 122 [.v (vPt a0), .v (vPt a1)] { vals := [.p (vRt r)] } := by
 refine mo Try.func122 [(0, .p (vPt a0)), (1, .p (vPt a1))] ?_
 unfold spec_imSlope at h
 refine k_sreg (r_gq [(2, .box (ePt a0)), (3, .box (ePt a1)), (4, .box [rI 0, rI 0])] [] trivial) ?_
 replace h := bs h
 obtain ⟨v1, hv1, h⟩ := h
 refine k_sreg (r_gq [(2, .box (ePt a0)), (3, .box (ePt a1)), (4, .box [rI 0, rI 0]), (5, .box (eRt v1.1))] [(4, {call := some (none, [.p (vRt v1.1), .p (.bool v1.2)], true)})] (A1 (wk_spec_raSub hv1))) ?_
 replace h := bs h
 obtain ⟨v2, hv2, h⟩ := h
 refine k_sreg (r_gq [(4, .box [rI 0, rI 0]), (5, .box (eRt v1.1)), (7, .box (eRt v2.1))] [(4, {call := some (none, [.p (vRt v2.1), .p (.bool v2.2)], true)})] (A1 (wk_spec_raSub hv2))) ?_
 replace h := bs h
 obtain ⟨v3, hv3, h⟩ := h
 refine k_sreg (r_gq [(4, .box [rI 0, rI 0]), (9, .box (eRt v3.1))] [(2, {call := some (none, [.p (vRt v3.1), .p (.bool v3.2)], true)})] (A1 (wk_spec_raDiv hv3))) ?_
 refine k_sreg (r_gq [(4, .box (eRt v3.1))] [] trivial) ?_
 refine k_ret ?_
 obtain rfl := oi h
 exact er [(.p (vRt v3.1), 4)]
theorem wk_spec_raMul {a0 : Qr} {a1 : Qr}  {r : (Qr × Bool)} (h : spec_raMul a0 a1 = some r) : Meets Try.prog 152 [.v (vRt a0), .v (vRt a1)] { vals := [.p (vRt r.1), .p (.bool r.2)] } := by
 refine mo Try.func152 [(0, .p (vRt a0)), (1, .p (vRt a1))] ?_
 unfold spec_raMul at h
 refine k_sreg (r_gq [(2, .box (eRt a0)), (3, .box (eRt a1)), (4, .box [rI 0, rI 0])] [] trivial) ?_
 replace h := bs h
 obtain ⟨v1, hv1, h⟩ := h
 refine k_sreg (r_gq [(4, .box (eRt v1.1)), (5, .p (.bool v1.2))] [(10, {call := some (none, [.p (vRt v1.1), .p (.bool v1.2)], true)})] (A1 (wk_spec_raMake hv1))) ?_
 refine k_ret ?_
 obtain rfl := oi h
 exact er [(.p (vRt v1.1), 4), (.p (.bool v1.2), 5)]
theorem wk_spec_raAdd {a0 : Qr} {a1 : Qr}  {r : (Qr × Bool)} (h : spec_raAdd a0 a1 = some r) : Meets Try.prog 88 [.v (vRt a0), .v (vRt a1)] { vals := [.p (vRt r.1), .p (.bool r.2)] } := by
 refine mo Try.func88 [(0, .p (vRt a0)), (1, .p (vRt a1))] ?_
 unfold spec_raAdd at h
 refine k_sreg (r_gq [(2, .box (eRt a0)), (3, .box (eRt a1)), (4, .box [rI 0, rI 0])] [] trivial) ?_
 replace h := bs h
 obtain ⟨v1, hv1, h⟩ := h
 refine k_sreg (r_gq [(4, .box (eRt v1.1)), (5, .p (.bool v1.2))] [(16, {call := some (none, [.p (vRt v1.1), .p (.bool v1.2)], true)})] (A1 (wk_spec_raMake hv1))) ?_
 refine k_ret ?_
 obtain rfl := oi h
 exact er [(.p (vRt v1.1), 4), (.p (.bool v1.2), 5)]
theorem wk_spec_imOn {a0 : Qp} {a1 : Qp} {a2 : Qr}  {r : (Qr × Bool)} (h : spec_imOn a0 a1 a2 = some r) : Meets Try.prog 130 [.v (vPt a0), .v (vPt a1), .v (vRt a2)] { vals := [.p (vRt r.1), .p (.bool r.2)] } := by
 refine mo Try.func130 [(0, .p (vPt a0)), (1, .p (vPt a1)), (2, .p (vRt a2))] ?_
 unfold spec_imOn at h
 refine k_sreg (r_gq [(3, .box (ePt a0)), (4, .box (ePt a1)), (5, .box (eRt a2)), (6, .box [rI 0, rI 0])] [] trivial) ?_
 replace h := bs h
 obtain ⟨v1, hv1, h⟩ := h
 refine k_sreg (r_gq [(3, .box (ePt a0)), (4, .box (ePt a1)), (6, .box [rI 0, rI 0]), (8, .box (eRt v1.1)), (9, .p (.bool v1.2))] [(3, {call := some (none, [.p (vRt v1.1), .p (.bool v1.2)], true)})] (A1 (wk_spec_raSub hv1))) ?_
 replace h := bs h
 obtain ⟨v2, hv2, h⟩ := h
 replace h := bs h
 obtain ⟨v3, hv3, h⟩ := h
 refine k_sreg (r_dq Try_mixed 10 [(9, 10)] [(3, .box (ePt a0)), (6, .box [rI 0, rI 0]), (9, .p (.bool v1.2)), (10, .box (eRt v3.1)), (11, .p (.bool v3.2))] [(3, {call := some (none, [.p (vRt v2)], true)}), (4, {call := some (none, [.p (vRt v3.1), .p (.bool v3.2)], true)})] (A2 (wk_spec_imSlope hv2) (wk_spec_raMul hv3))) ?_
 refine k_seq ?_
 refine k_sreg (l1 := [(3, .box (ePt a0)), (6, .box [rI 0, rI 0]), (10, .box (eRt v3.1)), (32, .p (.bool ((!v1.2) || (!v3.2))))]) ?_ ?_
 ·rcases ft (!v1.2) with ha0 | ha0
  ·exact RegOk.of_eq (l2 := [(3, .box (ePt a0)), (6, .box [rI 0, rI 0]), (10, .box (eRt v3.1)), (32, .p (.bool ((!v1.2) || (!v3.2))))]) (r_gq [(3, .box (ePt a0)), (6, .box [rI 0, rI 0]), (10, .box (eRt v3.1)), (32, .p (.bool true))] [(3, gT), (4, gT), (5, bT)] (A3 ha0 ha0 ha0)) (by simp [ha0])
  ·exact RegOk.of_eq (l2 := [(3, .box (ePt a0)), (6, .box [rI 0, rI 0]), (10, .box (eRt v3.1)), (32, .p (.bool ((!v1.2) || (!v3.2))))]) (r_gq [(3, .box (ePt a0)), (6, .box [rI 0, rI 0]), (10, .box (eRt v3.1)), (32, .p (.bool (!v3.2)))] [(3, gF), (4, gF), (5, bF)] (A3 ha0 ha0 ha0)) (by simp [ha0])
 ·refine kc ((!v1.2) || (!v3.2)) (fun hc2_3 => ?_) (fun hc2_3 => ?_)
  ·replace h := ite_t hc2_3 h
   refine k_sreg (r_gq [(6, .box [rI 0, rI 0]), (7, .p (.bool false))] [] trivial) ?_
   refine k_ret ?_
   refine q_r ?_
   obtain rfl := oi h
   exact er [(.p (.agg #[.int .i64 0, .int .i64 0]), 6), (.p (.bool false), 7)]
  ·replace h := ite_f hc2_3 h
   refine k_skip ?_
   refine q_n ?_
   replace h := bs h
   obtain ⟨v5, hv5, h⟩ := h
   refine k_sreg (r_gq [(6, .box (eRt v5.1)), (7, .p (.bool v5.2))] [(3, {call := some (none, [.p (vRt v5.1), .p (.bool v5.2)], true)})] (A1 (wk_spec_raAdd hv5))) ?_
   refine k_ret ?_
   obtain rfl := oi h
   exact er [(.p (vRt v5.1), 6), (.p (.bool v5.2), 7)]
theorem wk_spec_imAt {a0 : (List Qp)} {a1 : Qr}  {r : (Qr × Bool)} (h : spec_imAt a0 a1 = some r) : Meets Try.prog 105 [.d false [.sl none (a0.map ePt)], .v (vRt a1)] { vals := [.p (vRt r.1), .p (.bool r.2)] } := by
 refine mo Try.func105 [(0, .d false [.sl none (a0.map ePt)]), (1, .p (vRt a1))] ?_
 unfold spec_imAt at h
 refine k_sreg (r_gq [(0, .d false [.sl none (a0.map ePt)]), (3, .box (eRt a1)), (4, .box [rI 0, rI 0])] [] trivial) ?_
 replace h := bs h
 obtain ⟨v1, hv1, h⟩ := h
 refine k_sreg (r_gq [(0, .d false [.sl none (a0.map ePt)]), (3, .box (eRt a1)), (4, .box [rI 0, rI 0]), (6, .p (iV v1))] [(2, {call := some (none, [.p (iV v1)], true)})] (A1 (wk_spec_imPiece hv1))) ?_
 replace h := bs h
 obtain ⟨v2, hv2, h⟩ := h
 replace h := bs h
 obtain ⟨v3, hv3, h⟩ := h
 replace h := bs h
 obtain ⟨v4, hv4, h⟩ := h
 refine k_sreg (r_dq Try_mixed 10 [] [(4, .box (eRt v4.1)), (5, .p (.bool v4.2))] [(2, {row := some (ePt v2)}), (7, {row := some (ePt v3)}), (10, {call := some (none, [.p (vRt v4.1), .p (.bool v4.2)], true)})] (A5 (idxO_some hv2).1 (map_get ePt (idxO_some hv2).2) (idxO_some hv3).1 (map_get ePt (idxO_some hv3).2) (wk_spec_imOn hv4))) ?_
 refine k_ret ?_
 obtain rfl := oi h
 exact er [(.p (vRt v4.1), 4), (.p (.bool v4.2), 5)]
theorem wk_spec_imImage {a0 : (List Qp)} {a1 : Qr} {a2 : Qr}  {r : (Qr × Qr × Bool)} (h : spec_imImage a0 a1 a2 = some r) : Meets Try.prog 132 [.d false [.sl none (a0.map ePt)], .v (vRt a1), .v (vRt a2)] { vals := [.p (vRt r.1), .p (vRt r.2.1), .p (.bool r.2.2)] } := by
 refine mo Try.func132 [(0, .d false [.sl none (a0.map ePt)]), (1, .p (vRt a1)), (2, .p (vRt a2))] ?_
 unfold spec_imImage at h
 refine k_sreg (r_gq [(0, .d false [.sl none (a0.map ePt)]), (4, .box (eRt a1)), (5, .box (eRt a2)), (6, .box [rI 0, rI 0]), (7, .box [rI 0, rI 0])] [] trivial) ?_
 replace h := bs h
 obtain ⟨v1, hv1, h⟩ := h
 refine k_sreg (r_gq [(0, .d false [.sl none (a0.map ePt)]), (4, .box (eRt a1)), (5, .box (eRt a2)), (6, .box [rI 0, rI 0]), (7, .box [rI 0, rI 0]), (9, .box (eRt v1.1)), (10, .p (.bool v1.2))] [(2, {call := some (none, [.p (vRt v1.1), .p (.bool v1.2)], true)})] (A1 (wk_spec_imAt hv1))) ?_
 replace h := bs h
 obtain ⟨v2, hv2, h⟩ := h
 refine k_sreg (r_gq [(0, .d false [.sl none (a0.map ePt)]), (4, .box (eRt a1)), (5, .box (eRt a2)), (6, .box [rI 0, rI 0]), (7, .box [rI 0, rI 0]), (9, .box (eRt v1.1)), (10, .p (.bool v1.2)), (11, .box (eRt v2.1)), (12, .p (.bool v2.2))] [(2, {call := some (none, [.p (vRt v2.1), .p (.bool v2.2)], true)})] (A1 (wk_spec_imAt hv2))) ?_
 refine k_seq ?_
 refine k_sreg (l1 := [(0, .d false [.sl none (a0.map ePt)]), (4, .box (eRt a1)), (5, .box (eRt a2)), (6, .box [rI 0, rI 0]), (7, .box [rI 0, rI 0]), (9, .box (eRt v1.1)), (11, .box (eRt v2.1)), (36, .p (.bool ((!v1.2) || (!v2.2))))]) ?_ ?_
 ·rcases ft (!v1.2) with ha0 | ha0
  ·exact RegOk.of_eq (l2 := [(0, .d false [.sl none (a0.map ePt)]), (4, .box (eRt a1)), (5, .box (eRt a2)), (6, .box [rI 0, rI 0]), (7, .box [rI 0, rI 0]), (9, .box (eRt v1.1)), (11, .box (eRt v2.1)), (36, .p (.bool ((!v1.2) || (!v2.2))))]) (r_gq [(0, .d false [.sl none (a0.map ePt)]), (4, .box (eRt a1)), (5, .box (eRt a2)), (6, .box [rI 0, rI 0]), (7, .box [rI 0, rI 0]), (9, .box (eRt v1.1)), (11, .box (eRt v2.1)), (36, .p (.bool true))] [(3, gT), (4, gT), (5, bT)] (A3 ha0 ha0 ha0)) (by simp [ha0])
  ·exact RegOk.of_eq (l2 := [(0, .d false [.sl none (a0.map ePt)]), (4, .box (eRt a1)), (5, .box (eRt a2)), (6, .box [rI 0, rI 0]), (7, .box [rI 0, rI 0]), (9, .box (eRt v1.1)), (11, .box (eRt v2.1)), (36, .p (.bool ((!v1.2) || (!v2.2))))]) (r_gq [(0, .d false [.sl none (a0.map ePt)]), (4, .box (eRt a1)), (5, .box (eRt a2)), (6, .box [rI 0, rI 0]), (7, .box [rI 0, rI 0]), (9, .box (eRt v1.1)), (11, .box (eRt v2.1)), (36, .p (.bool (!v2.2)))] [(3, gF), (4, gF), (5, bF)] (A3 ha0 ha0 ha0)) (by simp [ha0])
 ·refine kc ((!v1.2) || (!v2.2)) (fun hc2_2 => ?_) (fun hc2_2 => ?_)
  ·replace h := ite_t hc2_2 h
   refine k_sreg (r_gq [(6, .box [rI 0, rI 0]), (7, .box [rI 0, rI 0]), (8, .p (.bool false))] [] trivial) ?_
   refine k_ret ?_
   refine q_r ?_
   obtain rfl := oi h
   exact er [(.p (.agg #[.int .i64 0, .int .i64 0]), 6), (.p (.agg #[.int .i64 0, .int .i64 0]), 7), (.p (.bool false), 8)]
  ·replace h := ite_f hc2_2 h
   refine k_skip ?_
   refine q_n ?_
   refine k_sreg (r_gq [(0, .d false [.sl none (a0.map ePt)]), (4, .box (eRt a1)), (5, .box (eRt a2)), (6, .box [rI 0, rI 0]), (7, .box [rI 0, rI 0]), (9, .box (eRt v1.1)), (11, .box (eRt v2.1)), (13, .box (eRt v1.1))] [] trivial) ?_
   refine k_sreg (r_gq [(0, .d false [.sl none (a0.map ePt)]), (4, .box (eRt a1)), (5, .box (eRt a2)), (6, .box [rI 0, rI 0]), (7, .box [rI 0, rI 0]), (9, .box (eRt v1.1)), (13, .box (eRt v1.1)), (14, .ov false [.sl (some 25) (([v2.1]).map eRt)])] [] trivial) ?_
   refine k_join (J := fun (x : (List Qr)) => [(6, .box [rI 0, rI 0]), (7, .box [rI 0, rI 0]), (9, .box (eRt v1.1)), (13, .box (eRt v1.1)), (14, .ov false [.sl (some 25) (x.map eRt)])]) (K := fun x => spec_imImage_k1 v1 x = some r) (fun x4 h => ?_) ?_
   ·unfold spec_imImage_k1 at h
    refine k_join (J := fun (x : (Int × Int × Int × Int)) => [(6, .box [rI 0, rI 0]), (7, .box [rI 0, rI 0]), (9, .box [rI x.1, rI x.2.1]), (13, .box (eRt x.2.2))]) (K := fun x => spec_imImage_k2 x = some r) (fun x5 h => ?_) ?_
    ·unfold spec_imImage_k2 at h
     refine k_sreg (r_dq Try_mixed 3 [(2, 6)] [(6, .box [rI x5.1, rI x5.2.1]), (7, .box (eRt x5.2.2)), (8, .p (.bool true))] [] trivial) ?_
     refine k_ret ?_
     obtain rfl := oi h
     exact er [(.p (.agg #[.int .i64 x5.1, .int .i64 x5.2.1]), 6), (.p (vRt x5.2.2), 7), (.p (.bool true), 8)]
    ·refine k_sreg (r_gq [(6, .box [rI 0, rI 0]), (7, .box [rI 0, rI 0]), (9, .box (eRt v1.1)), (13, .box (eRt v1.1)), (14, .ov false [.sl (some 25) (x4.map eRt)]), (66, .ref 14 [(0, 0)] none), (67, .p (iV (x4.length : Int))), (68, .p (iV 0))] [(1, {n := some x4.length})] (A1 (show (x4.map eRt).length = x4.length from (List.length_map ..)))) ?_
     refine k_block ?_
     obtain ⟨y7, hl_x6, hk_x6⟩ := bs h
     clear h
     refine k_loop (J := fun (x : (Int × Int × Int × Int × Int)) => [(6, .box [rI 0, rI 0]), (7, .box [rI 0, rI 0]), (9, .box [rI x.1, rI x.2.1]), (13, .box [rI x.2.2.1, rI x.2.2.2.1]), (14, .ov false [.sl (some 25) (x4.map eRt)]), (66, .ref 14 [(0, 0)] none), (67, .p (iV (x4.length : Int))), (68, .p (iV x.2.2.2.2))]) hl_x6 (wk_of (by kernel_rfl) (by kernel_rfl)) (fun x6 o_x6 h hy_x6 => ?_)
     unfold spec_imImage_b1 at h
     refine k_sreg (r_gq [(6, .box [rI 0, rI 0]), (7, .box [rI 0, rI 0]), (9, .box [rI x6.1, rI x6.2.1]), (13, .box [rI x6.2.2.1, rI x6.2.2.2.1]), (14, .ov false [.sl (some 25) (x4.map eRt)]), (66, .ref 14 [(0, 0)] none), (67, .p (iV (x4.length : Int))), (68, .p (iV x6.2.2.2.2)), (69, .p (.bool (decide (x6.2.2.2.2 < (x4.length : Int)))))] [] trivial) ?_
     refine k_seq ?_
     refine kc (decide (x6.2.2.2.2 < (x4.length : Int))) (fun hc5_7 => ?_) (fun hc5_7 => ?_)
     ·replace h := ite_t hc5_7 h
      refine k_skip ?_
      refine q_n ?_
      refine k_seq ?_
      refine k_block ?_
      replace h := bs h
      obtain ⟨v9, hv9, h⟩ := h
      refine k_sreg (r_gq [(6, .box [rI 0, rI 0]), (7, .box [rI 0, rI 0]), (9, .box [rI x6.1, rI x6.2.1]), (13, .box [rI x6.2.2.1, rI x6.2.2.2.1]), (14, .ov false [.sl (some 25) (x4.map eRt)]), (18, .box (eRt v9)), (66, .ref 14 [(0, 0)] none), (67, .p (iV (x4.length : Int))), (68, .p (iV x6.2.2.2.2))] [(0, {row := some (eRt v9)}), (1, {row := some (eRt v9)})] (A3 (idxO_some hv9).1 (map_get eRt (idxO_some hv9).2) (show getRow [[.sl (some 25) (x4.map eRt)]] [(0, 0), ((Int.toNat x6.2.2.2.2), 0)] = some (eRt v9) from ((gr0 rfl).trans (gre (map_get eRt (idxO_some hv9).2)))))) ?_
      refine k_join (J := fun (x : Qr) => [(6, .box [rI 0, rI 0]), (7, .box [rI 0, rI 0]), (9, .box (eRt x)), (13, .box [rI x6.2.2.1, rI x6.2.2.2.1]), (14, .ov false [.sl (some 25) (x4.map eRt)]), (18, .box (eRt v9)), (66, .ref 14 [(0, 0)] none), (67, .p (iV (x4.length : Int))), (68, .p (iV x6.2.2.2.2))]) (K := fun x => spec_imImage_k3 x6 v9 x = some o_x6) (fun x10 h => ?_) ?_
      ·unfold spec_imImage_k3 at h
       replace h := bs h
       obtain ⟨v11, hv11, h⟩ := h
       refine k_sreg (r_gq [(6, .box [rI 0, rI 0]), (7, .box [rI 0, rI 0]), (9, .box (eRt x10)), (13, .box [rI x6.2.2.1, rI x6.2.2.2.1]), (14, .ov false [.sl (some 25) (x4.map eRt)]), (18, .box (eRt v9)), (66, .ref 14 [(0, 0)] none), (67, .p (iV (x4.length : Int))), (68, .p (iV x6.2.2.2.2)), (80, .p (.bool (decide (v11 < 0))))] [(2, {call := some (none, [.p (iV v11)], true)})] (A1 (wk_spec_raCmp hv11))) ?_
       refine kc (decide (v11 < 0)) (fun hc6_11 => ?_) (fun hc6_11 => ?_)
       ·replace h := ite_t hc6_11 h
        refine k_reg (r_gq [(6, .box [rI 0, rI 0]), (7, .box [rI 0, rI 0]), (9, .box (eRt x10)), (13, .box (eRt v9)), (14, .ov false [.sl (some 25) (x4.map eRt)]), (66, .ref 14 [(0, 0)] none), (67, .p (iV (x4.length : Int))), (68, .p (iV x6.2.2.2.2))] [] trivial) ?_
        refine b_n ?_
        refine q_n ?_
        refine k_reg (r_gq [(6, .box [rI 0, rI 0]), (7, .box [rI 0, rI 0]), (9, .box (eRt x10)), (13, .box (eRt v9)), (14, .ov false [.sl (some 25) (x4.map eRt)]), (66, .ref 14 [(0, 0)] none), (67, .p (iV (x4.length : Int))), (68, .p (iV (w64 (x6.2.2.2.2 + 1))))] [] trivial) ?_
        exact lqn (x10.1, x10.2, v9.1, v9.2, (w64 (x6.2.2.2.2 + 1))) h
       ·replace h := ite_f hc6_11 h
        refine k_skip ?_
        refine b_n ?_
        refine q_n ?_
        refine k_reg (r_gq [(6, .box [rI 0, rI 0]), (7, .box [rI 0, rI 0]), (9, .box (eRt x10)), (13, .box [rI x6.2.2.1, rI x6.2.2.2.1]), (14, .ov false [.sl (some 25) (x4.map eRt)]), (66, .ref 14 [(0, 0)] none), (67, .p (iV (x4.length : Int))), (68, .p (iV (w64 (x6.2.2.2.2 + 1))))] [] trivial) ?_
        exact lqn (x10.1, x10.2, x6.2.2.1, x6.2.2.2.1, (w64 (x6.2.2.2.2 + 1))) h
      ·replace h := bs h
       obtain ⟨v13, hv13, h⟩ := h
       refine k_sreg (r_gq [(6, .box [rI 0, rI 0]), (7, .box [rI 0, rI 0]), (9, .box [rI x6.1, rI x6.2.1]), (13, .box [rI x6.2.2.1, rI x6.2.2.2.1]), (14, .ov false [.sl (some 25) (x4.map eRt)]), (18, .box (eRt v9)), (66, .ref 14 [(0, 0)] none), (67, .p (iV (x4.length : Int))), (68, .p (iV x6.2.2.2.2)), (75, .p (.bool (decide (v13 < 0))))] [(2, {call := some (none, [.p (iV v13)], true)})] (A1 (wk_spec_raCmp hv13))) ?_
       refine kc (decide (v13 < 0)) (fun hc7_13 => ?_) (fun hc7_13 => ?_)
       ·replace h := ite_t hc7_13 h
        refine k_reg (r_gq [(6, .box [rI 0, rI 0]), (7, .box [rI 0, rI 0]), (9, .box (eRt v9)), (13, .box [rI x6.2.2.1, rI x6.2.2.2.1]), (14, .ov false [.sl (some 25) (x4.map eRt)]), (18, .box (eRt v9)), (66, .ref 14 [(0, 0)] none), (67, .p (iV (x4.length : Int))), (68, .p (iV x6.2.2.2.2))] [] trivial) ?_
        refine q_n ?_
        exact jx v9 h
       ·replace h := ite_f hc7_13 h
        refine k_skip ?_
        refine q_n ?_
        exact jx (x6.1, x6.2.1) h
     ·replace h := ite_f hc5_7 h
      refine k_exit ?_
      refine q_x ?_
      refine lq_x ?_
      refine b_x ?_
      have hyy := hy_x6 _ (oi h).symm
      subst hyy
      have h := hk_x6
      refine q_n ?_
      exact jx (x6.1, x6.2.1, x6.2.2.1, x6.2.2.2.1) h
   ·refine k_sreg (r_gq [(4, .box (eRt a1)), (5, .box (eRt a2)), (6, .box [rI 0, rI 0]), (7, .box [rI 0, rI 0]), (9, .box (eRt v1.1)), (13, .box (eRt v1.1)), (14, .ov false [.sl (some 25) (([v2.1]).map eRt)]), (42, .d false [.sl none (a0.map ePt)]), (43, .p (iV (a0.length : Int))), (44, .p (iV 0))] [(1, {n := some a0.length})] (A1 (show (a0.map ePt).length = a0.length from (List.length_map ..)))) ?_
    refine k_block ?_
    obtain ⟨y16, hl_x15, hk_x15⟩ := bs h
    clear h
    refine k_loop (J := fun (x : ((List Qr) × Int)) => [(4, .box (eRt a1)), (5, .box (eRt a2)), (6, .box [rI 0, rI 0]), (7, .box [rI 0, rI 0]), (9, .box (eRt v1.1)), (13, .box (eRt v1.1)), (14, .ov false [.sl (some 25) (x.1.map eRt)]), (42, .d false [.sl none (a0.map ePt)]), (43, .p (iV (a0.length : Int))), (44, .p (iV x.2))]) hl_x15 (wk_of (by kernel_rfl) (by kernel_rfl)) (fun x15 o_x15 h hy_x15 => ?_)
    unfold spec_imImage_b2 at h
    refine k_sreg (r_gq [(4, .box (eRt a1)), (5, .box (eRt a2)), (6, .box [rI 0, rI 0]), (7, .box [rI 0, rI 0]), (9, .box (eRt v1.1)), (13, .box (eRt v1.1)), (14, .ov false [.sl (some 25) (x15.1.map eRt)]), (42, .d false [.sl none (a0.map ePt)]), (43, .p (iV (a0.length : Int))), (44, .p (iV x15.2)), (45, .p (.bool (decide (x15.2 < (a0.length : Int)))))] [] trivial) ?_
    refine k_seq ?_
    refine kc (decide (x15.2 < (a0.length : Int))) (fun hc5_16 => ?_) (fun hc5_16 => ?_)
    ·replace h := ite_t hc5_16 h
     refine k_skip ?_
     refine q_n ?_
     refine k_seq ?_
     refine k_block ?_
     replace h := bs h
     obtain ⟨v18, hv18, h⟩ := h
     refine k_sreg (r_gq [(4, .box (eRt a1)), (5, .box (eRt a2)), (6, .box [rI 0, rI 0]), (7, .box [rI 0, rI 0]), (9, .box (eRt v1.1)), (13, .box (eRt v1.1)), (14, .ov false [.sl (some 25) (x15.1.map eRt)]), (16, .box (ePt v18)), (42, .d false [.sl none (a0.map ePt)]), (43, .p (iV (a0.length : Int))), (44, .p (iV x15.2))] [(0, {row := some (ePt v18)})] (A2 (idxO_some hv18).1 (map_get ePt (idxO_some hv18).2))) ?_
     replace h := bs h
     obtain ⟨v19, hv19, h⟩ := h
     replace h := bs h
     obtain ⟨w21, hw21, h⟩ := h
     refine k_sreg (l1 := [(4, .box (eRt a1)), (5, .box (eRt a2)), (6, .box [rI 0, rI 0]), (7, .box [rI 0, rI 0]), (9, .box (eRt v1.1)), (13, .box (eRt v1.1)), (14, .ov false [.sl (some 25) (x15.1.map eRt)]), (16, .box (ePt v18)), (42, .d false [.sl none (a0.map ePt)]), (43, .p (iV (a0.length : Int))), (44, .p (iV x15.2)), (59, .p (.bool w21))]) ?_ ?_
     ·clear h
      rcases ft (decide (v19 < 0)) with ha2 | ha2
      ·replace hw21 := ite_t ha2 hw21
       replace hw21 := bs hw21
       obtain ⟨v20, hv20, hw21⟩ := hw21
       have hw21 := oi hw21
       subst hw21
       exact (r_gq [(4, .box (eRt a1)), (5, .box (eRt a2)), (6, .box [rI 0, rI 0]), (7, .box [rI 0, rI 0]), (9, .box (eRt v1.1)), (13, .box (eRt v1.1)), (14, .ov false [.sl (some 25) (x15.1.map eRt)]), (16, .box (ePt v18)), (42, .d false [.sl none (a0.map ePt)]), (43, .p (iV (a0.length : Int))), (44, .p (iV x15.2)), (59, .p (.bool (decide (v20 < 0))))] [(3, {call := some (none, [.p (iV v19)], true)}), (6, gT), (7, gT), (8, gT), (9, {g := some true, call := some (none, [.p (iV v20)], true)}), (10, gT), (11, bT)] (B6 (wk_spec_raCmp hv19) ha2 ha2 ha2 ha2 (wk_spec_raCmp hv20) (A2 ha2 ha2)))
      ·replace hw21 := ite_f ha2 hw21
       have hw21 := oi hw21
       subst hw21
       exact (r_gq [(4, .box (eRt a1)), (5, .box (eRt a2)), (6, .box [rI 0, rI 0]), (7, .box [rI 0, rI 0]), (9, .box (eRt v1.1)), (13, .box (eRt v1.1)), (14, .ov false [.sl (some 25) (x15.1.map eRt)]), (16, .box (ePt v18)), (42, .d false [.sl none (a0.map ePt)]), (43, .p (iV (a0.length : Int))), (44, .p (iV x15.2)), (59, .p (.bool false))] [(3, {call := some (none, [.p (iV v19)], true)}), (6, gF), (7, gF), (8, gF), (9, gF), (10, gF), (11, bF)] (B6 (wk_spec_raCmp hv19) ha2 ha2 ha2 ha2 ha2 (A1 ha2)))
     ·refine kc w21 (fun hc6_21 => ?_) (fun hc6_21 => ?_)
      ·replace h := ite_t hc6_21 h
       replace h := bs h
       obtain ⟨u23, hu23, h⟩ := h
       refine k_reg (r_gq [(4, .box (eRt a1)), (5, .box (eRt a2)), (6, .box [rI 0, rI 0]), (7, .box [rI 0, rI 0]), (9, .box (eRt v1.1)), (13, .box (eRt v1.1)), (14, .ov false [.sl (some 25) ((x15.1 ++ [v18.2]).map eRt)]), (42, .d false [.sl none (a0.map ePt)]), (43, .p (iV (a0.length : Int))), (44, .p (iV x15.2))] [(4, {fix := some (64, .ov false [.sl (some 25) ((x15.1 ++ [v18.2]).map eRt)])})] (A3 (show List.length ((x15.1.map eRt) : List (List C)) + List.length ((([v18.2]).map eRt) : List (List C)) ≤ 1099511627776 from (by have hg := (guardO_some hu23); simpa using hg)) (show ∀ row ∈ ((([v18.2]).map eRt) : List (List C)), row.length = 2 from (rows_len fun _ => rfl)) (show (SV.ov false [.sl (some 25) ((x15.1.map eRt) ++ (([v18.2]).map eRt))] : SV) = .ov false [.sl (some 25) ((x15.1 ++ [v18.2]).map eRt)] from (congrArg (fun z => SV.ov false [.sl (some 25) z]) (List.map_append ..).symm)))) ?_
       refine b_n ?_
       refine q_n ?_
       refine k_reg (r_gq [(4, .box (eRt a1)), (5, .box (eRt a2)), (6, .box [rI 0, rI 0]), (7, .box [rI 0, rI 0]), (9, .box (eRt v1.1)), (13, .box (eRt v1.1)), (14, .ov false [.sl (some 25) ((x15.1 ++ [v18.2]).map eRt)]), (42, .d false [.sl none (a0.map ePt)]), (43, .p (iV (a0.length : Int))), (44, .p (iV (w64 (x15.2 + 1))))] [] trivial) ?_
       exact lqn ((x15.1 ++ [v18.2]), (w64 (x15.2 + 1))) h
      ·replace h := ite_f hc6_21 h
       refine k_skip ?_
       refine b_n ?_
       refine q_n ?_
       refine k_reg (r_gq [(4, .box (eRt a1)), (5, .box (eRt a2)), (6, .box [rI 0, rI 0]), (7, .box [rI 0, rI 0]), (9, .box (eRt v1.1)), (13, .box (eRt v1.1)), (14, .ov false [.sl (some 25) (x15.1.map eRt)]), (42, .d false [.sl none (a0.map ePt)]), (43, .p (iV (a0.length : Int))), (44, .p (iV (w64 (x15.2 + 1))))] [] trivial) ?_
       exact lqn (x15.1, (w64 (x15.2 + 1))) h
    ·replace h := ite_f hc5_16 h
     refine k_exit ?_
     refine q_x ?_
     refine lq_x ?_
     refine b_x ?_
     have hyy := hy_x15 _ (oi h).symm
     subst hyy
     have h := hk_x15
     refine q_n ?_
     exact jx x15.1 h
theorem wk_spec_ivCovers {a0 : (List Qp)} {a1 : Qp} {a2 : Qp}  {r : (Bool × Bool)} (h : spec_ivCovers a0 a1 a2 = some r) : Meets Try.prog 107 [.d false [.sl none (a0.map ePt)], .v (vPt a1), .v (vPt a2)] { vals := [.p (.bool r.1), .p (.bool r.2)] } := by
 refine mo Try.func107 [(0, .d false [.sl none (a0.map ePt)]), (1, .p (vPt a1)), (2, .p (vPt a2))] ?_
 unfold spec_ivCovers at h
 refine k_sreg (r_gq [(0, .d false [.sl none (a0.map ePt)]), (4, .box (ePt a1)), (5, .box (ePt a2))] [] trivial) ?_
 replace h := bs h
 obtain ⟨v1, hv1, h⟩ := h
 refine k_sreg (r_gq [(5, .box (ePt a2)), (8, .box (eRt v1.1)), (9, .box (eRt v1.2.1)), (10, .p (.bool v1.2.2))] [(5, {call := some (none, [.p (vRt v1.1), .p (vRt v1.2.1), .p (.bool v1.2.2)], true)})] (A1 (wk_spec_imImage hv1))) ?_
 refine k_seq ?_
 refine k_sreg (r_gq [(5, .box (ePt a2)), (8, .box (eRt v1.1)), (9, .box (eRt v1.2.1)), (22, .p (.bool (!v1.2.2)))] [] trivial) ?_
 refine kc (!v1.2.2) (fun hc2_1 => ?_) (fun hc2_1 => ?_)
 ·replace h := ite_t hc2_1 h
  refine k_sreg (r_gq [(6, .p (.bool false)), (7, .p (.bool false))] [] trivial) ?_
  refine k_ret ?_
  refine q_r ?_
  obtain rfl := oi h
  exact er [(.p (.bool false), 6), (.p (.bool false), 7)]
 ·replace h := ite_f hc2_1 h
  refine k_skip ?_
  refine q_n ?_
  replace h := bs h
  obtain ⟨v3, hv3, h⟩ := h
  replace h := bs h
  obtain ⟨w5, hw5, h⟩ := h
  refine k_sreg (l1 := [(6, .p (.bool w5)), (7, .p (.bool true))]) ?_ ?_
  ·clear h
   rcases ft (decide (v3 ≤ 0)) with ha1 | ha1
   ·replace hw5 := ite_t ha1 hw5
    replace hw5 := bs hw5
    obtain ⟨v4, hv4, hw5⟩ := hw5
    have hw5 := oi hw5
    subst hw5
    exact (r_gq [(6, .p (.bool (decide (v4 ≤ 0)))), (7, .p (.bool true))] [(3, {call := some (none, [.p (iV v3)], true)}), (6, gT), (7, gT), (8, gT), (9, {g := some true, call := some (none, [.p (iV v4)], true)}), (10, gT), (11, bT)] (B6 (wk_spec_raCmp hv3) ha1 ha1 ha1 ha1 (wk_spec_raCmp hv4) (A2 ha1 ha1)))
   ·replace hw5 := ite_f ha1 hw5
    have hw5 := oi hw5
    subst hw5
    exact (r_gq [(6, .p (.bool false)), (7, .p (.bool true))] [(3, {call := some (none, [.p (iV v3)], true)}), (6, gF), (7, gF), (8, gF), (9, gF), (10, gF), (11, bF)] (B6 (wk_spec_raCmp hv3) ha1 ha1 ha1 ha1 ha1 (A1 ha1)))
  ·refine k_ret ?_
   obtain rfl := oi h
   exact er [(.p (.bool w5), 6), (.p (.bool true), 7)]
theorem wk_spec_CoverGraph {a0 : (List Qp)} {a1 : (List Qp)}  {r : ((List (List Int)) × Bool)} (h : spec_CoverGraph a0 a1 = some r) : Meets Try.prog 79 [.d false [.sl none (a0.map ePt)], .d false [.sl none (a1.map ePt)]] { vals := [.ov false [.sl (some 42) (r.1.map (eO 3 eI))], .p (.bool r.2)] } := by
 refine mo Try.func79 [(0, .d false [.sl none (a0.map ePt)]), (1, .d false [.sl none (a1.map ePt)])] ?_
 unfold spec_CoverGraph at h
 refine k_sreg (r_gq [(0, .d false [.sl none (a0.map ePt)]), (1, .d false [.sl none (a1.map ePt)])] [] trivial) ?_
 refine k_seq ?_
 replace h := bs h
 obtain ⟨v1, hv1, h⟩ := h
 replace h := bs h
 obtain ⟨w3, hw3, h⟩ := h
 refine k_sreg (l1 := [(0, .d false [.sl none (a0.map ePt)]), (1, .d false [.sl none (a1.map ePt)]), (22, .p (.bool w3))]) ?_ ?_
 ·clear h
  rcases ft (!v1) with ha0 | ha0
  ·replace hw3 := ite_t ha0 hw3
   have hw3 := oi hw3
   subst hw3
   exact (r_gq [(0, .d false [.sl none (a0.map ePt)]), (1, .d false [.sl none (a1.map ePt)]), (22, .p (.bool true))] [(1, {call := some (none, [.p (.bool v1)], true)}), (4, gT), (5, gT), (6, gT), (7, bT)] (A5 (wk_spec_imGood hv1) ha0 ha0 ha0 ha0))
  ·replace hw3 := ite_f ha0 hw3
   replace hw3 := bs hw3
   obtain ⟨v2, hv2, hw3⟩ := hw3
   have hw3 := oi hw3
   subst hw3
   exact (r_gq [(0, .d false [.sl none (a0.map ePt)]), (1, .d false [.sl none (a1.map ePt)]), (22, .p (.bool (!v2)))] [(1, {call := some (none, [.p (.bool v1)], true)}), (4, gF), (5, {g := some false, call := some (none, [.p (.bool v2)], true)}), (6, gF), (7, bF)] (A6 (wk_spec_imGood hv1) ha0 ha0 (wk_spec_ivList hv2) ha0 ha0))
 ·refine kc w3 (fun hc2_3 => ?_) (fun hc2_3 => ?_)
  ·replace h := ite_t hc2_3 h
   refine k_sreg (r_gq [(4, .ov false [.sl (some 42) []]), (5, .p (.bool false))] [] trivial) ?_
   refine k_ret ?_
   refine q_r ?_
   obtain rfl := oi h
   exact er [(.ov false [.sl (some 42) []], 4), (.p (.bool false), 5)]
  ·replace h := ite_f hc2_3 h
   refine k_skip ?_
   refine q_n ?_
   refine k_sreg (r_gq [(0, .d false [.sl none (a0.map ePt)]), (1, .d false [.sl none (a1.map ePt)]), (6, .ov false [.sl (some 42) []])] [] trivial) ?_
   refine k_join (J := fun (x : (List (List Int))) => [(6, .ov false [.sl (some 42) (x.map (eO 3 eI))])]) (K := fun x => spec_CoverGraph_k1 x = some r) (fun x5 h => ?_) ?_
   ·unfold spec_CoverGraph_k1 at h
    refine k_sreg (r_gq [(4, .ov false [.sl (some 42) (x5.map (eO 3 eI))]), (5, .p (.bool true))] [] trivial) ?_
    refine k_ret ?_
    obtain rfl := oi h
    exact er [(.ov false [.sl (some 42) (x5.map (eO 3 eI))], 4), (.p (.bool true), 5)]
   ·refine k_sreg (r_gq [(0, .d false [.sl none (a0.map ePt)]), (1, .d false [.sl none (a1.map ePt)]), (6, .ov false [.sl (some 42) []]), (23, .d false [.sl none (a1.map ePt)]), (24, .p (iV (a1.length : Int))), (25, .p (iV 0))] [(1, {n := some a1.length})] (A1 (show (a1.map ePt).length = a1.length from (List.length_map ..)))) ?_
    refine k_block ?_
    obtain ⟨y7, hl_x6, hk_x6⟩ := bs h
    clear h
    refine k_loop (J := fun (x : ((List (List Int)) × Int)) => [(0, .d false [.sl none (a0.map ePt)]), (1, .d false [.sl none (a1.map ePt)]), (6, .ov false [.sl (some 42) (x.1.map (eO 3 eI))]), (23, .d false [.sl none (a1.map ePt)]), (24, .p (iV (a1.length : Int))), (25, .p (iV x.2))]) hl_x6 (wk_of (by kernel_rfl) (by kernel_rfl)) (fun x6 o_x6 h hy_x6 => ?_)
    unfold spec_CoverGraph_b1 at h
    refine k_sreg (r_gq [(0, .d false [.sl none (a0.map ePt)]), (1, .d false [.sl none (a1.map ePt)]), (6, .ov false [.sl (some 42) (x6.1.map (eO 3 eI))]), (23, .d false [.sl none (a1.map ePt)]), (24, .p (iV (a1.length : Int))), (25, .p (iV x6.2)), (26, .p (.bool (decide (x6.2 < (a1.length : Int)))))] [] trivial) ?_
    refine k_seq ?_
    refine kc (decide (x6.2 < (a1.length : Int))) (fun hc5_7 => ?_) (fun hc5_7 => ?_)
    ·replace h := ite_t hc5_7 h
     refine k_skip ?_
     refine q_n ?_
     refine k_join (J := fun (x : (List (List Int))) => [(0, .d false [.sl none (a0.map ePt)]), (1, .d false [.sl none (a1.map ePt)]), (6, .ov false [.sl (some 42) (x.map (eO 3 eI))]), (23, .d false [.sl none (a1.map ePt)]), (24, .p (iV (a1.length : Int))), (25, .p (iV x6.2))]) (K := fun x => spec_CoverGraph_k2 x6 x = some o_x6) (fun x9 h => ?_) ?_
     ·unfold spec_CoverGraph_k2 at h
      refine k_reg (r_gq [(0, .d false [.sl none (a0.map ePt)]), (1, .d false [.sl none (a1.map ePt)]), (6, .ov false [.sl (some 42) (x9.map (eO 3 eI))]), (23, .d false [.sl none (a1.map ePt)]), (24, .p (iV (a1.length : Int))), (25, .p (iV (w64 (x6.2 + 1))))] [] trivial) ?_
      exact lqn (x9, (w64 (x6.2 + 1))) h
     ·refine k_block ?_
      replace h := bs h
      obtain ⟨v10, hv10, h⟩ := h
      refine k_sreg (r_gq [(0, .d false [.sl none (a0.map ePt)]), (1, .d false [.sl none (a1.map ePt)]), (6, .ov false [.sl (some 42) (x6.1.map (eO 3 eI))]), (8, .box (ePt v10)), (23, .d false [.sl none (a1.map ePt)]), (24, .p (iV (a1.length : Int))), (25, .p (iV x6.2))] [(0, {row := some (ePt v10)})] (A2 (idxO_some hv10).1 (map_get ePt (idxO_some hv10).2))) ?_
      refine k_sreg (r_gq [(0, .d false [.sl none (a0.map ePt)]), (1, .d false [.sl none (a1.map ePt)]), (6, .ov false [.sl (some 42) (x6.1.map (eO 3 eI))]), (8, .box (ePt v10)), (9, .ov false [.sl (some 3) []]), (23, .d false [.sl none (a1.map ePt)]), (24, .p (iV (a1.length : Int))), (25, .p (iV x6.2))] [] trivial) ?_
      refine k_join (J := fun (x : (List Int)) => [(0, .d false [.sl none (a0.map ePt)]), (1, .d false [.sl none (a1.map ePt)]), (6, .ov false [.sl (some 42) (x6.1.map (eO 3 eI))]), (9, .ov false [.sl (some 3) (x.map eI)]), (23, .d false [.sl none (a1.map ePt)]), (24, .p (iV (a1.length : Int))), (25, .p (iV x6.2))]) (K := fun x => spec_CoverGraph_k3 x6 x = some o_x6) (fun x11 h => ?_) ?_
      ·unfold spec_CoverGraph_k3 at h
       replace h := bs h
       obtain ⟨u12, hu12, h⟩ := h
       refine k_reg (r_gq [(0, .d false [.sl none (a0.map ePt)]), (1, .d false [.sl none (a1.map ePt)]), (6, .ov false [.sl (some 42) ((x6.1 ++ [x11]).map (eO 3 eI))]), (23, .d false [.sl none (a1.map ePt)]), (24, .p (iV (a1.length : Int))), (25, .p (iV x6.2))] [(3, {fix := some (53, .ov false [.sl (some 42) ((x6.1 ++ [x11]).map (eO 3 eI))])})] (A3 (show List.length ((x6.1.map (eO 3 eI)) : List (List C)) + List.length ((([x11]).map (eO 3 eI)) : List (List C)) ≤ 1099511627776 from (by have hg := (guardO_some hu12); simpa using hg)) (show ∀ row ∈ ((([x11]).map (eO 3 eI)) : List (List C)), row.length = 1 from (rows_len fun _ => rfl)) (show (SV.ov false [.sl (some 42) ((x6.1.map (eO 3 eI)) ++ (([x11]).map (eO 3 eI)))] : SV) = .ov false [.sl (some 42) ((x6.1 ++ [x11]).map (eO 3 eI))] from (congrArg (fun z => SV.ov false [.sl (some 42) z]) (List.map_append ..).symm)))) ?_
       refine b_n ?_
       refine q_n ?_
       exact jx (x6.1 ++ [x11]) h
      ·refine k_sreg (r_gq [(0, .d false [.sl none (a0.map ePt)]), (1, .d false [.sl none (a1.map ePt)]), (6, .ov false [.sl (some 42) (x6.1.map (eO 3 eI))]), (8, .box (ePt v10)), (9, .ov false [.sl (some 3) []]), (23, .d false [.sl none (a1.map ePt)]), (24, .p (iV (a1.length : Int))), (25, .p (iV x6.2)), (29, .d false [.sl none (a1.map ePt)]), (30, .p (iV (a1.length : Int))), (31, .p (iV 0))] [(1, {n := some a1.length})] (A1 (show (a1.map ePt).length = a1.length from (List.length_map ..)))) ?_
       refine k_block ?_
       obtain ⟨y14, hl_x13, hk_x13⟩ := bs h
       clear h
       refine k_loop (J := fun (x : ((List Int) × Int)) => [(0, .d false [.sl none (a0.map ePt)]), (1, .d false [.sl none (a1.map ePt)]), (6, .ov false [.sl (some 42) (x6.1.map (eO 3 eI))]), (8, .box (ePt v10)), (9, .ov false [.sl (some 3) (x.1.map eI)]), (23, .d false [.sl none (a1.map ePt)]), (24, .p (iV (a1.length : Int))), (25, .p (iV x6.2)), (29, .d false [.sl none (a1.map ePt)]), (30, .p (iV (a1.length : Int))), (31, .p (iV x.2))]) hl_x13 (wk_of (by kernel_rfl) (by kernel_rfl)) (fun x13 o_x13 h hy_x13 => ?_)
       unfold spec_CoverGraph_b2 at h
       refine k_sreg (r_gq [(0, .d false [.sl none (a0.map ePt)]), (1, .d false [.sl none (a1.map ePt)]), (6, .ov false [.sl (some 42) (x6.1.map (eO 3 eI))]), (8, .box (ePt v10)), (9, .ov false [.sl (some 3) (x13.1.map eI)]), (23, .d false [.sl none (a1.map ePt)]), (24, .p (iV (a1.length : Int))), (25, .p (iV x6.2)), (29, .d false [.sl none (a1.map ePt)]), (30, .p (iV (a1.length : Int))), (31, .p (iV x13.2)), (32, .p (.bool (decide (x13.2 < (a1.length : Int)))))] [] trivial) ?_
       refine k_seq ?_
       refine kc (decide (x13.2 < (a1.length : Int))) (fun hc10_14 => ?_) (fun hc10_14 => ?_)
       ·replace h := ite_t hc10_14 h
        refine k_skip ?_
        refine q_n ?_
        refine k_seq ?_
        refine k_block ?_
        replace h := bs h
        obtain ⟨v16, hv16, h⟩ := h
        refine k_sreg (r_gq [(0, .d false [.sl none (a0.map ePt)]), (1, .d false [.sl none (a1.map ePt)]), (6, .ov false [.sl (some 42) (x6.1.map (eO 3 eI))]), (8, .box (ePt v10)), (9, .ov false [.sl (some 3) (x13.1.map eI)]), (11, .box (ePt v16)), (23, .d false [.sl none (a1.map ePt)]), (24, .p (iV (a1.length : Int))), (25, .p (iV x6.2)), (29, .d false [.sl none (a1.map ePt)]), (30, .p (iV (a1.length : Int))), (31, .p (iV x13.2))] [(0, {row := some (ePt v16)})] (A2 (idxO_some hv16).1 (map_get ePt (idxO_some hv16).2))) ?_
        replace h := bs h
        obtain ⟨v17, hv17, h⟩ := h
        refine k_sreg (r_gq [(0, .d false [.sl none (a0.map ePt)]), (1, .d false [.sl none (a1.map ePt)]), (6, .ov false [.sl (some 42) (x6.1.map (eO 3 eI))]), (8, .box (ePt v10)), (9, .ov false [.sl (some 3) (x13.1.map eI)]), (12, .p (.bool v17.1)), (13, .p (.bool v17.2)), (23, .d false [.sl none (a1.map ePt)]), (24, .p (iV (a1.length : Int))), (25, .p (iV x6.2)), (29, .d false [.sl none (a1.map ePt)]), (30, .p (iV (a1.length : Int))), (31, .p (iV x13.2))] [(3, {call := some (none, [.p (.bool v17.1), .p (.bool v17.2)], true)})] (A1 (wk_spec_ivCovers hv17))) ?_
        refine k_seq ?_
        refine k_sreg (r_gq [(0, .d false [.sl none (a0.map ePt)]), (1, .d false [.sl none (a1.map ePt)]), (6, .ov false [.sl (some 42) (x6.1.map (eO 3 eI))]), (8, .box (ePt v10)), (9, .ov false [.sl (some 3) (x13.1.map eI)]), (12, .p (.bool v17.1)), (23, .d false [.sl none (a1.map ePt)]), (24, .p (iV (a1.length : Int))), (25, .p (iV x6.2)), (29, .d false [.sl none (a1.map ePt)]), (30, .p (iV (a1.length : Int))), (31, .p (iV x13.2)), (43, .p (.bool (!v17.2)))] [] trivial) ?_
        refine kc (!v17.2) (fun hc12_17 => ?_) (fun hc12_17 => ?_)
        ·replace h := ite_t hc12_17 h
         refine k_sreg (r_gq [(4, .ov false [.sl (some 42) []]), (5, .p (.bool false))] [] trivial) ?_
         refine k_ret ?_
         refine q_r ?_
         refine b_r ?_
         refine q_r ?_
         refine lq_r ?_
         refine b_r ?_
         refine q_r ?_
         refine b_r ?_
         refine q_r ?_
         refine lq_r ?_
         refine b_r ?_
         refine q_r ?_
         have hyy := hy_x13 _ (oi h).symm
         subst hyy
         have h := hk_x13
         dsimp only [Sum.elim] at h
         have hyy := hy_x6 _ (oi h).symm
         subst hyy
         have h := hk_x6
         dsimp only [Sum.elim] at h
         obtain rfl := oi h
         exact er [(.ov false [.sl (some 42) []], 4), (.p (.bool false), 5)]
        ·replace h := ite_f hc12_17 h
         refine k_skip ?_
         refine q_n ?_
         refine k_sreg (r_gq [(0, .d false [.sl none (a0.map ePt)]), (1, .d false [.sl none (a1.map ePt)]), (6, .ov false [.sl (some 42) (x6.1.map (eO 3 eI))]), (8, .box (ePt v10)), (9, .ov false [.sl (some 3) (x13.1.map eI)]), (12, .p (.bool v17.1)), (14, .p (iV 0)), (23, .d false [.sl none (a1.map ePt)]), (24, .p (iV (a1.length : Int))), (25, .p (iV x6.2)), (29, .d false [.sl none (a1.map ePt)]), (30, .p (iV (a1.length : Int))), (31, .p (iV x13.2))] [] trivial) ?_
         refine k_join (J := fun (x : Int) => [(0, .d false [.sl none (a0.map ePt)]), (1, .d false [.sl none (a1.map ePt)]), (6, .ov false [.sl (some 42) (x6.1.map (eO 3 eI))]), (8, .box (ePt v10)), (9, .ov false [.sl (some 3) (x13.1.map eI)]), (14, .p (iV x)), (23, .d false [.sl none (a1.map ePt)]), (24, .p (iV (a1.length : Int))), (25, .p (iV x6.2)), (29, .d false [.sl none (a1.map ePt)]), (30, .p (iV (a1.length : Int))), (31, .p (iV x13.2))]) (K := fun x => spec_CoverGraph_k4 x13 x = some o_x13) (fun x19 h => ?_) ?_
         ·unfold spec_CoverGraph_k4 at h
          replace h := bs h
          obtain ⟨u20, hu20, h⟩ := h
          refine k_reg (r_gq [(0, .d false [.sl none (a0.map ePt)]), (1, .d false [.sl none (a1.map ePt)]), (6, .ov false [.sl (some 42) (x6.1.map (eO 3 eI))]), (8, .box (ePt v10)), (9, .ov false [.sl (some 3) ((x13.1 ++ [x19]).map eI)]), (23, .d false [.sl none (a1.map ePt)]), (24, .p (iV (a1.length : Int))), (25, .p (iV x6.2)), (29, .d false [.sl none (a1.map ePt)]), (30, .p (iV (a1.length : Int))), (31, .p (iV x13.2))] [(3, {fix := some (48, .ov false [.sl (some 3) ((x13.1 ++ [x19]).map eI)])})] (A3 (show List.length ((x13.1.map eI) : List (List C)) + List.length ((([x19]).map eI) : List (List C)) ≤ 1099511627776 from (by have hg := (guardO_some hu20); simpa using hg)) (show ∀ row ∈ ((([x19]).map eI) : List (List C)), row.length = 1 from (rows_len fun _ => rfl)) (show (SV.ov false [.sl (some 3) ((x13.1.map eI) ++ (([x19]).map eI))] : SV) = .ov false [.sl (some 3) ((x13.1 ++ [x19]).map eI)] from (congrArg (fun z => SV.ov false [.sl (some 3) z]) (List.map_append ..).symm)))) ?_
          refine b_n ?_
          refine q_n ?_
          refine k_reg (r_gq [(0, .d false [.sl none (a0.map ePt)]), (1, .d false [.sl none (a1.map ePt)]), (6, .ov false [.sl (some 42) (x6.1.map (eO 3 eI))]), (8, .box (ePt v10)), (9, .ov false [.sl (some 3) ((x13.1 ++ [x19]).map eI)]), (23, .d false [.sl none (a1.map ePt)]), (24, .p (iV (a1.length : Int))), (25, .p (iV x6.2)), (29, .d false [.sl none (a1.map ePt)]), (30, .p (iV (a1.length : Int))), (31, .p (iV (w64 (x13.2 + 1))))] [] trivial) ?_
          exact lqn ((x13.1 ++ [x19]), (w64 (x13.2 + 1))) h
         ·refine k_sreg (r_gq [(0, .d false [.sl none (a0.map ePt)]), (1, .d false [.sl none (a1.map ePt)]), (6, .ov false [.sl (some 42) (x6.1.map (eO 3 eI))]), (8, .box (ePt v10)), (9, .ov false [.sl (some 3) (x13.1.map eI)]), (14, .p (iV 0)), (23, .d false [.sl none (a1.map ePt)]), (24, .p (iV (a1.length : Int))), (25, .p (iV x6.2)), (29, .d false [.sl none (a1.map ePt)]), (30, .p (iV (a1.length : Int))), (31, .p (iV x13.2)), (44, .p (.bool v17.1))] [] trivial) ?_
          refine kc v17.1 (fun hc12_20 => ?_) (fun hc12_20 => ?_)
          ·replace h := ite_t hc12_20 h
           refine k_reg (r_gq [(0, .d false [.sl none (a0.map ePt)]), (1, .d false [.sl none (a1.map ePt)]), (6, .ov false [.sl (some 42) (x6.1.map (eO 3 eI))]), (8, .box (ePt v10)), (9, .ov false [.sl (some 3) (x13.1.map eI)]), (14, .p (iV 1)), (23, .d false [.sl none (a1.map ePt)]), (24, .p (iV (a1.length : Int))), (25, .p (iV x6.2)), (29, .d false [.sl none (a1.map ePt)]), (30, .p (iV (a1.length : Int))), (31, .p (iV x13.2))] [] trivial) ?_
           refine q_n ?_
           exact jx 1 h
          ·replace h := ite_f hc12_20 h
           refine k_skip ?_
           refine q_n ?_
           exact jx 0 h
       ·replace h := ite_f hc10_14 h
        refine k_exit ?_
        refine q_x ?_
        refine lq_x ?_
        refine b_x ?_
        have hyy := hy_x13 _ (oi h).symm
        subst hyy
        have h := hk_x13
        dsimp only [Sum.elim] at h
        refine q_n ?_
        exact jx x13.1 h
    ·replace h := ite_f hc5_7 h
     refine k_exit ?_
     refine q_x ?_
     refine lq_x ?_
     refine b_x ?_
     have hyy := hy_x6 _ (oi h).symm
     subst hyy
     have h := hk_x6
     dsimp only [Sum.elim] at h
     refine q_n ?_
     exact jx x6.1 h
theorem wk_spec_foClosed {a0 : (List (List Int))} {a1 : Int}  {r : Int} (h : spec_foClosed a0 a1 = some r) : Meets Try.prog 108 [.d false [.sl none (a0.map (eF eI))], wI a1] { vals := [.p (iV r)] } := by
 refine mo Try.func108 [(0, .d false [.sl none (a0.map (eF eI))]), (1, .p (iV a1))] ?_
 unfold spec_foClosed at h
 refine k_sreg (r_gq [(0, .d false [.sl none (a0.map (eF eI))]), (1, .p (iV a1))] [] trivial) ?_
 refine k_sreg (r_gq [(0, .d false [.sl none (a0.map (eF eI))]), (1, .p (iV a1)), (5, .p (iV 0))] [] trivial) ?_
 refine k_join (J := fun (x : Int) => [(5, .p (iV x))]) (K := fun x => spec_foClosed_k1 x = some r) (fun x1 h => ?_) ?_
 ·unfold spec_foClosed_k1 at h
  refine k_sreg (r_gq [(4, .p (iV x1))] [] trivial) ?_
  refine k_ret ?_
  obtain rfl := oi h
  exact er [(.p (iV x1), 4)]
 ·refine k_sreg (r_gq [(0, .d false [.sl none (a0.map (eF eI))]), (1, .p (iV a1)), (5, .p (iV 0)), (15, .p (iV (a0.length : Int))), (16, .p (iV 0))] [(1, {n := some a0.length})] (A1 (show (a0.map (eF eI)).length = a0.length from (List.length_map ..)))) ?_
  refine k_block ?_
  obtain ⟨y3, hl_x2, hk_x2⟩ := bs h
  clear h
  refine k_loop (J := fun (x : Qr) => [(0, .d false [.sl none (a0.map (eF eI))]), (1, .p (iV a1)), (5, .p (iV x.1)), (15, .p (iV (a0.length : Int))), (16, .p (iV x.2))]) hl_x2 (wk_of (by kernel_rfl) (by kernel_rfl)) (fun x2 o_x2 h hy_x2 => ?_)
  unfold spec_foClosed_b1 at h
  refine k_sreg (r_gq [(0, .d false [.sl none (a0.map (eF eI))]), (1, .p (iV a1)), (5, .p (iV x2.1)), (15, .p (iV (a0.length : Int))), (16, .p (iV x2.2)), (17, .p (.bool (decide (x2.2 < (a0.length : Int)))))] [] trivial) ?_
  refine k_seq ?_
  refine kc (decide (x2.2 < (a0.length : Int))) (fun hc5_3 => ?_) (fun hc5_3 => ?_)
  ·replace h := ite_t hc5_3 h
   refine k_skip ?_
   refine q_n ?_
   refine k_join (J := fun (x : Int) => [(0, .d false [.sl none (a0.map (eF eI))]), (1, .p (iV a1)), (5, .p (iV x)), (15, .p (iV (a0.length : Int))), (16, .p (iV x2.2))]) (K := fun x => spec_foClosed_k2 x2 x = some o_x2) (fun x5 h => ?_) ?_
   ·unfold spec_foClosed_k2 at h
    refine k_reg (r_gq [(0, .d false [.sl none (a0.map (eF eI))]), (1, .p (iV a1)), (5, .p (iV x5)), (15, .p (iV (a0.length : Int))), (16, .p (iV (w64 (x2.2 + 1))))] [] trivial) ?_
    exact lqn (x5, (w64 (x2.2 + 1))) h
   ·refine k_block ?_
    refine k_sreg (r_gq [(0, .d false [.sl none (a0.map (eF eI))]), (1, .p (iV a1)), (5, .p (iV x2.1)), (6, .p (iV x2.2)), (15, .p (iV (a0.length : Int))), (16, .p (iV x2.2))] [] trivial) ?_
    replace h := bs h
    obtain ⟨u6, hu6, h⟩ := h
    refine k_sreg (r_gq [(0, .d false [.sl none (a0.map (eF eI))]), (1, .p (iV a1)), (5, .p (iV x2.1)), (6, .p (iV x2.2)), (7, .ov false [.sl (some 3) ((List.replicate (Int.toNat (a0.length : Int)) (0 : Int)).map eI)]), (15, .p (iV (a0.length : Int))), (16, .p (iV x2.2))] [(1, {n := some a0.length}), (2, {fix := some (21, .ov false [.sl (some 3) ((List.replicate (Int.toNat (a0.length : Int)) (0 : Int)).map eI)])})] (A5 (show (a0.map (eF eI)).length = a0.length from (List.length_map ..)) (show (a0.length : Int) = (a0.length : Int) from rfl) (guardO_some hu6).1 (guardO_some hu6).2 (show (SV.ov false [.sl (some 3) (List.replicate (Int.toNat (a0.length : Int)) [rI 0])] : SV) = .ov false [.sl (some 3) ((List.replicate (Int.toNat (a0.length : Int)) (0 : Int)).map eI)] from (congrArg (fun z => SV.ov false [.sl (some 3) z]) (rep_fix eI (0 : Int)))))) ?_
    replace h := bs h
    obtain ⟨v7, hv7, h⟩ := h
    refine k_sreg (r_gq [(0, .d false [.sl none (a0.map (eF eI))]), (1, .p (iV a1)), (5, .p (iV x2.1)), (6, .p (iV x2.2)), (7, .ov false [.sl (some 3) (((List.replicate (Int.toNat (a0.length : Int)) (0 : Int)).set (Int.toNat x2.2) 1).map eI)]), (15, .p (iV (a0.length : Int))), (16, .p (iV x2.2))] [(2, {row := some (eI v7)}), (3, {row := some (eI v7), fix := some (7, .ov false [.sl (some 3) (((List.replicate (Int.toNat (a0.length : Int)) (0 : Int)).set (Int.toNat x2.2) 1).map eI)])})] (A4 (idxO_some hv7).1 (map_get eI (idxO_some hv7).2) (show getRow [[.sl (some 3) ((List.replicate (Int.toNat (a0.length : Int)) (0 : Int)).map eI)]] [(0, 0), ((Int.toNat x2.2), 0)] = some (eI v7) from ((gr0 rfl).trans (gre (map_get eI (idxO_some hv7).2)))) (show (SV.ov false [.sl (some 3) (setL ((List.replicate (Int.toNat (a0.length : Int)) (0 : Int)).map eI) [((Int.toNat x2.2), 0)] [rI 1])] : SV) = .ov false [.sl (some 3) (((List.replicate (Int.toNat (a0.length : Int)) (0 : Int)).set (Int.toNat x2.2) 1).map eI)] from (congrArg (fun z => SV.ov false [.sl (some 3) z]) (set1 (f := eI) (y := 1) (idxO_some hv7).2 rfl))))) ?_
    refine k_join (J := fun (x : (List Int)) => [(0, .d false [.sl none (a0.map (eF eI))]), (1, .p (iV a1)), (5, .p (iV x2.1)), (6, .p (iV x2.2)), (7, .ov false [.sl (some 3) (x.map eI)]), (15, .p (iV (a0.length : Int))), (16, .p (iV x2.2))]) (K := fun x => spec_foClosed_k3 x2 x = some o_x2) (fun x8 h => ?_) ?_
    ·unfold spec_foClosed_k3 at h
     replace h := bs h
     obtain ⟨v9, hv9, h⟩ := h
     refine k_reg (r_gq [(0, .d false [.sl none (a0.map (eF eI))]), (1, .p (iV a1)), (5, .p (iV (w64 (x2.1 + v9)))), (15, .p (iV (a0.length : Int))), (16, .p (iV x2.2))] [(3, {row := some (eI v9)}), (4, {row := some (eI v9)})] (A3 (idxO_some hv9).1 (map_get eI (idxO_some hv9).2) (show getRow [[.sl (some 3) (x8.map eI)]] [(0, 0), ((Int.toNat x2.2), 0)] = some (eI v9) from ((gr0 rfl).trans (gre (map_get eI (idxO_some hv9).2)))))) ?_
     refine b_n ?_
     refine q_n ?_
     exact jx (w64 (x2.1 + v9)) h
    ·refine k_sreg (r_gq [(0, .d false [.sl none (a0.map (eF eI))]), (1, .p (iV a1)), (5, .p (iV x2.1)), (6, .p (iV x2.2)), (7, .ov false [.sl (some 3) (((List.replicate (Int.toNat (a0.length : Int)) (0 : Int)).set (Int.toNat x2.2) 1).map eI)]), (8, .p (iV 0)), (15, .p (iV (a0.length : Int))), (16, .p (iV x2.2))] [] trivial) ?_
     refine k_block ?_
     obtain ⟨y11, hl_x10, hk_x10⟩ := bs h
     clear h
     refine k_loop (J := fun (x : ((List Int) × Int)) => [(0, .d false [.sl none (a0.map (eF eI))]), (1, .p (iV a1)), (5, .p (iV x2.1)), (6, .p (iV x2.2)), (7, .ov false [.sl (some 3) (x.1.map eI)]), (8, .p (iV x.2)), (15, .p (iV (a0.length : Int))), (16, .p (iV x2.2))]) hl_x10 (wk_of (by kernel_rfl) (by kernel_rfl)) (fun x10 o_x10 h hy_x10 => ?_)
     unfold spec_foClosed_b2 at h
     refine k_seq ?_
     refine k_sreg (r_gq [(0, .d false [.sl none (a0.map (eF eI))]), (1, .p (iV a1)), (5, .p (iV x2.1)), (6, .p (iV x2.2)), (7, .ov false [.sl (some 3) (x10.1.map eI)]), (8, .p (iV x10.2)), (15, .p (iV (a0.length : Int))), (16, .p (iV x2.2)), (27, .p (.bool (decide (x10.2 < a1))))] [] trivial) ?_
     refine kc (decide (x10.2 < a1)) (fun hc10_11 => ?_) (fun hc10_11 => ?_)
     ·replace h := ite_t hc10_11 h
      refine k_skip ?_
      refine q_n ?_
      refine k_join (J := fun (x : (List Int)) => [(0, .d false [.sl none (a0.map (eF eI))]), (1, .p (iV a1)), (5, .p (iV x2.1)), (6, .p (iV x2.2)), (7, .ov false [.sl (some 3) (x.map eI)]), (8, .p (iV x10.2)), (15, .p (iV (a0.length : Int))), (16, .p (iV x2.2))]) (K := fun x => spec_foClosed_k4 x10 x = some o_x10) (fun x13 h => ?_) ?_
      ·unfold spec_foClosed_k4 at h
       refine k_reg (r_gq [(0, .d false [.sl none (a0.map (eF eI))]), (1, .p (iV a1)), (5, .p (iV x2.1)), (6, .p (iV x2.2)), (7, .ov false [.sl (some 3) (x13.map eI)]), (8, .p (iV (w64 (x10.2 + 1)))), (15, .p (iV (a0.length : Int))), (16, .p (iV x2.2))] [] trivial) ?_
       exact lqn (x13, (w64 (x10.2 + 1))) h
      ·refine k_block ?_
       refine k_sreg (r_gq [(0, .d false [.sl none (a0.map (eF eI))]), (1, .p (iV a1)), (5, .p (iV x2.1)), (6, .p (iV x2.2)), (7, .ov false [.sl (some 3) (x10.1.map eI)]), (8, .p (iV x10.2)), (9, .ov false [.sl (some 3) ((List.replicate (Int.toNat (a0.length : Int)) (0 : Int)).map eI)]), (15, .p (iV (a0.length : Int))), (16, .p (iV x2.2))] [(1, {n := some a0.length}), (2, {fix := some (32, .ov false [.sl (some 3) ((List.replicate (Int.toNat (a0.length : Int)) (0 : Int)).map eI)])})] (A5 (show (a0.map (eF eI)).length = a0.length from (List.length_map ..)) (show (a0.length : Int) = (a0.length : Int) from rfl) (guardO_some hu6).1 (guardO_some hu6).2 (show (SV.ov false [.sl (some 3) (List.replicate (Int.toNat (a0.length : Int)) [rI 0])] : SV) = .ov false [.sl (some 3) ((List.replicate (Int.toNat (a0.length : Int)) (0 : Int)).map eI)] from (congrArg (fun z => SV.ov false [.sl (some 3) z]) (rep_fix eI (0 : Int)))))) ?_
       refine k_join (J := fun (x : (List Int)) => [(0, .d false [.sl none (a0.map (eF eI))]), (1, .p (iV a1)), (5, .p (iV x2.1)), (6, .p (iV x2.2)), (8, .p (iV x10.2)), (9, .ov false [.sl (some 3) (x.map eI)]), (15, .p (iV (a0.length : Int))), (16, .p (iV x2.2))]) (K := fun x => spec_foClosed_k5 x10 x = some o_x10) (fun x14 h => ?_) ?_
       ·unfold spec_foClosed_k5 at h
        refine k_reg (r_gq [(0, .d false [.sl none (a0.map (eF eI))]), (1, .p (iV a1)), (5, .p (iV x2.1)), (6, .p (iV x2.2)), (7, .ov false [.sl (some 3) (x14.map eI)]), (8, .p (iV x10.2)), (15, .p (iV (a0.length : Int))), (16, .p (iV x2.2))] [] trivial) ?_
        refine b_n ?_
        refine q_n ?_
        exact jx x14 h
       ·refine k_sreg (r_gq [(0, .d false [.sl none (a0.map (eF eI))]), (1, .p (iV a1)), (5, .p (iV x2.1)), (6, .p (iV x2.2)), (7, .ov false [.sl (some 3) (x10.1.map eI)]), (8, .p (iV x10.2)), (9, .ov false [.sl (some 3) ((List.replicate (Int.toNat (a0.length : Int)) (0 : Int)).map eI)]), (15, .p (iV (a0.length : Int))), (16, .p (iV x2.2)), (33, .ref 7 [(0, 0)] none), (34, .p (iV (x10.1.length : Int))), (35, .p (iV 0))] [(1, {n := some x10.1.length})] (A1 (show (x10.1.map eI).length = x10.1.length from (List.length_map ..)))) ?_
        refine k_block ?_
        obtain ⟨y16, hl_x15, hk_x15⟩ := bs h
        clear h
        refine k_loop (J := fun (x : ((List Int) × Int)) => [(0, .d false [.sl none (a0.map (eF eI))]), (1, .p (iV a1)), (5, .p (iV x2.1)), (6, .p (iV x2.2)), (7, .ov false [.sl (some 3) (x10.1.map eI)]), (8, .p (iV x10.2)), (9, .ov false [.sl (some 3) (x.1.map eI)]), (15, .p (iV (a0.length : Int))), (16, .p (iV x2.2)), (33, .ref 7 [(0, 0)] none), (34, .p (iV (x10.1.length : Int))), (35, .p (iV x.2))]) hl_x15 (wk_of (by kernel_rfl) (by kernel_rfl)) (fun x15 o_x15 h hy_x15 => ?_)
        unfold spec_foClosed_b3 at h
        refine k_sreg (r_gq [(0, .d false [.sl none (a0.map (eF eI))]), (1, .p (iV a1)), (5, .p (iV x2.1)), (6, .p (iV x2.2)), (7, .ov false [.sl (some 3) (x10.1.map eI)]), (8, .p (iV x10.2)), (9, .ov false [.sl (some 3) (x15.1.map eI)]), (15, .p (iV (a0.length : Int))), (16, .p (iV x2.2)), (33, .ref 7 [(0, 0)] none), (34, .p (iV (x10.1.length : Int))), (35, .p (iV x15.2)), (36, .p (.bool (decide (x15.2 < (x10.1.length : Int)))))] [] trivial) ?_
        refine k_seq ?_
        refine kc (decide (x15.2 < (x10.1.length : Int))) (fun hc15_16 => ?_) (fun hc15_16 => ?_)
        ·replace h := ite_t hc15_16 h
         refine k_skip ?_
         refine q_n ?_
         refine k_join (J := fun (x : (List Int)) => [(0, .d false [.sl none (a0.map (eF eI))]), (1, .p (iV a1)), (5, .p (iV x2.1)), (6, .p (iV x2.2)), (7, .ov false [.sl (some 3) (x10.1.map eI)]), (8, .p (iV x10.2)), (9, .ov false [.sl (some 3) (x.map eI)]), (15, .p (iV (a0.length : Int))), (16, .p (iV x2.2)), (33, .ref 7 [(0, 0)] none), (34, .p (iV (x10.1.length : Int))), (35, .p (iV x15.2))]) (K := fun x => spec_foClosed_k6 x15 x = some o_x15) (fun x18 h => ?_) ?_
         ·unfold spec_foClosed_k6 at h
          refine k_reg (r_gq [(0, .d false [.sl none (a0.map (eF eI))]), (1, .p (iV a1)), (5, .p (iV x2.1)), (6, .p (iV x2.2)), (7, .ov false [.sl (some 3) (x10.1.map eI)]), (8, .p (iV x10.2)), (9, .ov false [.sl (some 3) (x18.map eI)]), (15, .p (iV (a0.length : Int))), (16, .p (iV x2.2)), (33, .ref 7 [(0, 0)] none), (34, .p (iV (x10.1.length : Int))), (35, .p (iV (w64 (x15.2 + 1))))] [] trivial) ?_
          exact lqn (x18, (w64 (x15.2 + 1))) h
         ·refine k_block ?_
          replace h := bs h
          obtain ⟨v19, hv19, h⟩ := h
          refine k_sreg (r_gq [(0, .d false [.sl none (a0.map (eF eI))]), (1, .p (iV a1)), (5, .p (iV x2.1)), (6, .p (iV x2.2)), (7, .ov false [.sl (some 3) (x10.1.map eI)]), (8, .p (iV x10.2)), (9, .ov false [.sl (some 3) (x15.1.map eI)]), (10, .p (iV x15.2)), (11, .p (iV v19)), (15, .p (iV (a0.length : Int))), (16, .p (iV x2.2)), (33, .ref 7 [(0, 0)] none), (34, .p (iV (x10.1.length : Int))), (35, .p (iV x15.2))] [(1, {row := some (eI v19)}), (2, {row := some (eI v19)})] (A3 (idxO_some hv19).1 (map_get eI (idxO_some hv19).2) (show getRow [[.sl (some 3) (x10.1.map eI)]] [(0, 0), ((Int.toNat x15.2), 0)] = some (eI v19) from ((gr0 rfl).trans (gre (map_get eI (idxO_some hv19).2)))))) ?_
          replace h := bs h
          obtain ⟨v20, hv20, h⟩ := h
          refine k_sreg (r_gq [(0, .d false [.sl none (a0.map (eF eI))]), (1, .p (iV a1)), (5, .p (iV x2.1)), (6, .p (iV x2.2)), (7, .ov false [.sl (some 3) (x10.1.map eI)]), (8, .p (iV x10.2)), (9, .ov false [.sl (some 3) (x15.1.map eI)]), (11, .p (iV v19)), (15, .p (iV (a0.length : Int))), (16, .p (iV x2.2)), (33, .ref 7 [(0, 0)] none), (34, .p (iV (x10.1.length : Int))), (35, .p (iV x15.2)), (43, .d false [.sl none (v20.map eI)]), (44, .p (iV (v20.length : Int))), (45, .p (iV 0))] [(2, {row := some [.sl none (v20.map eI)]}), (4, {n := some v20.length})] (A3 (idxO_some hv20).1 (map_get (eF eI) (idxO_some hv20).2) (show (v20.map eI).length = v20.length from (List.length_map ..)))) ?_
          refine k_block ?_
          obtain ⟨y22, hl_x21, hk_x21⟩ := bs h
          clear h
          refine k_loop (J := fun (x : ((List Int) × Int)) => [(0, .d false [.sl none (a0.map (eF eI))]), (1, .p (iV a1)), (5, .p (iV x2.1)), (6, .p (iV x2.2)), (7, .ov false [.sl (some 3) (x10.1.map eI)]), (8, .p (iV x10.2)), (9, .ov false [.sl (some 3) (x.1.map eI)]), (11, .p (iV v19)), (15, .p (iV (a0.length : Int))), (16, .p (iV x2.2)), (33, .ref 7 [(0, 0)] none), (34, .p (iV (x10.1.length : Int))), (35, .p (iV x15.2)), (43, .d false [.sl none (v20.map eI)]), (44, .p (iV (v20.length : Int))), (45, .p (iV x.2))]) hl_x21 (wk_of (by kernel_rfl) (by kernel_rfl)) (fun x21 o_x21 h hy_x21 => ?_)
          unfold spec_foClosed_b4 at h
          refine k_sreg (r_gq [(0, .d false [.sl none (a0.map (eF eI))]), (1, .p (iV a1)), (5, .p (iV x2.1)), (6, .p (iV x2.2)), (7, .ov false [.sl (some 3) (x10.1.map eI)]), (8, .p (iV x10.2)), (9, .ov false [.sl (some 3) (x21.1.map eI)]), (11, .p (iV v19)), (15, .p (iV (a0.length : Int))), (16, .p (iV x2.2)), (33, .ref 7 [(0, 0)] none), (34, .p (iV (x10.1.length : Int))), (35, .p (iV x15.2)), (43, .d false [.sl none (v20.map eI)]), (44, .p (iV (v20.length : Int))), (45, .p (iV x21.2)), (46, .p (.bool (decide (x21.2 < (v20.length : Int)))))] [] trivial) ?_
          refine k_seq ?_
          refine kc (decide (x21.2 < (v20.length : Int))) (fun hc19_22 => ?_) (fun hc19_22 => ?_)
          ·replace h := ite_t hc19_22 h
           refine k_skip ?_
           refine q_n ?_
           refine k_seq ?_
           refine k_block ?_
           replace h := bs h
           obtain ⟨v24, hv24, h⟩ := h
           refine k_sreg (r_gq [(0, .d false [.sl none (a0.map (eF eI))]), (1, .p (iV a1)), (5, .p (iV x2.1)), (6, .p (iV x2.2)), (7, .ov false [.sl (some 3) (x10.1.map eI)]), (8, .p (iV x10.2)), (9, .ov false [.sl (some 3) (x21.1.map eI)]), (11, .p (iV v19)), (12, .p (iV x21.2)), (13, .p (iV v24)), (15, .p (iV (a0.length : Int))), (16, .p (iV x2.2)), (33, .ref 7 [(0, 0)] none), (34, .p (iV (x10.1.length : Int))), (35, .p (iV x15.2)), (43, .d false [.sl none (v20.map eI)]), (44, .p (iV (v20.length : Int))), (45, .p (iV x21.2))] [(1, {row := some (eI v24)})] (A2 (idxO_some hv24).1 (map_get eI (idxO_some hv24).2))) ?_
           replace h := bs h
           obtain ⟨v25, hv25, h⟩ := h
           refine k_reg (r_gq [(0, .d false [.sl none (a0.map (eF eI))]), (1, .p (iV a1)), (5, .p (iV x2.1)), (6, .p (iV x2.2)), (7, .ov false [.sl (some 3) (x10.1.map eI)]), (8, .p (iV x10.2)), (9, .ov false [.sl (some 3) ((x21.1.set (Int.toNat x21.2) (w64 (v25 + (w64 (v19 * v24))))).map eI)]), (11, .p (iV v19)), (15, .p (iV (a0.length : Int))), (16, .p (iV x2.2)), (33, .ref 7 [(0, 0)] none), (34, .p (iV (x10.1.length : Int))), (35, .p (iV x15.2)), (43, .d false [.sl none (v20.map eI)]), (44, .p (iV (v20.length : Int))), (45, .p (iV x21.2))] [(2, {row := some (eI v25)}), (3, {row := some (eI v25)}), (8, {row := some (eI v25)}), (9, {row := some (eI v25), fix := some (9, .ov false [.sl (some 3) ((x21.1.set (Int.toNat x21.2) (w64 (v25 + (w64 (v19 * v24))))).map eI)])})] (B6 (idxO_some hv25).1 (map_get eI (idxO_some hv25).2) (show getRow [[.sl (some 3) (x21.1.map eI)]] [(0, 0), ((Int.toNat x21.2), 0)] = some (eI v25) from ((gr0 rfl).trans (gre (map_get eI (idxO_some hv25).2)))) (idxO_some hv25).1 (map_get eI (idxO_some hv25).2) (show getRow [[.sl (some 3) (x21.1.map eI)]] [(0, 0), ((Int.toNat x21.2), 0)] = some (eI v25) from ((gr0 rfl).trans (gre (map_get eI (idxO_some hv25).2)))) (A1 (show (SV.ov false [.sl (some 3) (setL (x21.1.map eI) [((Int.toNat x21.2), 0)] [rI (w64 (v25 + (w64 (v19 * v24))))])] : SV) = .ov false [.sl (some 3) ((x21.1.set (Int.toNat x21.2) (w64 (v25 + (w64 (v19 * v24))))).map eI)] from (congrArg (fun z => SV.ov false [.sl (some 3) z]) (set1 (f := eI) (y := (w64 (v25 + (w64 (v19 * v24))))) (idxO_some hv25).2 rfl)))))) ?_
           refine b_n ?_
           refine q_n ?_
           refine k_reg (r_gq [(0, .d false [.sl none (a0.map (eF eI))]), (1, .p (iV a1)), (5, .p (iV x2.1)), (6, .p (iV x2.2)), (7, .ov false [.sl (some 3) (x10.1.map eI)]), (8, .p (iV x10.2)), (9, .ov false [.sl (some 3) ((x21.1.set (Int.toNat x21.2) (w64 (v25 + (w64 (v19 * v24))))).map eI)]), (11, .p (iV v19)), (15, .p (iV (a0.length : Int))), (16, .p (iV x2.2)), (33, .ref 7 [(0, 0)] none), (34, .p (iV (x10.1.length : Int))), (35, .p (iV x15.2)), (43, .d false [.sl none (v20.map eI)]), (44, .p (iV (v20.length : Int))), (45, .p (iV (w64 (x21.2 + 1))))] [] trivial) ?_
           exact lqn ((x21.1.set (Int.toNat x21.2) (w64 (v25 + (w64 (v19 * v24))))), (w64 (x21.2 + 1))) h
          ·replace h := ite_f hc19_22 h
           refine k_exit ?_
           refine q_x ?_
           refine lq_x ?_
           refine b_x ?_
           refine b_n ?_
           have hyy := hy_x21 _ (oi h).symm
           subst hyy
           have h := hk_x21
           refine q_n ?_
           exact jx x21.1 h
        ·replace h := ite_f hc15_16 h
         refine k_exit ?_
         refine q_x ?_
         refine lq_x ?_
         refine b_x ?_
         have hyy := hy_x15 _ (oi h).symm
         subst hyy
         have h := hk_x15
         refine q_n ?_
         exact jx x15.1 h
     ·replace h := ite_f hc10_11 h
      refine k_exit ?_
      refine q_x ?_
      refine lq_x ?_
      refine b_x ?_
      have hyy := hy_x10 _ (oi h).symm
      subst hyy
      have h := hk_x10
      refine q_n ?_
      exact jx x10.1 h
  ·replace h := ite_f hc5_3 h
   refine k_exit ?_
   refine q_x ?_
   refine lq_x ?_
   refine b_x ?_
   have hyy := hy_x2 _ (oi h).symm
   subst hyy
   have h := hk_x2
   refine q_n ?_
   exact jx x2.1 h
theorem wk_spec_foLoops_r {rc : ((List (List Int)) → Int → Option Int)} {a0 : (List (List Int))} {a1 : Int} (hrc : ∀ x0 x1 y, rc x0 x1 = some y → Meets Try.prog 80 [.d false [.sl none (x0.map (eF eI))], wI x1] { vals := [.p (iV y)] }) {r : Int} (h : spec_foLoops_r rc a0 a1 = some r) : Meets Try.prog 80 [.d false [.sl none (a0.map (eF eI))], wI a1] { vals := [.p (iV r)] } := by
 refine mo Try.func80 [(0, .d false [.sl none (a0.map (eF eI))]), (1, .p (iV a1))] ?_
 unfold spec_foLoops_r at h
 refine k_sreg (r_gq [(0, .d false [.sl none (a0.map (eF eI))]), (1, .p (iV a1))] [] trivial) ?_
 replace h := bs h
 obtain ⟨v1, hv1, h⟩ := h
 refine k_sreg (r_gq [(0, .d false [.sl none (a0.map (eF eI))]), (1, .p (iV a1)), (5, .p (iV v1))] [(2, {call := some (none, [.p (iV v1)], true)})] (A1 (wk_spec_foClosed hv1))) ?_
 refine k_join (J := fun (x : Int) => [(1, .p (iV a1)), (5, .p (iV x))]) (K := fun x => spec_foLoops_r_k1 a1 x = some r) (fun x2 h => ?_) ?_
 ·unfold spec_foLoops_r_k1 at h
  replace h := bs h
  obtain ⟨u3, hu3, h⟩ := h
  refine k_sreg (r_gq [(4, .p (iV (w64 (Int.tdiv x2 a1))))] [] (A1 (guardO_some hu3))) ?_
  refine k_ret ?_
  obtain rfl := oi h
  exact er [(.p (iV (w64 (Int.tdiv x2 a1))), 4)]
 ·refine k_sreg (r_gq [(0, .d false [.sl none (a0.map (eF eI))]), (1, .p (iV a1)), (5, .p (iV v1)), (6, .p (iV 1))] [] trivial) ?_
  refine k_block ?_
  obtain ⟨y5, hl_x4, hk_x4⟩ := bs h
  clear h
  refine k_loop (J := fun (x : Qr) => [(0, .d false [.sl none (a0.map (eF eI))]), (1, .p (iV a1)), (5, .p (iV x.1)), (6, .p (iV x.2))]) hl_x4 (wk_of (by kernel_rfl) (by kernel_rfl)) (fun x4 o_x4 h hy_x4 => ?_)
  unfold spec_foLoops_r_b1 at h
  refine k_seq ?_
  refine k_sreg (r_gq [(0, .d false [.sl none (a0.map (eF eI))]), (1, .p (iV a1)), (5, .p (iV x4.1)), (6, .p (iV x4.2)), (12, .p (.bool (decide (x4.2 < a1))))] [] trivial) ?_
  refine kc (decide (x4.2 < a1)) (fun hc5_5 => ?_) (fun hc5_5 => ?_)
  ·replace h := ite_t hc5_5 h
   refine k_skip ?_
   refine q_n ?_
   refine k_seq ?_
   refine k_block ?_
   replace h := bs h
   obtain ⟨u7, hu7, h⟩ := h
   refine k_sreg (r_gq [(0, .d false [.sl none (a0.map (eF eI))]), (1, .p (iV a1)), (5, .p (iV x4.1)), (6, .p (iV x4.2)), (18, .p (.bool ((Int.tmod a1 x4.2) == 0)))] [] (A1 (guardO_some hu7))) ?_
   refine kc ((Int.tmod a1 x4.2) == 0) (fun hc6_7 => ?_) (fun hc6_7 => ?_)
   ·replace h := ite_t hc6_7 h
    replace h := bs h
    obtain ⟨v9, hv9, h⟩ := h
    refine k_reg (r_gq [(0, .d false [.sl none (a0.map (eF eI))]), (1, .p (iV a1)), (5, .p (iV (w64 (x4.1 - (w64 (x4.2 * v9)))))), (6, .p (iV x4.2))] [(4, {call := some (none, [.p (iV v9)], true)})] (A1 (hrc _ _ _ hv9))) ?_
    refine b_n ?_
    refine q_n ?_
    refine k_reg (r_gq [(0, .d false [.sl none (a0.map (eF eI))]), (1, .p (iV a1)), (5, .p (iV (w64 (x4.1 - (w64 (x4.2 * v9)))))), (6, .p (iV (w64 (x4.2 + 1))))] [] trivial) ?_
    exact lqn ((w64 (x4.1 - (w64 (x4.2 * v9)))), (w64 (x4.2 + 1))) h
   ·replace h := ite_f hc6_7 h
    refine k_skip ?_
    refine b_n ?_
    refine q_n ?_
    refine k_reg (r_gq [(0, .d false [.sl none (a0.map (eF eI))]), (1, .p (iV a1)), (5, .p (iV x4.1)), (6, .p (iV (w64 (x4.2 + 1))))] [] trivial) ?_
    exact lqn (x4.1, (w64 (x4.2 + 1))) h
  ·replace h := ite_f hc5_5 h
   refine k_exit ?_
   refine q_x ?_
   refine lq_x ?_
   refine b_x ?_
   have hyy := hy_x4 _ (oi h).symm
   subst hyy
   have h := hk_x4
   refine q_n ?_
   exact jx x4.1 h
theorem wk_spec_foLoops_f : ∀ (k : Nat) {a0 : (List (List Int))} {a1 : Int} {r : Int} (h : spec_foLoops_f k a0 a1 = some r), Meets Try.prog 80 [.d false [.sl none (a0.map (eF eI))], wI a1] { vals := [.p (iV r)] }
 | 0, _, _, _, h => by cases h
 | k + 1, _, _, _, h => wk_spec_foLoops_r (fun _ _ _ hy => wk_spec_foLoops_f k hy) h
theorem wk_spec_foLoops {a0 : (List (List Int))} {a1 : Int} {r : Int} (h : spec_foLoops a0 a1 = some r) : Meets Try.prog 80 [.d false [.sl none (a0.map (eF eI))], wI a1] { vals := [.p (iV r)] } := by
 obtain ⟨k, hk⟩ := fuelO_some h
 exact wk_spec_foLoops_f k hk
theorem wk_spec_CountLoops {a0 : (List Qp)} {a1 : (List Qp)} {a2 : Int}  {r : (Int × Bool)} (h : spec_CountLoops a0 a1 a2 = some r) : Meets Try.prog 46 [.d false [.sl none (a0.map ePt)], .d false [.sl none (a1.map ePt)], wI a2] { vals := [.p (iV r.1), .p (.bool r.2)] } := by
 refine mo Try.func46 [(0, .d false [.sl none (a0.map ePt)]), (1, .d false [.sl none (a1.map ePt)]), (2, .p (iV a2))] ?_
 unfold spec_CountLoops at h
 refine k_sreg (r_gq [(0, .d false [.sl none (a0.map ePt)]), (1, .d false [.sl none (a1.map ePt)]), (2, .p (iV a2))] [] trivial) ?_
 refine k_seq ?_
 replace h := bs h
 obtain ⟨v1, hv1, h⟩ := h
 replace h := bs h
 obtain ⟨w3, hw3, h⟩ := h
 refine k_sreg (l1 := [(0, .d false [.sl none (a0.map ePt)]), (1, .d false [.sl none (a1.map ePt)]), (2, .p (iV a2)), (18, .p (.bool w3))]) ?_ ?_
 ·clear h
  rcases ft (!v1) with ha0 | ha0
  ·replace hw3 := ite_t ha0 hw3
   have hw3 := oi hw3
   subst hw3
   exact (r_gq [(0, .d false [.sl none (a0.map ePt)]), (1, .d false [.sl none (a1.map ePt)]), (2, .p (iV a2)), (18, .p (.bool true))] [(2, {call := some (none, [.p (.bool v1)], true)}), (5, gT), (6, gT), (7, gT), (8, bT)] (A5 (wk_spec_chAsked hv1) ha0 ha0 ha0 ha0))
  ·replace hw3 := ite_f ha0 hw3
   replace hw3 := bs hw3
   obtain ⟨v2, hv2, hw3⟩ := hw3
   have hw3 := oi hw3
   subst hw3
   exact (r_gq [(0, .d false [.sl none (a0.map ePt)]), (1, .d false [.sl none (a1.map ePt)]), (2, .p (iV a2)), (18, .p (.bool (!v2)))] [(2, {call := some (none, [.p (.bool v1)], true)}), (5, gF), (6, {g := some false, call := some (none, [.p (.bool v2)], true)}), (7, gF), (8, bF)] (A6 (wk_spec_chAsked hv1) ha0 ha0 (wk_spec_foLength hv2) ha0 ha0))
 ·refine kc w3 (fun hc2_3 => ?_) (fun hc2_3 => ?_)
  ·replace h := ite_t hc2_3 h
   refine k_sreg (r_gq [(6, .p (iV 0)), (7, .p (.bool false))] [] trivial) ?_
   refine k_ret ?_
   refine q_r ?_
   obtain rfl := oi h
   exact er [(.p (iV 0), 6), (.p (.bool false), 7)]
  ·replace h := ite_f hc2_3 h
   refine k_skip ?_
   refine q_n ?_
   replace h := bs h
   obtain ⟨v5, hv5, h⟩ := h
   refine k_sreg (r_gq [(2, .p (iV a2)), (8, .ov false [.sl (some 42) (v5.1.map (eO 3 eI))]), (9, .p (.bool v5.2))] [(2, {call := some (none, [.ov false [.sl (some 42) (v5.1.map (eO 3 eI))], .p (.bool v5.2)], true)})] (A2 (wk_spec_CoverGraph hv5) (show List.all [.ov false [.sl (some 42) (v5.1.map (eO 3 eI))], .p (.bool v5.2)] simpleR = true from (sa_o (wnR1 (wnL_enc (wn_O wn_I)) rfl) (sa_p rfl))))) ?_
   refine k_seq ?_
   refine k_sreg (r_gq [(2, .p (iV a2)), (8, .ov false [.sl (some 42) (v5.1.map (eO 3 eI))]), (26, .p (.bool (!v5.2)))] [] trivial) ?_
   refine kc (!v5.2) (fun hc2_5 => ?_) (fun hc2_5 => ?_)
   ·replace h := ite_t hc2_5 h
    refine k_sreg (r_gq [(6, .p (iV 0)), (7, .p (.bool false))] [] trivial) ?_
    refine k_ret ?_
    refine q_r ?_
    obtain rfl := oi h
    exact er [(.p (iV 0), 6), (.p (.bool false), 7)]
   ·replace h := ite_f hc2_5 h
    refine k_skip ?_
    refine q_n ?_
    replace h := bs h
    obtain ⟨v7, hv7, h⟩ := h
    refine k_sreg (r_gq [(6, .p (iV v7)), (7, .p (.bool true))] [(2, {call := some (some [.d false [.sl none (v5.1.map (eF eI))], wI a2], [.p (iV v7)], true)})] (A2 (show ([.d false [.sl none (eraL (v5.1.map (eO 3 eI)))], wI a2] : List Arg) = [.d false [.sl none (v5.1.map (eF eI))], wI a2] from (by simp only [eraL_enc (h := (eF eI)) (era_O er_I)])) (wk_spec_foLoops hv7))) ?_
    refine k_ret ?_
    obtain rfl := oi h
    exact er [(.p (iV v7), 6), (.p (.bool true), 7)]
theorem wk_impl_within {a0 : Int} {a1 : Int} {a2 : Int}  {r : Bool} (h : impl_within a0 a1 a2 = some r) : Meets Try.prog 60 [wI a0, wI a1, wI a2] { vals := [.p (.bool r)] } := by
 refine mo Try.func60 [(0, .p (iV a0)), (1, .p (iV a1)), (2, .p (iV a2))] ?_
 unfold impl_within at h
 refine k_sreg (r_gq [(0, .p (iV a0)), (1, .p (iV a1)), (2, .p (iV a2))] [] trivial) ?_
 refine k_sreg (l1 := [(6, .p (.bool ((decide (a1 ≤ a0)) && (decide (a0 ≤ a2)))))]) ?_ ?_
 ·rcases ft (decide (a1 ≤ a0)) with ha0 | ha0
  ·exact RegOk.of_eq (l2 := [(6, .p (.bool ((decide (a1 ≤ a0)) && (decide (a0 ≤ a2)))))]) (r_gq [(6, .p (.bool (decide (a0 ≤ a2))))] [(4, gT), (5, gT), (6, gT), (7, bT)] (A4 ha0 ha0 ha0 ha0)) (by simp [ha0])
  ·exact RegOk.of_eq (l2 := [(6, .p (.bool ((decide (a1 ≤ a0)) && (decide (a0 ≤ a2)))))]) (r_gq [(6, .p (.bool false))] [(4, gF), (5, gF), (6, gF), (7, bF)] (A4 ha0 ha0 ha0 ha0)) (by simp [ha0])
 ·refine k_ret ?_
  obtain rfl := oi h
  exact er [(.p (.bool ((decide (a1 ≤ a0)) && (decide (a0 ≤ a2)))), 6)]
theorem wk_slices_IndexFunc_Limpl_Point_impl_Point_v {a0 : (List Qp)} {a1 : (Qp → Option Bool)} {F1 : FuncId} (hp1 : ∀ x0 y, a1 x0 = some y → Meets Try.prog F1 ([.v (vPt x0)] ++ []) { vals := [.p (.bool y)] }) {r : Int} (h : slices_IndexFunc_Limpl_Point_impl_Point a0 a1 = some r) : Meets Try.prog 117 [.d false [.sl none (a0.map ePt)], .v (.func (.func F1) #[] #[])] { vals := [.p (iV r)] } := by
 refine mo Try.func117 [(0, .d false [.sl none (a0.map ePt)]), (1, .p (.func (.func F1) #[] #[]))] ?_
 unfold slices_IndexFunc_Limpl_Point_impl_Point at h
 refine k_sreg (r_gq [(0, .d false [.sl none (a0.map ePt)]), (1, .p (.func (.func F1) #[] #[]))] [] trivial) ?_
 refine k_join (J := fun (x : Unit) => []) (K := fun x => slices_IndexFunc_Limpl_Point_impl_Point_k1 x = some r) (fun x1 h => ?_) ?_
 ·unfold slices_IndexFunc_Limpl_Point_impl_Point_k1 at h
  refine k_sreg (r_gq [(4, .p (iV (-1)))] [] trivial) ?_
  refine k_ret ?_
  obtain rfl := oi h
  exact er [(.p (iV (-1)), 4)]
 ·refine k_sreg (r_gq [(0, .d false [.sl none (a0.map ePt)]), (1, .p (.func (.func F1) #[] #[])), (7, .p (iV (a0.length : Int))), (8, .p (iV 0))] [(1, {n := some a0.length})] (A1 (show (a0.map ePt).length = a0.length from (List.length_map ..)))) ?_
  refine k_block ?_
  obtain ⟨y3, hl_x2, hk_x2⟩ := bs h
  clear h
  refine k_loop (J := fun (x : Int) => [(0, .d false [.sl none (a0.map ePt)]), (1, .p (.func (.func F1) #[] #[])), (7, .p (iV (a0.length : Int))), (8, .p (iV x))]) hl_x2 (wk_of (by kernel_rfl) (by kernel_rfl)) (fun x2 o_x2 h hy_x2 => ?_)
  unfold slices_IndexFunc_Limpl_Point_impl_Point_b1 at h
  refine k_sreg (r_gq [(0, .d false [.sl none (a0.map ePt)]), (1, .p (.func (.func F1) #[] #[])), (7, .p (iV (a0.length : Int))), (8, .p (iV x2)), (9, .p (.bool (decide (x2 < (a0.length : Int)))))] [] trivial) ?_
  refine k_seq ?_
  refine kc (decide (x2 < (a0.length : Int))) (fun hc5_3 => ?_) (fun hc5_3 => ?_)
  ·replace h := ite_t hc5_3 h
   refine k_skip ?_
   refine q_n ?_
   refine k_seq ?_
   refine k_block ?_
   refine k_sreg (r_gq [(0, .d false [.sl none (a0.map ePt)]), (1, .p (.func (.func F1) #[] #[])), (5, .p (iV x2)), (7, .p (iV (a0.length : Int))), (8, .p (iV x2))] [] trivial) ?_
   replace h := bs h
   obtain ⟨v5, hv5, h⟩ := h
   replace h := bs h
   obtain ⟨v6, hv6, h⟩ := h
   refine k_sreg (r_gq [(0, .d false [.sl none (a0.map ePt)]), (1, .p (.func (.func F1) #[] #[])), (5, .p (iV x2)), (7, .p (iV (a0.length : Int))), (8, .p (iV x2)), (16, .p (.bool v6))] [(3, {row := some (ePt v5)}), (5, {call := some (none, [.p (.bool v6)], true)})] (A3 (idxO_some hv5).1 (map_get ePt (idxO_some hv5).2) (hp1 _ _ hv6))) ?_
   refine kc v6 (fun hc6_6 => ?_) (fun hc6_6 => ?_)
   ·replace h := ite_t hc6_6 h
    refine k_sreg (r_gq [(4, .p (iV x2))] [] trivial) ?_
    refine k_ret ?_
    refine b_r ?_
    refine q_r ?_
    refine lq_r ?_
    refine b_r ?_
    refine q_r ?_
    have hyy := hy_x2 _ (oi h).symm
    subst hyy
    have h := hk_x2
    dsimp only [Sum.elim] at h
    obtain rfl := oi h
    exact er [(.p (iV x2), 4)]
   ·replace h := ite_f hc6_6 h
    refine k_skip ?_
    refine b_n ?_
    refine q_n ?_
    refine k_reg (r_gq [(0, .d false [.sl none (a0.map ePt)]), (1, .p (.func (.func F1) #[] #[])), (7, .p (iV (a0.length : Int))), (8, .p (iV (w64 (x2 + 1))))] [] trivial) ?_
    exact lqn (w64 (x2 + 1)) h
  ·replace h := ite_f hc5_3 h
   refine k_exit ?_
   refine q_x ?_
   refine lq_x ?_
   refine b_x ?_
   have hyy := hy_x2 _ (oi h).symm
   subst hyy
   have h := hk_x2
   dsimp only [Sum.elim] at h
   refine q_n ?_
   exact jx () h
theorem wk_slices_ContainsFunc_Limpl_Point_impl_Point_v {a0 : (List Qp)} {a1 : (Qp → Option Bool)} {F1 : FuncId} (hp1 : ∀ x0 y, a1 x0 = some y → Meets Try.prog F1 ([.v (vPt x0)] ++ []) { vals := [.p (.bool y)] }) {r : Bool} (h : slices_ContainsFunc_Limpl_Point_impl_Point a0 a1 = some r) : Meets Try.prog 90 [.d false [.sl none (a0.map ePt)], .v (.func (.func F1) #[] #[])] { vals := [.p (.bool r)] } := by
 refine mo Try.func90 [(0, .d false [.sl none (a0.map ePt)]), (1, .p (.func (.func F1) #[] #[]))] ?_
 unfold slices_ContainsFunc_Limpl_Point_impl_Point at h
 refine k_sreg (r_gq [(0, .d false [.sl none (a0.map ePt)]), (1, .p (.func (.func F1) #[] #[]))] [] trivial) ?_
 replace h := bs h
 obtain ⟨v1, hv1, h⟩ := h
 refine k_sreg (r_gq [(4, .p (.bool (decide (v1 ≥ 0))))] [(2, {call := some (none, [.p (iV v1)], true)})] (A1 (show Meets Try.prog 117 ([.d false [.sl none (a0.map ePt)], .v (.func (.func F1) #[] #[])] ++ []) { vals := [.p (iV v1)] } from (wk_slices_IndexFunc_Limpl_Point_impl_Point_v hp1 hv1)))) ?_
 refine k_ret ?_
 obtain rfl := oi h
 exact er [(.p (.bool (decide (v1 ≥ 0))), 4)]
theorem wk_impl_abs {a0 : Int}  {r : Int} (h : impl_abs a0 = some r) : Meets Try.prog 162 [wI a0] { vals := [.p (iV r)] } := by
 refine mo Try.func162 [(0, .p (iV a0))] ?_
 unfold impl_abs at h
 refine k_sreg (r_gq [(0, .p (iV a0))] [] trivial) ?_
 refine k_seq ?_
 refine k_sreg (r_gq [(0, .p (iV a0)), (4, .p (.bool (decide (a0 < 0))))] [] trivial) ?_
 refine kc (decide (a0 < 0)) (fun hc2_0 => ?_) (fun hc2_0 => ?_)
 ·replace h := ite_t hc2_0 h
  refine k_sreg (r_gq [(2, .p (iV (w64 (0 - a0))))] [] trivial) ?_
  refine k_ret ?_
  refine q_r ?_
  obtain rfl := oi h
  exact er [(.p (iV (w64 (0 - a0))), 2)]
 ·replace h := ite_f hc2_0 h
  refine k_skip ?_
  refine q_n ?_
  refine k_sreg (r_gq [(2, .p (iV a0))] [] trivial) ?_
  refine k_ret ?_
  obtain rfl := oi h
  exact er [(.p (iV a0), 2)]
theorem wk_impl_greatestDivisor {a0 : Int} {a1 : Int}  {r : Int} (h : impl_greatestDivisor a0 a1 = some r) : Meets Try.prog 156 [wI a0, wI a1] { vals := [.p (iV r)] } := by
 refine mo Try.func156 [(0, .p (iV a0)), (1, .p (iV a1))] ?_
 unfold impl_greatestDivisor at h
 refine k_sreg (r_gq [(0, .p (iV a0)), (1, .p (iV a1))] [] trivial) ?_
 replace h := bs h
 obtain ⟨v1, hv1, h⟩ := h
 replace h := bs h
 obtain ⟨v2, hv2, h⟩ := h
 refine k_sreg (r_gq [(0, .p (iV v1)), (1, .p (iV v2))] [(1, {call := some (none, [.p (iV v1)], true)}), (3, {call := some (none, [.p (iV v2)], true)})] (A2 (wk_impl_abs hv1) (wk_impl_abs hv2))) ?_
 refine k_join (J := fun (x : Int) => [(0, .p (iV x))]) (K := fun x => impl_greatestDivisor_k1 x = some r) (fun x3 h => ?_) ?_
 ·unfold impl_greatestDivisor_k1 at h
  refine k_sreg (r_gq [(4, .p (iV x3))] [] trivial) ?_
  refine k_ret ?_
  obtain rfl := oi h
  exact er [(.p (iV x3), 4)]
 ·refine k_block ?_
  obtain ⟨y5, hl_x4, hk_x4⟩ := bs h
  clear h
  refine k_loop (J := fun (x : Qr) => [(0, .p (iV x.1)), (1, .p (iV x.2))]) hl_x4 (wk_of (by kernel_rfl) (by kernel_rfl)) (fun x4 o_x4 h hy_x4 => ?_)
  unfold impl_greatestDivisor_b1 at h
  refine k_seq ?_
  refine k_sreg (r_gq [(0, .p (iV x4.1)), (1, .p (iV x4.2)), (10, .p (.bool (x4.2 != 0)))] [] trivial) ?_
  refine kc (x4.2 != 0) (fun hc5_5 => ?_) (fun hc5_5 => ?_)
  ·replace h := ite_t hc5_5 h
   refine k_skip ?_
   refine q_n ?_
   refine k_block ?_
   replace h := bs h
   obtain ⟨u7, hu7, h⟩ := h
   refine k_reg (r_dq Try_mixed 5 [] [(0, .p (iV x4.2)), (1, .p (iV (Int.tmod x4.1 x4.2)))] [] (A1 (guardO_some hu7))) ?_
   refine b_n ?_
   exact lqn (x4.2, (Int.tmod x4.1 x4.2)) h
  ·replace h := ite_f hc5_5 h
   refine k_exit ?_
   refine q_x ?_
   refine lq_x ?_
   refine b_x ?_
   have hyy := hy_x4 _ (oi h).symm
   subst hyy
   have h := hk_x4
   refine q_n ?_
   exact jx x4.1 h
theorem wk_impl_isRat {a0 : Qr}  {r : Bool} (h : impl_isRat a0 = some r) : Meets Try.prog 139 [.v (vRt a0)] { vals := [.p (.bool r)] } := by
 refine mo Try.func139 [(0, .p (vRt a0))] ?_
 unfold impl_isRat at h
 refine k_sreg (r_gq [(1, .box (eRt a0))] [] trivial) ?_
 replace h := bs h
 obtain ⟨v1, hv1, h⟩ := h
 replace h := bs h
 obtain ⟨w4, hw4, h⟩ := h
 refine k_sreg (l1 := [(2, .p (.bool w4))]) ?_ ?_
 ·clear h
  rcases ft v1 with ha0 | ha0
  ·replace hw4 := ite_t ha0 hw4
   replace hw4 := bs hw4
   obtain ⟨v2, hv2, hw4⟩ := hw4
   rcases ft v2 with ha1 | ha1
   ·replace hw4 := ite_t ha1 hw4
    replace hw4 := bs hw4
    obtain ⟨v3, hv3, hw4⟩ := hw4
    have hw4 := oi hw4
    subst hw4
    exact (r_gq [(2, .p (.bool (v3 == 1)))] [(2, {call := some (none, [.p (.bool v1)], true)}), (4, gT), (5, gT), (6, {g := some true, call := some (none, [.p (.bool v2)], true)}), (7, bT), (9, gT), (10, gT), (11, gT), (12, gT), (13, {g := some true, call := some (none, [.p (iV v3)], true)}), (14, gT), (15, bT)] (B6 (wk_impl_within hv1) ha0 ha0 ha0 (wk_impl_within hv2) ha0 (B6 ha1 ha1 ha1 ha1 ha1 (wk_impl_greatestDivisor hv3) (A2 ha1 ha1))))
   ·replace hw4 := ite_f ha1 hw4
    have hw4 := oi hw4
    subst hw4
    exact (r_gq [(2, .p (.bool false))] [(2, {call := some (none, [.p (.bool v1)], true)}), (4, gT), (5, gT), (6, {g := some true, call := some (none, [.p (.bool v2)], true)}), (7, bT), (9, gF), (10, gF), (11, gF), (12, gF), (13, gF), (14, gF), (15, bF)] (B6 (wk_impl_within hv1) ha0 ha0 ha0 (wk_impl_within hv2) ha0 (B6 ha1 ha1 ha1 ha1 ha1 ha1 (A1 ha1))))
  ·replace hw4 := ite_f ha0 hw4
   have hw4 := oi hw4
   subst hw4
   exact (r_gq [(2, .p (.bool false))] [(2, {call := some (none, [.p (.bool v1)], true)}), (4, gF), (5, gF), (6, gF), (7, bF), (9, gF), (10, gF), (11, gF), (12, gF), (13, gF), (14, gF), (15, bF)] (B6 (wk_impl_within hv1) ha0 ha0 ha0 ha0 (show false = false from rfl) (A6 (show false = false from rfl) (show false = false from rfl) (show false = false from rfl) (show false = false from rfl) (show false = false from rfl) (show false = false from rfl))))
 ·refine k_ret ?_
  obtain rfl := oi h
  exact er [(.p (.bool w4), 2)]
theorem wk_impl_isUnit {a0 : Qr}  {r : Bool} (h : impl_isUnit a0 = some r) : Meets Try.prog 118 [.v (vRt a0)] { vals := [.p (.bool r)] } := by
 refine mo Try.func118 [(0, .p (vRt a0))] ?_
 unfold impl_isUnit at h
 refine k_sreg (r_gq [(1, .box (eRt a0))] [] trivial) ?_
 replace h := bs h
 obtain ⟨v1, hv1, h⟩ := h
 refine k_sreg (l1 := [(2, .p (.bool (v1 && ((decide (a0.1 ≥ 0)) && (decide (a0.1 ≤ a0.2))))))]) ?_ ?_
 ·rcases ft v1 with ha0 | ha0
  ·rcases ft (decide (a0.1 ≥ 0)) with ha1 | ha1
   ·exact RegOk.of_eq (l2 := [(2, .p (.bool (v1 && ((decide (a0.1 ≥ 0)) && (decide (a0.1 ≤ a0.2))))))]) (r_gq [(2, .p (.bool (decide (a0.1 ≤ a0.2))))] [(1, {call := some (none, [.p (.bool v1)], true)}), (3, gT), (4, gT), (5, gT), (6, bT), (8, gT), (9, gT), (10, gT), (11, gT), (12, gT), (13, bT)] (B6 (wk_impl_isRat hv1) ha0 ha0 ha0 ha0 ha1 (A5 ha1 ha1 ha1 ha1 ha1))) (by simp [ha0, ha1])
   ·exact RegOk.of_eq (l2 := [(2, .p (.bool (v1 && ((decide (a0.1 ≥ 0)) && (decide (a0.1 ≤ a0.2))))))]) (r_gq [(2, .p (.bool false))] [(1, {call := some (none, [.p (.bool v1)], true)}), (3, gT), (4, gT), (5, gT), (6, bT), (8, gF), (9, gF), (10, gF), (11, gF), (12, gF), (13, bF)] (B6 (wk_impl_isRat hv1) ha0 ha0 ha0 ha0 ha1 (A5 ha1 ha1 ha1 ha1 ha1))) (by simp [ha0, ha1])
  ·exact RegOk.of_eq (l2 := [(2, .p (.bool (v1 && ((decide (a0.1 ≥ 0)) && (decide (a0.1 ≤ a0.2))))))]) (r_gq [(2, .p (.bool false))] [(1, {call := some (none, [.p (.bool v1)], true)}), (3, gF), (4, gF), (5, gF), (6, bF), (8, gF), (9, gF), (10, gF), (11, gF), (12, gF), (13, bF)] (B6 (wk_impl_isRat hv1) ha0 ha0 ha0 ha0 (show false = false from rfl) (A5 (show false = false from rfl) (show false = false from rfl) (show false = false from rfl) (show false = false from rfl) (show false = false from rfl)))) (by simp [ha0])
 ·refine k_ret ?_
  obtain rfl := oi h
  exact er [(.p (.bool (v1 && ((decide (a0.1 ≥ 0)) && (decide (a0.1 ≤ a0.2))))), 2)]
theorem wk_impl_isCoord {a0 : Qr}  {r : Bool} (h : impl_isCoord a0 = some r) : Meets Try.prog 92 [.v (vRt a0)] { vals := [.p (.bool r)] } := by
 refine mo Try.func92 [(0, .p (vRt a0))] ?_
 unfold impl_isCoord at h
 refine k_sreg (r_gq [(1, .box (eRt a0))] [] trivial) ?_
 replace h := bs h
 obtain ⟨v1, hv1, h⟩ := h
 refine k_sreg (l1 := [(2, .p (.bool (v1 && (decide (a0.2 ≤ 100)))))]) ?_ ?_
 ·rcases ft v1 with ha0 | ha0
  ·exact RegOk.of_eq (l2 := [(2, .p (.bool (v1 && (decide (a0.2 ≤ 100)))))]) (r_gq [(2, .p (.bool (decide (a0.2 ≤ 100))))] [(1, {call := some (none, [.p (.bool v1)], true)}), (3, gT), (4, gT), (5, gT), (6, bT)] (A5 (wk_impl_isUnit hv1) ha0 ha0 ha0 ha0)) (by simp [ha0])
  ·exact RegOk.of_eq (l2 := [(2, .p (.bool (v1 && (decide (a0.2 ≤ 100)))))]) (r_gq [(2, .p (.bool false))] [(1, {call := some (none, [.p (.bool v1)], true)}), (3, gF), (4, gF), (5, gF), (6, bF)] (A5 (wk_impl_isUnit hv1) ha0 ha0 ha0 ha0)) (by simp [ha0])
 ·refine k_ret ?_
  obtain rfl := oi h
  exact er [(.p (.bool (v1 && (decide (a0.2 ≤ 100)))), 2)]
theorem wk_impl_isMap_1 {a0 : Qp}  {r : Bool} (h : impl_isMap_1 a0 = some r) : Meets Try.prog 91 [.v (vPt a0)] { vals := [.p (.bool r)] } := by
 refine mo Try.func91 [(0, .p (vPt a0))] ?_
 unfold impl_isMap_1 at h
 refine k_sreg (r_gq [(1, .box (ePt a0))] [] trivial) ?_
 replace h := bs h
 obtain ⟨v1, hv1, h⟩ := h
 replace h := bs h
 obtain ⟨w3, hw3, h⟩ := h
 refine k_sreg (l1 := [(2, .p (.bool w3))]) ?_ ?_
 ·clear h
  rcases ft (!v1) with ha0 | ha0
  ·replace hw3 := ite_t ha0 hw3
   have hw3 := oi hw3
   subst hw3
   exact (r_gq [(2, .p (.bool true))] [(2, {call := some (none, [.p (.bool v1)], true)}), (5, gT), (6, gT), (7, gT), (8, gT), (9, bT)] (A6 (wk_impl_isCoord hv1) ha0 ha0 ha0 ha0 ha0))
  ·replace hw3 := ite_f ha0 hw3
   replace hw3 := bs hw3
   obtain ⟨v2, hv2, hw3⟩ := hw3
   have hw3 := oi hw3
   subst hw3
   exact (r_gq [(2, .p (.bool (!v2)))] [(2, {call := some (none, [.p (.bool v1)], true)}), (5, gF), (6, gF), (7, {g := some false, call := some (none, [.p (.bool v2)], true)}), (8, gF), (9, bF)] (B6 (wk_impl_isCoord hv1) ha0 ha0 ha0 (wk_impl_isCoord hv2) ha0 (A1 ha0)))
 ·refine k_ret ?_
  obtain rfl := oi h
  exact er [(.p (.bool w3), 2)]
theorem wk_impl_zero   {r : Qr} (h : impl_zero  = some r) : Meets Try.prog 65 [] { vals := [.p (vRt r)] } := by
 refine mo Try.func65 [] ?_
 unfold impl_zero at h
 refine k_sreg (r_gq [(0, .box [rI 0, rI 0])] [] trivial) ?_
 refine k_sreg (r_gq [(0, .box [rI 0, rI 1])] [] trivial) ?_
 refine k_ret ?_
 obtain rfl := oi h
 exact er [(.p (.agg #[.int .i64 0, .int .i64 1]), 0)]
theorem wk_impl_oneRat   {r : Qr} (h : impl_oneRat  = some r) : Meets Try.prog 67 [] { vals := [.p (vRt r)] } := by
 refine mo Try.func67 [] ?_
 unfold impl_oneRat at h
 refine k_sreg (r_gq [(0, .box [rI 0, rI 0])] [] trivial) ?_
 refine k_sreg (r_gq [(0, .box [rI 1, rI 1])] [] trivial) ?_
 refine k_ret ?_
 obtain rfl := oi h
 exact er [(.p (.agg #[.int .i64 1, .int .i64 1]), 0)]
theorem wk_impl_xsOf {a0 : (List Qp)}  {r : (List Qr)} (h : impl_xsOf a0 = some r) : Meets Try.prog 94 [.d false [.sl none (a0.map ePt)]] { vals := [.ov false [.sl (some 25) (r.map eRt)]] } := by
 refine mo Try.func94 [(0, .d false [.sl none (a0.map ePt)])] ?_
 unfold impl_xsOf at h
 refine k_sreg (r_gq [(0, .d false [.sl none (a0.map ePt)])] [] trivial) ?_
 refine k_sreg (r_gq [(0, .d false [.sl none (a0.map ePt)]), (3, .ov false [.sl (some 25) []])] [] trivial) ?_
 refine k_join (J := fun (x : (List Qr)) => [(3, .ov false [.sl (some 25) (x.map eRt)])]) (K := fun x => impl_xsOf_k1 x = some r) (fun x1 h => ?_) ?_
 ·unfold impl_xsOf_k1 at h
  refine k_sreg (r_gq [(2, .ov false [.sl (some 25) (x1.map eRt)])] [] trivial) ?_
  refine k_ret ?_
  obtain rfl := oi h
  exact er [(.ov false [.sl (some 25) (x1.map eRt)], 2)]
 ·refine k_sreg (r_gq [(3, .ov false [.sl (some 25) []]), (6, .d false [.sl none (a0.map ePt)]), (7, .p (iV (a0.length : Int))), (8, .p (iV 0))] [(1, {n := some a0.length})] (A1 (show (a0.map ePt).length = a0.length from (List.length_map ..)))) ?_
  refine k_block ?_
  obtain ⟨y3, hl_x2, hk_x2⟩ := bs h
  clear h
  refine k_loop (J := fun (x : ((List Qr) × Int)) => [(3, .ov false [.sl (some 25) (x.1.map eRt)]), (6, .d false [.sl none (a0.map ePt)]), (7, .p (iV (a0.length : Int))), (8, .p (iV x.2))]) hl_x2 (wk_of (by kernel_rfl) (by kernel_rfl)) (fun x2 o_x2 h hy_x2 => ?_)
  unfold impl_xsOf_b1 at h
  refine k_sreg (r_gq [(3, .ov false [.sl (some 25) (x2.1.map eRt)]), (6, .d false [.sl none (a0.map ePt)]), (7, .p (iV (a0.length : Int))), (8, .p (iV x2.2)), (9, .p (.bool (decide (x2.2 < (a0.length : Int)))))] [] trivial) ?_
  refine k_seq ?_
  refine kc (decide (x2.2 < (a0.length : Int))) (fun hc5_3 => ?_) (fun hc5_3 => ?_)
  ·replace h := ite_t hc5_3 h
   refine k_skip ?_
   refine q_n ?_
   refine k_seq ?_
   refine k_block ?_
   replace h := bs h
   obtain ⟨v5, hv5, h⟩ := h
   refine k_sreg (r_gq [(3, .ov false [.sl (some 25) (x2.1.map eRt)]), (5, .box (ePt v5)), (6, .d false [.sl none (a0.map ePt)]), (7, .p (iV (a0.length : Int))), (8, .p (iV x2.2))] [(0, {row := some (ePt v5)})] (A2 (idxO_some hv5).1 (map_get ePt (idxO_some hv5).2))) ?_
   replace h := bs h
   obtain ⟨u6, hu6, h⟩ := h
   refine k_reg (r_gq [(3, .ov false [.sl (some 25) ((x2.1 ++ [v5.1]).map eRt)]), (6, .d false [.sl none (a0.map ePt)]), (7, .p (iV (a0.length : Int))), (8, .p (iV x2.2))] [(4, {fix := some (16, .ov false [.sl (some 25) ((x2.1 ++ [v5.1]).map eRt)])})] (A3 (show List.length ((x2.1.map eRt) : List (List C)) + List.length ((([v5.1]).map eRt) : List (List C)) ≤ 1099511627776 from (by have hg := (guardO_some hu6); simpa using hg)) (show ∀ row ∈ ((([v5.1]).map eRt) : List (List C)), row.length = 2 from (rows_len fun _ => rfl)) (show (SV.ov false [.sl (some 25) ((x2.1.map eRt) ++ (([v5.1]).map eRt))] : SV) = .ov false [.sl (some 25) ((x2.1 ++ [v5.1]).map eRt)] from (congrArg (fun z => SV.ov false [.sl (some 25) z]) (List.map_append ..).symm)))) ?_
   refine b_n ?_
   refine q_n ?_
   refine k_reg (r_gq [(3, .ov false [.sl (some 25) ((x2.1 ++ [v5.1]).map eRt)]), (6, .d false [.sl none (a0.map ePt)]), (7, .p (iV (a0.length : Int))), (8, .p (iV (w64 (x2.2 + 1))))] [] trivial) ?_
   exact lqn ((x2.1 ++ [v5.1]), (w64 (x2.2 + 1))) h
  ·replace h := ite_f hc5_3 h
   refine k_exit ?_
   refine q_x ?_
   refine lq_x ?_
   refine b_x ?_
   have hyy := hy_x2 _ (oi h).symm
   subst hyy
   have h := hk_x2
   refine q_n ?_
   exact jx x2.1 h
theorem wk_impl_compare {a0 : Qr} {a1 : Qr}  {r : Int} (h : impl_compare a0 a1 = some r) : Meets Try.prog 73 [.v (vRt a0), .v (vRt a1)] { vals := [.p (iV r)] } := by
 refine mo Try.func73 [(0, .p (vRt a0)), (1, .p (vRt a1))] ?_
 unfold impl_compare at h
 refine k_sreg (r_gq [(2, .box (eRt a0)), (3, .box (eRt a1))] [] trivial) ?_
 refine k_seq ?_
 refine k_sreg (r_dq Try_mixed 11 [] [(5, .p (iV (w64 (a0.1 * a1.2)))), (6, .p (iV (w64 (a1.1 * a0.2))))] [] trivial) ?_
 refine k_block ?_
 refine k_sreg (r_gq [(5, .p (iV (w64 (a0.1 * a1.2)))), (6, .p (iV (w64 (a1.1 * a0.2)))), (17, .p (.bool (decide ((w64 (a0.1 * a1.2)) < (w64 (a1.1 * a0.2))))))] [] trivial) ?_
 refine kc (decide ((w64 (a0.1 * a1.2)) < (w64 (a1.1 * a0.2)))) (fun hc3_0 => ?_) (fun hc3_0 => ?_)
 ·replace h := ite_t hc3_0 h
  refine k_sreg (r_gq [(4, .p (iV (-1)))] [] trivial) ?_
  refine k_ret ?_
  refine b_r ?_
  refine q_r ?_
  obtain rfl := oi h
  exact er [(.p (iV (-1)), 4)]
 ·replace h := ite_f hc3_0 h
  refine k_sreg (r_gq [(21, .p (.bool (decide ((w64 (a0.1 * a1.2)) > (w64 (a1.1 * a0.2))))))] [] trivial) ?_
  refine kc (decide ((w64 (a0.1 * a1.2)) > (w64 (a1.1 * a0.2)))) (fun hc3_1 => ?_) (fun hc3_1 => ?_)
  ·replace h := ite_t hc3_1 h
   refine k_sreg (r_gq [(4, .p (iV 1))] [] trivial) ?_
   refine k_ret ?_
   refine b_r ?_
   refine q_r ?_
   obtain rfl := oi h
   exact er [(.p (iV 1), 4)]
  ·replace h := ite_f hc3_1 h
   refine k_skip ?_
   refine b_n ?_
   refine q_n ?_
   refine k_sreg (r_gq [(4, .p (iV 0))] [] trivial) ?_
   refine k_ret ?_
   obtain rfl := oi h
   exact er [(.p (iV 0), 4)]
theorem wk_impl_less {a0 : Qr} {a1 : Qr}  {r : Bool} (h : impl_less a0 a1 = some r) : Meets Try.prog 102 [.v (vRt a0), .v (vRt a1)] { vals := [.p (.bool r)] } := by
 refine mo Try.func102 [(0, .p (vRt a0)), (1, .p (vRt a1))] ?_
 unfold impl_less at h
 refine k_sreg (r_gq [(2, .box (eRt a0)), (3, .box (eRt a1))] [] trivial) ?_
 replace h := bs h
 obtain ⟨v1, hv1, h⟩ := h
 refine k_sreg (r_gq [(4, .p (.bool (decide (v1 < 0))))] [(2, {call := some (none, [.p (iV v1)], true)})] (A1 (wk_impl_compare hv1))) ?_
 refine k_ret ?_
 obtain rfl := oi h
 exact er [(.p (.bool (decide (v1 < 0))), 4)]
theorem wk_impl_isRising {a0 : (List Qr)}  {r : Bool} (h : impl_isRising a0 = some r) : Meets Try.prog 93 [.d false [.sl none (a0.map eRt)]] { vals := [.p (.bool r)] } := by
 refine mo Try.func93 [(0, .d false [.sl none (a0.map eRt)])] ?_
 unfold impl_isRising at h
 refine k_sreg (r_gq [(0, .d false [.sl none (a0.map eRt)])] [] trivial) ?_
 refine k_join (J := fun (x : Unit) => []) (K := fun x => impl_isRising_k1 x = some r) (fun x1 h => ?_) ?_
 ·unfold impl_isRising_k1 at h
  refine k_sreg (r_gq [(2, .p (.bool true))] [] trivial) ?_
  refine k_ret ?_
  obtain rfl := oi h
  exact er [(.p (.bool true), 2)]
 ·refine k_sreg (r_gq [(0, .d false [.sl none (a0.map eRt)]), (3, .p (iV 1))] [] trivial) ?_
  refine k_block ?_
  obtain ⟨y3, hl_x2, hk_x2⟩ := bs h
  clear h
  refine k_loop (J := fun (x : Int) => [(0, .d false [.sl none (a0.map eRt)]), (3, .p (iV x))]) hl_x2 (wk_of (by kernel_rfl) (by kernel_rfl)) (fun x2 o_x2 h hy_x2 => ?_)
  unfold impl_isRising_b1 at h
  refine k_seq ?_
  refine k_sreg (r_gq [(0, .d false [.sl none (a0.map eRt)]), (3, .p (iV x2)), (7, .p (.bool (decide (x2 < (a0.length : Int)))))] [(2, {n := some a0.length})] (A1 (show (a0.map eRt).length = a0.length from (List.length_map ..)))) ?_
  refine kc (decide (x2 < (a0.length : Int))) (fun hc5_3 => ?_) (fun hc5_3 => ?_)
  ·replace h := ite_t hc5_3 h
   refine k_skip ?_
   refine q_n ?_
   refine k_seq ?_
   refine k_block ?_
   replace h := bs h
   obtain ⟨v5, hv5, h⟩ := h
   replace h := bs h
   obtain ⟨v6, hv6, h⟩ := h
   replace h := bs h
   obtain ⟨v7, hv7, h⟩ := h
   refine k_sreg (r_dq Try_mixed 9 [] [(0, .d false [.sl none (a0.map eRt)]), (3, .p (iV x2)), (20, .p (.bool (!v7)))] [(3, {row := some (eRt v5)}), (7, {row := some (eRt v6)}), (9, {call := some (none, [.p (.bool v7)], true)})] (A5 (idxO_some hv5).1 (map_get eRt (idxO_some hv5).2) (idxO_some hv6).1 (map_get eRt (idxO_some hv6).2) (wk_impl_less hv7))) ?_
   refine kc (!v7) (fun hc6_7 => ?_) (fun hc6_7 => ?_)
   ·replace h := ite_t hc6_7 h
    refine k_sreg (r_gq [(2, .p (.bool false))] [] trivial) ?_
    refine k_ret ?_
    refine b_r ?_
    refine q_r ?_
    refine lq_r ?_
    refine b_r ?_
    refine q_r ?_
    have hyy := hy_x2 _ (oi h).symm
    subst hyy
    have h := hk_x2
    dsimp only [Sum.elim] at h
    obtain rfl := oi h
    exact er [(.p (.bool false), 2)]
   ·replace h := ite_f hc6_7 h
    refine k_skip ?_
    refine b_n ?_
    refine q_n ?_
    refine k_reg (r_gq [(0, .d false [.sl none (a0.map eRt)]), (3, .p (iV (w64 (x2 + 1))))] [] trivial) ?_
    exact lqn (w64 (x2 + 1)) h
  ·replace h := ite_f hc5_3 h
   refine k_exit ?_
   refine q_x ?_
   refine lq_x ?_
   refine b_x ?_
   have hyy := hy_x2 _ (oi h).symm
   subst hyy
   have h := hk_x2
   dsimp only [Sum.elim] at h
   refine q_n ?_
   exact jx () h
theorem wk_impl_isMap {a0 : (List Qp)}  {r : Bool} (h : impl_isMap a0 = some r) : Meets Try.prog 53 [.d false [.sl none (a0.map ePt)]] { vals := [.p (.bool r)] } := by
 refine mo Try.func53 [(0, .d false [.sl none (a0.map ePt)])] ?_
 unfold impl_isMap at h
 refine k_sreg (r_gq [(0, .d false [.sl none (a0.map ePt)])] [] trivial) ?_
 refine k_seq ?_
 replace h := bs h
 obtain ⟨v1, hv1, h⟩ := h
 replace h := bs h
 obtain ⟨w3, hw3, h⟩ := h
 refine k_sreg (l1 := [(0, .d false [.sl none (a0.map ePt)]), (10, .p (.bool w3))]) ?_ ?_
 ·clear h
  rcases ft (!v1) with ha0 | ha0
  ·replace hw3 := ite_t ha0 hw3
   have hw3 := oi hw3
   subst hw3
   exact (r_gq [(0, .d false [.sl none (a0.map ePt)]), (10, .p (.bool true))] [(1, {n := some a0.length}), (2, {call := some (none, [.p (.bool v1)], true)}), (5, gT), (6, gT), (7, bT)] (A5 (show (a0.map ePt).length = a0.length from (List.length_map ..)) (wk_impl_within hv1) ha0 ha0 ha0))
  ·replace hw3 := ite_f ha0 hw3
   replace hw3 := bs hw3
   obtain ⟨v2, hv2, hw3⟩ := hw3
   have hw3 := oi hw3
   subst hw3
   exact (r_gq [(0, .d false [.sl none (a0.map ePt)]), (10, .p (.bool v2))] [(1, {n := some a0.length}), (2, {call := some (none, [.p (.bool v1)], true)}), (5, gF), (6, {g := some false, call := some (none, [.p (.bool v2)], true)}), (7, bF)] (A6 (show (a0.map ePt).length = a0.length from (List.length_map ..)) (wk_impl_within hv1) ha0 ha0 (show Meets Try.prog 90 ([.d false [.sl none (a0.map ePt)], .v (.func (.func 91) #[] #[])] ++ []) { vals := [.p (.bool v2)] } from (wk_slices_ContainsFunc_Limpl_Point_impl_Point_v (fun x0 y hy => wk_impl_isMap_1 hy) hv2)) ha0))
 ·refine kc w3 (fun hc2_3 => ?_) (fun hc2_3 => ?_)
  ·replace h := ite_t hc2_3 h
   refine k_sreg (r_gq [(2, .p (.bool false))] [] trivial) ?_
   refine k_ret ?_
   refine q_r ?_
   obtain rfl := oi h
   exact er [(.p (.bool false), 2)]
  ·replace h := ite_f hc2_3 h
   refine k_skip ?_
   refine q_n ?_
   replace h := bs h
   obtain ⟨v5, hv5, h⟩ := h
   replace h := bs h
   obtain ⟨v6, hv6, h⟩ := h
   replace h := bs h
   obtain ⟨w11, hw11, h⟩ := h
   refine k_sreg (l1 := [(2, .p (.bool w11))]) ?_ ?_
   ·clear h
    rcases ft ((v5.1.1 == v6.1) && (v5.1.2 == v6.2)) with ha1 | ha1
    ·replace hw11 := ite_t ha1 hw11
     replace hw11 := bs hw11
     obtain ⟨v7, hv7, hw11⟩ := hw11
     replace hw11 := bs hw11
     obtain ⟨v8, hv8, hw11⟩ := hw11
     rcases ft ((v7.1.1 == v8.1) && (v7.1.2 == v8.2)) with ha2 | ha2
     ·replace hw11 := ite_t ha2 hw11
      replace hw11 := bs hw11
      obtain ⟨v9, hv9, hw11⟩ := hw11
      replace hw11 := bs hw11
      obtain ⟨v10, hv10, hw11⟩ := hw11
      have hw11 := oi hw11
      subst hw11
      exact (r_dq Try_mixed 15 [] [(2, .p (.bool v10))] [(1, {row := some (ePt v5)}), (4, {call := some (none, [.p (vRt v6)], true)}), (5, {pv := some (.bool ((v5.1.1 == v6.1) && (v5.1.2 == v6.2)))}), (7, gT), (8, gT), (9, {g := some true, n := some a0.length}), (10, gT), (11, {g := some true, row := some (ePt v7)}), (12, gT), (13, gT), (14, {g := some true, call := some (none, [.p (vRt v8)], true)}), (15, {g := some true, pv := some (.bool ((v7.1.1 == v8.1) && (v7.1.2 == v8.2)))}), (16, bT), (18, gT), (19, {g := some true, call := some (none, [.ov false [.sl (some 25) (v9.map eRt)]], true)}), (20, {g := some true, call := some (some [.d false [.sl none (v9.map eRt)]], [.p (.bool v10)], true)}), (21, bT)] (B6 (idxO_some hv5).1 (map_get ePt (idxO_some hv5).2) (wk_impl_zero hv6) (show PureAt Try.prog (.binOp .eql 25 (.tmp 14) (.tmp 15) 25) [vRt v5.1, vRt v6] (.bool ((v5.1.1 == v6.1) && (v5.1.2 == v6.2))) from (pure_eql2 (by kernel_rfl))) ha1 ha1 (B6 ha1 (show (a0.map ePt).length = a0.length from (List.length_map ..)) ha1 ha1 (idxO_some hv7).1 (map_get ePt (idxO_some hv7).2) (B6 ha1 ha1 ha1 (wk_impl_oneRat hv8) ha1 (show PureAt Try.prog (.binOp .eql 25 (.tmp 24) (.tmp 25) 25) [vRt v7.1, vRt v8] (.bool ((v7.1.1 == v8.1) && (v7.1.2 == v8.2))) from (pure_eql2 (by kernel_rfl))) (B6 ha1 ha2 ha2 (wk_impl_xsOf hv9) (show List.all [.ov false [.sl (some 25) (v9.map eRt)]] simpleR = true from (sa_o (wnR1 (wnL_enc (wn_P wn_I wn_I)) rfl) rfl)) ha2 (A3 (show ([.d false [.sl none (eraL (v9.map eRt))]] : List Arg) = [.d false [.sl none (v9.map eRt)]] from (by simp only [eraL_enc (h := eRt) (era_P er_I er_I)])) (wk_impl_isRising hv10) ha2))))))
     ·replace hw11 := ite_f ha2 hw11
      have hw11 := oi hw11
      subst hw11
      exact (r_dq Try_mixed 15 [] [(2, .p (.bool false))] [(1, {row := some (ePt v5)}), (4, {call := some (none, [.p (vRt v6)], true)}), (5, {pv := some (.bool ((v5.1.1 == v6.1) && (v5.1.2 == v6.2)))}), (7, gT), (8, gT), (9, {g := some true, n := some a0.length}), (10, gT), (11, {g := some true, row := some (ePt v7)}), (12, gT), (13, gT), (14, {g := some true, call := some (none, [.p (vRt v8)], true)}), (15, {g := some true, pv := some (.bool ((v7.1.1 == v8.1) && (v7.1.2 == v8.2)))}), (16, bT), (18, gF), (19, gF), (20, gF), (21, bF)] (B6 (idxO_some hv5).1 (map_get ePt (idxO_some hv5).2) (wk_impl_zero hv6) (show PureAt Try.prog (.binOp .eql 25 (.tmp 14) (.tmp 15) 25) [vRt v5.1, vRt v6] (.bool ((v5.1.1 == v6.1) && (v5.1.2 == v6.2))) from (pure_eql2 (by kernel_rfl))) ha1 ha1 (B6 ha1 (show (a0.map ePt).length = a0.length from (List.length_map ..)) ha1 ha1 (idxO_some hv7).1 (map_get ePt (idxO_some hv7).2) (B6 ha1 ha1 ha1 (wk_impl_oneRat hv8) ha1 (show PureAt Try.prog (.binOp .eql 25 (.tmp 24) (.tmp 25) 25) [vRt v7.1, vRt v8] (.bool ((v7.1.1 == v8.1) && (v7.1.2 == v8.2))) from (pure_eql2 (by kernel_rfl))) (A5 ha1 ha2 ha2 ha2 ha2)))))
    ·replace hw11 := ite_f ha1 hw11
     have hw11 := oi hw11
     subst hw11
     exact (r_dq Try_mixed 15 [] [(2, .p (.bool false))] [(1, {row := some (ePt v5)}), (4, {call := some (none, [.p (vRt v6)], true)}), (5, {pv := some (.bool ((v5.1.1 == v6.1) && (v5.1.2 == v6.2)))}), (7, gF), (8, gF), (9, gF), (10, gF), (11, gF), (12, gF), (13, gF), (14, gF), (15, gF), (16, bF), (18, gF), (19, gF), (20, gF), (21, bF)] (B6 (idxO_some hv5).1 (map_get ePt (idxO_some hv5).2) (wk_impl_zero hv6) (show PureAt Try.prog (.binOp .eql 25 (.tmp 14) (.tmp 15) 25) [vRt v5.1, vRt v6] (.bool ((v5.1.1 == v6.1) && (v5.1.2 == v6.2))) from (pure_eql2 (by kernel_rfl))) ha1 ha1 (B6 ha1 ha1 ha1 ha1 ha1 ha1 (A6 ha1 ha1 (show false = false from rfl) (show false = false from rfl) (show false = false from rfl) (show false = false from rfl)))))
   ·refine k_ret ?_
    obtain rfl := oi h
    exact er [(.p (.bool w11), 2)]
theorem wk_slices_IndexFunc_Limpl_Interval_impl_Interval_v {a0 : (List Qp)} {a1 : (Qp → Option Bool)} {F1 : FuncId} (hp1 : ∀ x0 y, a1 x0 = some y → Meets Try.prog F1 ([.v (vPt x0)] ++ []) { vals := [.p (.bool y)] }) {r : Int} (h : slices_IndexFunc_Limpl_Interval_impl_Interval a0 a1 = some r) : Meets Try.prog 153 [.d false [.sl none (a0.map ePt)], .v (.func (.func F1) #[] #[])] { vals := [.p (iV r)] } := by
 refine mo Try.func153 [(0, .d false [.sl none (a0.map ePt)]), (1, .p (.func (.func F1) #[] #[]))] ?_
 unfold slices_IndexFunc_Limpl_Interval_impl_Interval at h
 refine k_sreg (r_gq [(0, .d false [.sl none (a0.map ePt)]), (1, .p (.func (.func F1) #[] #[]))] [] trivial) ?_
 refine k_join (J := fun (x : Unit) => []) (K := fun x => slices_IndexFunc_Limpl_Interval_impl_Interval_k1 x = some r) (fun x1 h => ?_) ?_
 ·unfold slices_IndexFunc_Limpl_Interval_impl_Interval_k1 at h
  refine k_sreg (r_gq [(4, .p (iV (-1)))] [] trivial) ?_
  refine k_ret ?_
  obtain rfl := oi h
  exact er [(.p (iV (-1)), 4)]
 ·refine k_sreg (r_gq [(0, .d false [.sl none (a0.map ePt)]), (1, .p (.func (.func F1) #[] #[])), (7, .p (iV (a0.length : Int))), (8, .p (iV 0))] [(1, {n := some a0.length})] (A1 (show (a0.map ePt).length = a0.length from (List.length_map ..)))) ?_
  refine k_block ?_
  obtain ⟨y3, hl_x2, hk_x2⟩ := bs h
  clear h
  refine k_loop (J := fun (x : Int) => [(0, .d false [.sl none (a0.map ePt)]), (1, .p (.func (.func F1) #[] #[])), (7, .p (iV (a0.length : Int))), (8, .p (iV x))]) hl_x2 (wk_of (by kernel_rfl) (by kernel_rfl)) (fun x2 o_x2 h hy_x2 => ?_)
  unfold slices_IndexFunc_Limpl_Interval_impl_Interval_b1 at h
  refine k_sreg (r_gq [(0, .d false [.sl none (a0.map ePt)]), (1, .p (.func (.func F1) #[] #[])), (7, .p (iV (a0.length : Int))), (8, .p (iV x2)), (9, .p (.bool (decide (x2 < (a0.length : Int)))))] [] trivial) ?_
  refine k_seq ?_
  refine kc (decide (x2 < (a0.length : Int))) (fun hc5_3 => ?_) (fun hc5_3 => ?_)
  ·replace h := ite_t hc5_3 h
   refine k_skip ?_
   refine q_n ?_
   refine k_seq ?_
   refine k_block ?_
   refine k_sreg (r_gq [(0, .d false [.sl none (a0.map ePt)]), (1, .p (.func (.func F1) #[] #[])), (5, .p (iV x2)), (7, .p (iV (a0.length : Int))), (8, .p (iV x2))] [] trivial) ?_
   replace h := bs h
   obtain ⟨v5, hv5, h⟩ := h
   replace h := bs h
   obtain ⟨v6, hv6, h⟩ := h
   refine k_sreg (r_gq [(0, .d false [.sl none (a0.map ePt)]), (1, .p (.func (.func F1) #[] #[])), (5, .p (iV x2)), (7, .p (iV (a0.length : Int))), (8, .p (iV x2)), (16, .p (.bool v6))] [(3, {row := some (ePt v5)}), (5, {call := some (none, [.p (.bool v6)], true)})] (A3 (idxO_some hv5).1 (map_get ePt (idxO_some hv5).2) (hp1 _ _ hv6))) ?_
   refine kc v6 (fun hc6_6 => ?_) (fun hc6_6 => ?_)
   ·replace h := ite_t hc6_6 h
    refine k_sreg (r_gq [(4, .p (iV x2))] [] trivial) ?_
    refine k_ret ?_
    refine b_r ?_
    refine q_r ?_
    refine lq_r ?_
    refine b_r ?_
    refine q_r ?_
    have hyy := hy_x2 _ (oi h).symm
    subst hyy
    have h := hk_x2
    dsimp only [Sum.elim] at h
    obtain rfl := oi h
    exact er [(.p (iV x2), 4)]
   ·replace h := ite_f hc6_6 h
    refine k_skip ?_
    refine b_n ?_
    refine q_n ?_
    refine k_reg (r_gq [(0, .d false [.sl none (a0.map ePt)]), (1, .p (.func (.func F1) #[] #[])), (7, .p (iV (a0.length : Int))), (8, .p (iV (w64 (x2 + 1))))] [] trivial) ?_
    exact lqn (w64 (x2 + 1)) h
  ·replace h := ite_f hc5_3 h
   refine k_exit ?_
   refine q_x ?_
   refine lq_x ?_
   refine b_x ?_
   have hyy := hy_x2 _ (oi h).symm
   subst hyy
   have h := hk_x2
   dsimp only [Sum.elim] at h
   refine q_n ?_
   exact jx () h
theorem wk_slices_ContainsFunc_Limpl_Interval_impl_Interval_v {a0 : (List Qp)} {a1 : (Qp → Option Bool)} {F1 : FuncId} (hp1 : ∀ x0 y, a1 x0 = some y → Meets Try.prog F1 ([.v (vPt x0)] ++ []) { vals := [.p (.bool y)] }) {r : Bool} (h : slices_ContainsFunc_Limpl_Interval_impl_Interval a0 a1 = some r) : Meets Try.prog 133 [.d false [.sl none (a0.map ePt)], .v (.func (.func F1) #[] #[])] { vals := [.p (.bool r)] } := by
 refine mo Try.func133 [(0, .d false [.sl none (a0.map ePt)]), (1, .p (.func (.func F1) #[] #[]))] ?_
 unfold slices_ContainsFunc_Limpl_Interval_impl_Interval at h
 refine k_sreg (r_gq [(0, .d false [.sl none (a0.map ePt)]), (1, .p (.func (.func F1) #[] #[]))] [] trivial) ?_
 replace h := bs h
 obtain ⟨v1, hv1, h⟩ := h
 refine k_sreg (r_gq [(4, .p (.bool (decide (v1 ≥ 0))))] [(2, {call := some (none, [.p (iV v1)], true)})] (A1 (show Meets Try.prog 153 ([.d false [.sl none (a0.map ePt)], .v (.func (.func F1) #[] #[])] ++ []) { vals := [.p (iV v1)] } from (wk_slices_IndexFunc_Limpl_Interval_impl_Interval_v hp1 hv1)))) ?_
 refine k_ret ?_
 obtain rfl := oi h
 exact er [(.p (.bool (decide (v1 ≥ 0))), 4)]
theorem wk_slices_IndexFunc_Limpl_Rat_impl_Rat_v {a0 : (List Qr)} {a1 : (Qr → Option Bool)} {F1 : FuncId} (hp1 : ∀ x0 y, a1 x0 = some y → Meets Try.prog F1 ([.v (vRt x0)] ++ []) { vals := [.p (.bool y)] }) {r : Int} (h : slices_IndexFunc_Limpl_Rat_impl_Rat a0 a1 = some r) : Meets Try.prog 144 [.d false [.sl none (a0.map eRt)], .v (.func (.func F1) #[] #[])] { vals := [.p (iV r)] } := by
 refine mo Try.func144 [(0, .d false [.sl none (a0.map eRt)]), (1, .p (.func (.func F1) #[] #[]))] ?_
 unfold slices_IndexFunc_Limpl_Rat_impl_Rat at h
 refine k_sreg (r_gq [(0, .d false [.sl none (a0.map eRt)]), (1, .p (.func (.func F1) #[] #[]))] [] trivial) ?_
 refine k_join (J := fun (x : Unit) => []) (K := fun x => slices_IndexFunc_Limpl_Rat_impl_Rat_k1 x = some r) (fun x1 h => ?_) ?_
 ·unfold slices_IndexFunc_Limpl_Rat_impl_Rat_k1 at h
  refine k_sreg (r_gq [(4, .p (iV (-1)))] [] trivial) ?_
  refine k_ret ?_
  obtain rfl := oi h
  exact er [(.p (iV (-1)), 4)]
 ·refine k_sreg (r_gq [(0, .d false [.sl none (a0.map eRt)]), (1, .p (.func (.func F1) #[] #[])), (7, .p (iV (a0.length : Int))), (8, .p (iV 0))] [(1, {n := some a0.length})] (A1 (show (a0.map eRt).length = a0.length from (List.length_map ..)))) ?_
  refine k_block ?_
  obtain ⟨y3, hl_x2, hk_x2⟩ := bs h
  clear h
  refine k_loop (J := fun (x : Int) => [(0, .d false [.sl none (a0.map eRt)]), (1, .p (.func (.func F1) #[] #[])), (7, .p (iV (a0.length : Int))), (8, .p (iV x))]) hl_x2 (wk_of (by kernel_rfl) (by kernel_rfl)) (fun x2 o_x2 h hy_x2 => ?_)
  unfold slices_IndexFunc_Limpl_Rat_impl_Rat_b1 at h
  refine k_sreg (r_gq [(0, .d false [.sl none (a0.map eRt)]), (1, .p (.func (.func F1) #[] #[])), (7, .p (iV (a0.length : Int))), (8, .p (iV x2)), (9, .p (.bool (decide (x2 < (a0.length : Int)))))] [] trivial) ?_
  refine k_seq ?_
  refine kc (decide (x2 < (a0.length : Int))) (fun hc5_3 => ?_) (fun hc5_3 => ?_)
  ·replace h := ite_t hc5_3 h
   refine k_skip ?_
   refine q_n ?_
   refine k_seq ?_
   refine k_block ?_
   refine k_sreg (r_gq [(0, .d false [.sl none (a0.map eRt)]), (1, .p (.func (.func F1) #[] #[])), (5, .p (iV x2)), (7, .p (iV (a0.length : Int))), (8, .p (iV x2))] [] trivial) ?_
   replace h := bs h
   obtain ⟨v5, hv5, h⟩ := h
   replace h := bs h
   obtain ⟨v6, hv6, h⟩ := h
   refine k_sreg (r_gq [(0, .d false [.sl none (a0.map eRt)]), (1, .p (.func (.func F1) #[] #[])), (5, .p (iV x2)), (7, .p (iV (a0.length : Int))), (8, .p (iV x2)), (16, .p (.bool v6))] [(3, {row := some (eRt v5)}), (5, {call := some (none, [.p (.bool v6)], true)})] (A3 (idxO_some hv5).1 (map_get eRt (idxO_some hv5).2) (hp1 _ _ hv6))) ?_
   refine kc v6 (fun hc6_6 => ?_) (fun hc6_6 => ?_)
   ·replace h := ite_t hc6_6 h
    refine k_sreg (r_gq [(4, .p (iV x2))] [] trivial) ?_
    refine k_ret ?_
    refine b_r ?_
    refine q_r ?_
    refine lq_r ?_
    refine b_r ?_
    refine q_r ?_
    have hyy := hy_x2 _ (oi h).symm
    subst hyy
    have h := hk_x2
    dsimp only [Sum.elim] at h
    obtain rfl := oi h
    exact er [(.p (iV x2), 4)]
   ·replace h := ite_f hc6_6 h
    refine k_skip ?_
    refine b_n ?_
    refine q_n ?_
    refine k_reg (r_gq [(0, .d false [.sl none (a0.map eRt)]), (1, .p (.func (.func F1) #[] #[])), (7, .p (iV (a0.length : Int))), (8, .p (iV (w64 (x2 + 1))))] [] trivial) ?_
    exact lqn (w64 (x2 + 1)) h
  ·replace h := ite_f hc5_3 h
   refine k_exit ?_
   refine q_x ?_
   refine lq_x ?_
   refine b_x ?_
   have hyy := hy_x2 _ (oi h).symm
   subst hyy
   have h := hk_x2
   dsimp only [Sum.elim] at h
   refine q_n ?_
   exact jx () h
theorem wk_slices_ContainsFunc_Limpl_Rat_impl_Rat_v {a0 : (List Qr)} {a1 : (Qr → Option Bool)} {F1 : FuncId} (hp1 : ∀ x0 y, a1 x0 = some y → Meets Try.prog F1 ([.v (vRt x0)] ++ []) { vals := [.p (.bool y)] }) {r : Bool} (h : slices_ContainsFunc_Limpl_Rat_impl_Rat a0 a1 = some r) : Meets Try.prog 123 [.d false [.sl none (a0.map eRt)], .v (.func (.func F1) #[] #[])] { vals := [.p (.bool r)] } := by
 refine mo Try.func123 [(0, .d false [.sl none (a0.map eRt)]), (1, .p (.func (.func F1) #[] #[]))] ?_
 unfold slices_ContainsFunc_Limpl_Rat_impl_Rat at h
 refine k_sreg (r_gq [(0, .d false [.sl none (a0.map eRt)]), (1, .p (.func (.func F1) #[] #[]))] [] trivial) ?_
 replace h := bs h
 obtain ⟨v1, hv1, h⟩ := h
 refine k_sreg (r_gq [(4, .p (.bool (decide (v1 ≥ 0))))] [(2, {call := some (none, [.p (iV v1)], true)})] (A1 (show Meets Try.prog 144 ([.d false [.sl none (a0.map eRt)], .v (.func (.func F1) #[] #[])] ++ []) { vals := [.p (iV v1)] } from (wk_slices_IndexFunc_Limpl_Rat_impl_Rat_v hp1 hv1)))) ?_
 refine k_ret ?_
 obtain rfl := oi h
 exact er [(.p (.bool (decide (v1 ≥ 0))), 4)]
theorem wk_impl_areUnits_1 {a0 : Qr}  {r : Bool} (h : impl_areUnits_1 a0 = some r) : Meets Try.prog 161 [.v (vRt a0)] { vals := [.p (.bool r)] } := by
 refine mo Try.func161 [(0, .p (vRt a0))] ?_
 unfold impl_areUnits_1 at h
 refine k_sreg (r_gq [(1, .box (eRt a0))] [] trivial) ?_
 replace h := bs h
 obtain ⟨v1, hv1, h⟩ := h
 refine k_sreg (r_gq [(2, .p (.bool (!v1)))] [(1, {call := some (none, [.p (.bool v1)], true)})] (A1 (wk_impl_isUnit hv1))) ?_
 refine k_ret ?_
 obtain rfl := oi h
 exact er [(.p (.bool (!v1)), 2)]
theorem wk_impl_areUnits {a0 : (List Qr)}  {r : Bool} (h : impl_areUnits a0 = some r) : Meets Try.prog 154 [.d false [.sl none (a0.map eRt)]] { vals := [.p (.bool r)] } := by
 refine mo Try.func154 [(0, .d false [.sl none (a0.map eRt)])] ?_
 unfold impl_areUnits at h
 refine k_sreg (r_gq [(0, .d false [.sl none (a0.map eRt)])] [] trivial) ?_
 replace h := bs h
 obtain ⟨v1, hv1, h⟩ := h
 refine k_sreg (r_gq [(2, .p (.bool (!v1)))] [(1, {call := some (none, [.p (.bool v1)], true)})] (A1 (show Meets Try.prog 123 ([.d false [.sl none (a0.map eRt)], .v (.func (.func 161) #[] #[])] ++ []) { vals := [.p (.bool v1)] } from (wk_slices_ContainsFunc_Limpl_Rat_impl_Rat_v (fun x0 y hy => wk_impl_areUnits_1 hy) hv1)))) ?_
 refine k_ret ?_
 obtain rfl := oi h
 exact er [(.p (.bool (!v1)), 2)]
theorem wk_impl_isInterval {a0 : Qp}  {r : Bool} (h : impl_isInterval a0 = some r) : Meets Try.prog 135 [.v (vPt a0)] { vals := [.p (.bool r)] } := by
 refine mo Try.func135 [(0, .p (vPt a0))] ?_
 unfold impl_isInterval at h
 refine k_sreg (r_gq [(1, .box (ePt a0))] [] trivial) ?_
 replace h := bs h
 obtain ⟨v1, hv1, h⟩ := h
 replace h := bs h
 obtain ⟨w3, hw3, h⟩ := h
 refine k_sreg (l1 := [(2, .p (.bool w3))]) ?_ ?_
 ·clear h
  rcases ft v1 with ha0 | ha0
  ·replace hw3 := ite_t ha0 hw3
   replace hw3 := bs hw3
   obtain ⟨v2, hv2, hw3⟩ := hw3
   have hw3 := oi hw3
   subst hw3
   exact (r_gq [(2, .p (.bool v2))] [(5, {call := some (some [.d false [.sl none (([a0.1, a0.2]).map eRt)]], [.p (.bool v1)], true)}), (7, gT), (8, gT), (9, gT), (10, gT), (11, {g := some true, call := some (none, [.p (.bool v2)], true)}), (12, bT)] (B6 (show ([.d false [.sl none (eraL (([a0.1, a0.2]).map eRt))]] : List Arg) = [.d false [.sl none (([a0.1, a0.2]).map eRt)]] from (by simp only [eraL_enc (h := eRt) (era_P er_I er_I)])) (wk_impl_areUnits hv1) ha0 ha0 ha0 ha0 (A3 ha0 (wk_impl_less hv2) ha0)))
  ·replace hw3 := ite_f ha0 hw3
   have hw3 := oi hw3
   subst hw3
   exact (r_gq [(2, .p (.bool false))] [(5, {call := some (some [.d false [.sl none (([a0.1, a0.2]).map eRt)]], [.p (.bool v1)], true)}), (7, gF), (8, gF), (9, gF), (10, gF), (11, gF), (12, bF)] (B6 (show ([.d false [.sl none (eraL (([a0.1, a0.2]).map eRt))]] : List Arg) = [.d false [.sl none (([a0.1, a0.2]).map eRt)]] from (by simp only [eraL_enc (h := eRt) (era_P er_I er_I)])) (wk_impl_areUnits hv1) ha0 ha0 ha0 ha0 (A2 ha0 ha0)))
 ·refine k_ret ?_
  obtain rfl := oi h
  exact er [(.p (.bool w3), 2)]
theorem wk_impl_areIntervals_1 {a0 : Qp}  {r : Bool} (h : impl_areIntervals_1 a0 = some r) : Meets Try.prog 134 [.v (vPt a0)] { vals := [.p (.bool r)] } := by
 refine mo Try.func134 [(0, .p (vPt a0))] ?_
 unfold impl_areIntervals_1 at h
 refine k_sreg (r_gq [(1, .box (ePt a0))] [] trivial) ?_
 replace h := bs h
 obtain ⟨v1, hv1, h⟩ := h
 refine k_sreg (r_gq [(2, .p (.bool (!v1)))] [(1, {call := some (none, [.p (.bool v1)], true)})] (A1 (wk_impl_isInterval hv1))) ?_
 refine k_ret ?_
 obtain rfl := oi h
 exact er [(.p (.bool (!v1)), 2)]
theorem wk_impl_areIntervals {a0 : (List Qp)}  {r : Bool} (h : impl_areIntervals a0 = some r) : Meets Try.prog 109 [.d false [.sl none (a0.map ePt)]] { vals := [.p (.bool r)] } := by
 refine mo Try.func109 [(0, .d false [.sl none (a0.map ePt)])] ?_
 unfold impl_areIntervals at h
 refine k_sreg (r_gq [(0, .d false [.sl none (a0.map ePt)])] [] trivial) ?_
 replace h := bs h
 obtain ⟨v1, hv1, h⟩ := h
 replace h := bs h
 obtain ⟨w3, hw3, h⟩ := h
 refine k_sreg (l1 := [(2, .p (.bool w3))]) ?_ ?_
 ·clear h
  rcases ft v1 with ha0 | ha0
  ·replace hw3 := ite_t ha0 hw3
   replace hw3 := bs hw3
   obtain ⟨v2, hv2, hw3⟩ := hw3
   have hw3 := oi hw3
   subst hw3
   exact (r_gq [(2, .p (.bool (!v2)))] [(1, {n := some a0.length}), (2, {call := some (none, [.p (.bool v1)], true)}), (4, gT), (5, {g := some true, call := some (none, [.p (.bool v2)], true)}), (6, gT), (7, bT)] (B6 (show (a0.map ePt).length = a0.length from (List.length_map ..)) (wk_impl_within hv1) ha0 ha0 (show Meets Try.prog 133 ([.d false [.sl none (a0.map ePt)], .v (.func (.func 134) #[] #[])] ++ []) { vals := [.p (.bool v2)] } from (wk_slices_ContainsFunc_Limpl_Interval_impl_Interval_v (fun x0 y hy => wk_impl_areIntervals_1 hy) hv2)) ha0 (A1 ha0)))
  ·replace hw3 := ite_f ha0 hw3
   have hw3 := oi hw3
   subst hw3
   exact (r_gq [(2, .p (.bool false))] [(1, {n := some a0.length}), (2, {call := some (none, [.p (.bool v1)], true)}), (4, gF), (5, gF), (6, gF), (7, bF)] (A6 (show (a0.map ePt).length = a0.length from (List.length_map ..)) (wk_impl_within hv1) ha0 ha0 ha0 ha0))
 ·refine k_ret ?_
  obtain rfl := oi h
  exact er [(.p (.bool w3), 2)]
theorem wk_impl_emptyGraph {a0 : Int}  {r : (List (List Int))} (h : impl_emptyGraph a0 = some r) : Meets Try.prog 110 [wI a0] { vals := [.ov false [.sl (some 42) (r.map (eO 3 eI))]] } := by
 refine mo Try.func110 [(0, .p (iV a0))] ?_
 unfold impl_emptyGraph at h
 refine k_sreg (r_gq [(0, .p (iV a0))] [] trivial) ?_
 replace h := bs h
 obtain ⟨u1, hu1, h⟩ := h
 refine k_sreg (r_gq [(0, .p (iV a0)), (3, .ov false [.sl (some 42) ((List.replicate (Int.toNat a0) ([] : (List Int))).map (eO 3 eI))])] [(1, {fix := some (6, .ov false [.sl (some 42) ((List.replicate (Int.toNat a0) ([] : (List Int))).map (eO 3 eI))])})] (A4 (show a0 = a0 from rfl) (guardO_some hu1).1 (guardO_some hu1).2 (show (SV.ov false [.sl (some 42) (List.replicate (Int.toNat a0) [.sl (some 3) []])] : SV) = .ov false [.sl (some 42) ((List.replicate (Int.toNat a0) ([] : (List Int))).map (eO 3 eI))] from (congrArg (fun z => SV.ov false [.sl (some 42) z]) (rep_fix (eO 3 eI) ([] : (List Int))))))) ?_
 refine k_join (J := fun (x : (List (List Int))) => [(3, .ov false [.sl (some 42) (x.map (eO 3 eI))])]) (K := fun x => impl_emptyGraph_k1 x = some r) (fun x2 h => ?_) ?_
 ·unfold impl_emptyGraph_k1 at h
  refine k_sreg (r_gq [(2, .ov false [.sl (some 42) (x2.map (eO 3 eI))])] [] trivial) ?_
  refine k_ret ?_
  obtain rfl := oi h
  exact er [(.ov false [.sl (some 42) (x2.map (eO 3 eI))], 2)]
 ·refine k_sreg (r_gq [(0, .p (iV a0)), (3, .ov false [.sl (some 42) ((List.replicate (Int.toNat a0) ([] : (List Int))).map (eO 3 eI))]), (8, .p (iV ((List.replicate (Int.toNat a0) ([] : (List Int))).length : Int))), (9, .p (iV 0))] [(1, {n := some (List.replicate (Int.toNat a0) ([] : (List Int))).length})] (A1 (show ((List.replicate (Int.toNat a0) ([] : (List Int))).map (eO 3 eI)).length = (List.replicate (Int.toNat a0) ([] : (List Int))).length from (List.length_map ..)))) ?_
  refine k_block ?_
  obtain ⟨y4, hl_x3, hk_x3⟩ := bs h
  clear h
  refine k_loop (J := fun (x : ((List (List Int)) × Int)) => [(0, .p (iV a0)), (3, .ov false [.sl (some 42) (x.1.map (eO 3 eI))]), (8, .p (iV ((List.replicate (Int.toNat a0) ([] : (List Int))).length : Int))), (9, .p (iV x.2))]) hl_x3 (wk_of (by kernel_rfl) (by kernel_rfl)) (fun x3 o_x3 h hy_x3 => ?_)
  unfold impl_emptyGraph_b1 at h
  refine k_sreg (r_gq [(0, .p (iV a0)), (3, .ov false [.sl (some 42) (x3.1.map (eO 3 eI))]), (8, .p (iV ((List.replicate (Int.toNat a0) ([] : (List Int))).length : Int))), (9, .p (iV x3.2)), (10, .p (.bool (decide (x3.2 < ((List.replicate (Int.toNat a0) ([] : (List Int))).length : Int)))))] [] trivial) ?_
  refine k_seq ?_
  refine kc (decide (x3.2 < ((List.replicate (Int.toNat a0) ([] : (List Int))).length : Int))) (fun hc5_4 => ?_) (fun hc5_4 => ?_)
  ·replace h := ite_t hc5_4 h
   refine k_skip ?_
   refine q_n ?_
   refine k_seq ?_
   refine k_block ?_
   refine k_sreg (r_gq [(0, .p (iV a0)), (3, .ov false [.sl (some 42) (x3.1.map (eO 3 eI))]), (4, .p (iV x3.2)), (8, .p (iV ((List.replicate (Int.toNat a0) ([] : (List Int))).length : Int))), (9, .p (iV x3.2))] [] trivial) ?_
   replace h := bs h
   obtain ⟨v6, hv6, h⟩ := h
   refine k_reg (r_gq [(0, .p (iV a0)), (3, .ov false [.sl (some 42) ((x3.1.set (Int.toNat x3.2) (List.replicate (Int.toNat a0) (0 : Int))).map (eO 3 eI))]), (8, .p (iV ((List.replicate (Int.toNat a0) ([] : (List Int))).length : Int))), (9, .p (iV x3.2))] [(3, {fix := some (15, .ov false [.sl (some 3) ((List.replicate (Int.toNat a0) (0 : Int)).map eI)])}), (4, {row := some [.sl (some 3) (v6.map eI)]}), (5, {row := some [.sl (some 3) (v6.map eI)], fix := some (3, .ov false [.sl (some 42) ((x3.1.set (Int.toNat x3.2) (List.replicate (Int.toNat a0) (0 : Int))).map (eO 3 eI))])})] (B6 (show a0 = a0 from rfl) (guardO_some hu1).1 (guardO_some hu1).2 (show (SV.ov false [.sl (some 3) (List.replicate (Int.toNat a0) [rI 0])] : SV) = .ov false [.sl (some 3) ((List.replicate (Int.toNat a0) (0 : Int)).map eI)] from (congrArg (fun z => SV.ov false [.sl (some 3) z]) (rep_fix eI (0 : Int)))) (idxO_some hv6).1 (map_get (eO 3 eI) (idxO_some hv6).2) (A2 (show getRow [[.sl (some 42) (x3.1.map (eO 3 eI))]] [(0, 0), ((Int.toNat x3.2), 0)] = some [.sl (some 3) (v6.map eI)] from ((gr0 rfl).trans (gre (map_get (eO 3 eI) (idxO_some hv6).2)))) (show (SV.ov false [.sl (some 42) (setL (x3.1.map (eO 3 eI)) [((Int.toNat x3.2), 0)] [.sl (some 3) ((List.replicate (Int.toNat a0) (0 : Int)).map eI)])] : SV) = .ov false [.sl (some 42) ((x3.1.set (Int.toNat x3.2) (List.replicate (Int.toNat a0) (0 : Int))).map (eO 3 eI))] from (congrArg (fun z => SV.ov false [.sl (some 42) z]) (set1 (f := (eO 3 eI)) (y := (List.replicate (Int.toNat a0) (0 : Int))) (idxO_some hv6).2 rfl)))))) ?_
   refine b_n ?_
   refine q_n ?_
   refine k_reg (r_gq [(0, .p (iV a0)), (3, .ov false [.sl (some 42) ((x3.1.set (Int.toNat x3.2) (List.replicate (Int.toNat a0) (0 : Int))).map (eO 3 eI))]), (8, .p (iV ((List.replicate (Int.toNat a0) ([] : (List Int))).length : Int))), (9, .p (iV (w64 (x3.2 + 1))))] [] trivial) ?_
   exact lqn ((x3.1.set (Int.toNat x3.2) (List.replicate (Int.toNat a0) (0 : Int))), (w64 (x3.2 + 1))) h
  ·replace h := ite_f hc5_4 h
   refine k_exit ?_
   refine q_x ?_
   refine lq_x ?_
   refine b_x ?_
   have hyy := hy_x3 _ (oi h).symm
   subst hyy
   have h := hk_x3
   refine q_n ?_
   exact jx x3.1 h
theorem wk_slices_IndexFunc_Limpl_Point_impl_Point_d {a0 : (List Qp)} {a1 : (Qp → Option Bool)} {F1 : FuncId} {K1 : List (Bool × List C)} (hp1 : ∀ x0 y, a1 x0 = some y → Meets Try.prog F1 ([.v (vPt x0)] ++ (K1.map fun (g, cs) => mkA g cs)) { vals := [.p (.bool y)] }) {r : Int} (h : slices_IndexFunc_Limpl_Point_impl_Point a0 a1 = some r) : Meets Try.prog 117 [.d false [.sl none (a0.map ePt)], .d false [.fn F1 K1]] { vals := [.p (iV r)] } := by
 refine mo Try.func117 [(0, .d false [.sl none (a0.map ePt)]), (1, .d false [.fn F1 K1])] ?_
 unfold slices_IndexFunc_Limpl_Point_impl_Point at h
 refine k_sreg (r_gq [(0, .d false [.sl none (a0.map ePt)]), (1, .d false [.fn F1 K1])] [] trivial) ?_
 refine k_join (J := fun (x : Unit) => []) (K := fun x => slices_IndexFunc_Limpl_Point_impl_Point_k1 x = some r) (fun x1 h => ?_) ?_
 ·unfold slices_IndexFunc_Limpl_Point_impl_Point_k1 at h
  refine k_sreg (r_gq [(4, .p (iV (-1)))] [] trivial) ?_
  refine k_ret ?_
  obtain rfl := oi h
  exact er [(.p (iV (-1)), 4)]
 ·refine k_sreg (r_gq [(0, .d false [.sl none (a0.map ePt)]), (1, .d false [.fn F1 K1]), (7, .p (iV (a0.length : Int))), (8, .p (iV 0))] [(1, {n := some a0.length})] (A1 (show (a0.map ePt).length = a0.length from (List.length_map ..)))) ?_
  refine k_block ?_
  obtain ⟨y3, hl_x2, hk_x2⟩ := bs h
  clear h
  refine k_loop (J := fun (x : Int) => [(0, .d false [.sl none (a0.map ePt)]), (1, .d false [.fn F1 K1]), (7, .p (iV (a0.length : Int))), (8, .p (iV x))]) hl_x2 (wk_of (by kernel_rfl) (by kernel_rfl)) (fun x2 o_x2 h hy_x2 => ?_)
  unfold slices_IndexFunc_Limpl_Point_impl_Point_b1 at h
  refine k_sreg (r_gq [(0, .d false [.sl none (a0.map ePt)]), (1, .d false [.fn F1 K1]), (7, .p (iV (a0.length : Int))), (8, .p (iV x2)), (9, .p (.bool (decide (x2 < (a0.length : Int)))))] [] trivial) ?_
  refine k_seq ?_
  refine kc (decide (x2 < (a0.length : Int))) (fun hc5_3 => ?_) (fun hc5_3 => ?_)
  ·replace h := ite_t hc5_3 h
   refine k_skip ?_
   refine q_n ?_
   refine k_seq ?_
   refine k_block ?_
   refine k_sreg (r_gq [(0, .d false [.sl none (a0.map ePt)]), (1, .d false [.fn F1 K1]), (5, .p (iV x2)), (7, .p (iV (a0.length : Int))), (8, .p (iV x2))] [] trivial) ?_
   replace h := bs h
   obtain ⟨v5, hv5, h⟩ := h
   replace h := bs h
   obtain ⟨v6, hv6, h⟩ := h
   refine k_sreg (r_gq [(0, .d false [.sl none (a0.map ePt)]), (1, .d false [.fn F1 K1]), (5, .p (iV x2)), (7, .p (iV (a0.length : Int))), (8, .p (iV x2)), (16, .p (.bool v6))] [(3, {row := some (ePt v5)}), (5, {call := some (none, [.p (.bool v6)], true)})] (A3 (idxO_some hv5).1 (map_get ePt (idxO_some hv5).2) (hp1 _ _ hv6))) ?_
   refine kc v6 (fun hc6_6 => ?_) (fun hc6_6 => ?_)
   ·replace h := ite_t hc6_6 h
    refine k_sreg (r_gq [(4, .p (iV x2))] [] trivial) ?_
    refine k_ret ?_
    refine b_r ?_
    refine q_r ?_
    refine lq_r ?_
    refine b_r ?_
    refine q_r ?_
    have hyy := hy_x2 _ (oi h).symm
    subst hyy
    have h := hk_x2
    dsimp only [Sum.elim] at h
    obtain rfl := oi h
    exact er [(.p (iV x2), 4)]
   ·replace h := ite_f hc6_6 h
    refine k_skip ?_
    refine b_n ?_
    refine q_n ?_
    refine k_reg (r_gq [(0, .d false [.sl none (a0.map ePt)]), (1, .d false [.fn F1 K1]), (7, .p (iV (a0.length : Int))), (8, .p (iV (w64 (x2 + 1))))] [] trivial) ?_
    exact lqn (w64 (x2 + 1)) h
  ·replace h := ite_f hc5_3 h
   refine k_exit ?_
   refine q_x ?_
   refine lq_x ?_
   refine b_x ?_
   have hyy := hy_x2 _ (oi h).symm
   subst hyy
   have h := hk_x2
   dsimp only [Sum.elim] at h
   refine q_n ?_
   exact jx () h
theorem wk_impl_pieceAt_1 {a0 : Qp} {c0 : Qr}  {r : Bool} (h : impl_pieceAt_1 a0 c0 = some r) : Meets Try.prog 159 [.v (vPt a0), .d false [.pt (eRt c0)]] { vals := [.p (.bool r)] } := by
 refine mo Try.func159 [(0, .p (vPt a0)), (1, .d false [.pt (eRt c0)])] ?_
 unfold impl_pieceAt_1 at h
 refine k_sreg (r_gq [(1, .d false [.pt (eRt c0)]), (2, .box (ePt a0))] [] trivial) ?_
 replace h := bs h
 obtain ⟨v1, hv1, h⟩ := h
 refine k_sreg (r_gq [(3, .p (.bool (!v1)))] [(3, {call := some (none, [.p (.bool v1)], true)})] (A1 (wk_impl_less hv1))) ?_
 refine k_ret ?_
 obtain rfl := oi h
 exact er [(.p (.bool (!v1)), 3)]
theorem wk_impl_pieceAt {a0 : (List Qp)} {a1 : Qr}  {r : Int} (h : impl_pieceAt a0 a1 = some r) : Meets Try.prog 146 [.d false [.sl none (a0.map ePt)], .v (vRt a1)] { vals := [.p (iV r)] } := by
 refine mo Try.func146 [(0, .d false [.sl none (a0.map ePt)]), (1, .p (vRt a1))] ?_
 unfold impl_pieceAt at h
 refine k_sreg (r_gq [(0, .d false [.sl none (a0.map ePt)]), (3, .box (eRt a1))] [] trivial) ?_
 refine k_frz 3 (eRt a1) (eRt a1) [(0, .d false [.sl none (a0.map ePt)]), (3, .d false [.pt (eRt a1)])] (by kernel_rfl) (erc_raw (erc_raw rfl)) (by kernel_rfl) (by kernel_rfl) ?_
 replace h := bs h
 obtain ⟨v1, hv1, h⟩ := h
 refine k_sreg (r_gq [(5, .p (iV v1))] [(2, {call := some (none, [.p (iV v1)], true)})] (A1 (show Meets Try.prog 117 ([.d false [.sl none (a0.map ePt)], .d false [.fn 159 [(false, [.pt (eRt a1)])]]] ++ []) { vals := [.p (iV v1)] } from (wk_slices_IndexFunc_Limpl_Point_impl_Point_d (fun x0 y hy => wk_impl_pieceAt_1 hy) hv1)))) ?_
 refine k_sreg (r_gq [(4, .p (iV (if (w64 (v1 - 1)) < 0 then 0 else (w64 (v1 - 1)))))] [] trivial) ?_
 refine k_ret ?_
 obtain rfl := oi h
 exact er [(.p (iV (if (w64 (v1 - 1)) < 0 then 0 else (w64 (v1 - 1)))), 4)]
theorem wk_impl_negated {a0 : Qr}  {r : Qr} (h : impl_negated a0 = some r) : Meets Try.prog 157 [.v (vRt a0)] { vals := [.p (vRt r)] } := by
 refine mo Try.func157 [(0, .p (vRt a0))] ?_
 unfold impl_negated at h
 refine k_sreg (r_gq [(1, .box (eRt a0)), (2, .box [rI 0, rI 0])] [] trivial) ?_
 refine k_sreg (r_gq [(2, .box [rI (w64 (0 - a0.1)), rI a0.2])] [] trivial) ?_
 refine k_ret ?_
 obtain rfl := oi h
 exact er [(.p (.agg #[.int .i64 (w64 (0 - a0.1)), .int .i64 a0.2]), 2)]
theorem wk_impl_areRats {a0 : (List Qr)}  {r : Bool} (h : impl_areRats a0 = some r) : Meets Try.prog 140 [.d false [.sl none (a0.map eRt)]] { vals := [.p (.bool r)] } := by
 refine mo Try.func140 [(0, .d false [.sl none (a0.map eRt)])] ?_
 unfold impl_areRats at h
 refine k_sreg (r_gq [(0, .d false [.sl none (a0.map eRt)])] [] trivial) ?_
 refine k_join (J := fun (x : Unit) => []) (K := fun x => impl_areRats_k1 x = some r) (fun x1 h => ?_) ?_
 ·unfold impl_areRats_k1 at h
  refine k_sreg (r_gq [(2, .p (.bool true))] [] trivial) ?_
  refine k_ret ?_
  obtain rfl := oi h
  exact er [(.p (.bool true), 2)]
 ·refine k_sreg (r_gq [(5, .d false [.sl none (a0.map eRt)]), (6, .p (iV (a0.length : Int))), (7, .p (iV 0))] [(1, {n := some a0.length})] (A1 (show (a0.map eRt).length = a0.length from (List.length_map ..)))) ?_
  refine k_block ?_
  obtain ⟨y3, hl_x2, hk_x2⟩ := bs h
  clear h
  refine k_loop (J := fun (x : Int) => [(5, .d false [.sl none (a0.map eRt)]), (6, .p (iV (a0.length : Int))), (7, .p (iV x))]) hl_x2 (wk_of (by kernel_rfl) (by kernel_rfl)) (fun x2 o_x2 h hy_x2 => ?_)
  unfold impl_areRats_b1 at h
  refine k_sreg (r_gq [(5, .d false [.sl none (a0.map eRt)]), (6, .p (iV (a0.length : Int))), (7, .p (iV x2)), (8, .p (.bool (decide (x2 < (a0.length : Int)))))] [] trivial) ?_
  refine k_seq ?_
  refine kc (decide (x2 < (a0.length : Int))) (fun hc5_3 => ?_) (fun hc5_3 => ?_)
  ·replace h := ite_t hc5_3 h
   refine k_skip ?_
   refine q_n ?_
   refine k_seq ?_
   refine k_block ?_
   replace h := bs h
   obtain ⟨v5, hv5, h⟩ := h
   refine k_sreg (r_gq [(4, .box (eRt v5)), (5, .d false [.sl none (a0.map eRt)]), (6, .p (iV (a0.length : Int))), (7, .p (iV x2))] [(0, {row := some (eRt v5)})] (A2 (idxO_some hv5).1 (map_get eRt (idxO_some hv5).2))) ?_
   replace h := bs h
   obtain ⟨v6, hv6, h⟩ := h
   refine k_sreg (r_gq [(5, .d false [.sl none (a0.map eRt)]), (6, .p (iV (a0.length : Int))), (7, .p (iV x2)), (13, .p (.bool (!v6)))] [(1, {call := some (none, [.p (.bool v6)], true)})] (A1 (wk_impl_isRat hv6))) ?_
   refine kc (!v6) (fun hc6_6 => ?_) (fun hc6_6 => ?_)
   ·replace h := ite_t hc6_6 h
    refine k_sreg (r_gq [(2, .p (.bool false))] [] trivial) ?_
    refine k_ret ?_
    refine b_r ?_
    refine q_r ?_
    refine lq_r ?_
    refine b_r ?_
    refine q_r ?_
    have hyy := hy_x2 _ (oi h).symm
    subst hyy
    have h := hk_x2
    dsimp only [Sum.elim] at h
    obtain rfl := oi h
    exact er [(.p (.bool false), 2)]
   ·replace h := ite_f hc6_6 h
    refine k_skip ?_
    refine b_n ?_
    refine q_n ?_
    refine k_reg (r_gq [(5, .d false [.sl none (a0.map eRt)]), (6, .p (iV (a0.length : Int))), (7, .p (iV (w64 (x2 + 1))))] [] trivial) ?_
    exact lqn (w64 (x2 + 1)) h
  ·replace h := ite_f hc5_3 h
   refine k_exit ?_
   refine q_x ?_
   refine lq_x ?_
   refine b_x ?_
   have hyy := hy_x2 _ (oi h).symm
   subst hyy
   have h := hk_x2
   dsimp only [Sum.elim] at h
   refine q_n ?_
   exact jx () h
theorem wk_impl_lowest {a0 : Int} {a1 : Int}  {r : (Qr × Bool)} (h : impl_lowest a0 a1 = some r) : Meets Try.prog 141 [wI a0, wI a1] { vals := [.p (vRt r.1), .p (.bool r.2)] } := by
 refine mo Try.func141 [(0, .p (iV a0)), (1, .p (iV a1))] ?_
 unfold impl_lowest at h
 refine k_sreg (r_gq [(0, .p (iV a0)), (1, .p (iV a1)), (4, .box [rI 0, rI 0])] [] trivial) ?_
 replace h := bs h
 obtain ⟨v1, hv1, h⟩ := h
 refine k_sreg (r_gq [(0, .p (iV a0)), (1, .p (iV a1)), (4, .box [rI 0, rI 0]), (6, .p (iV v1))] [(2, {call := some (none, [.p (iV v1)], true)})] (A1 (wk_impl_greatestDivisor hv1))) ?_
 refine k_join (J := fun (x : Int) => [(0, .p (iV a0)), (1, .p (iV a1)), (4, .box [rI 0, rI 0]), (6, .p (iV x))]) (K := fun x => impl_lowest_k1 a0 a1 x = some r) (fun x2 h => ?_) ?_
 ·unfold impl_lowest_k1 at h
  replace h := bs h
  obtain ⟨u3, hu3, h⟩ := h
  refine k_sreg (r_dq Try_mixed 8 [] [(4, .box [rI 0, rI 0]), (7, .box [rI (w64 (Int.tdiv a0 x2)), rI (w64 (Int.tdiv a1 x2))])] [] (A2 (guardO_some hu3) (guardO_some hu3))) ?_
  refine k_seq ?_
  replace h := bs h
  obtain ⟨v4, hv4, h⟩ := h
  refine k_sreg (r_gq [(4, .box [rI 0, rI 0]), (7, .box [rI (w64 (Int.tdiv a0 x2)), rI (w64 (Int.tdiv a1 x2))]), (24, .p (.bool (!v4)))] [(1, {call := some (none, [.p (.bool v4)], true)})] (A1 (wk_impl_isRat hv4))) ?_
  refine kc (!v4) (fun hc2_4 => ?_) (fun hc2_4 => ?_)
  ·replace h := ite_t hc2_4 h
   refine k_sreg (r_gq [(4, .box [rI 0, rI 0]), (5, .p (.bool false))] [] trivial) ?_
   refine k_ret ?_
   refine q_r ?_
   obtain rfl := oi h
   exact er [(.p (.agg #[.int .i64 0, .int .i64 0]), 4), (.p (.bool false), 5)]
  ·replace h := ite_f hc2_4 h
   refine k_skip ?_
   refine q_n ?_
   refine k_sreg (r_gq [(4, .box [rI (w64 (Int.tdiv a0 x2)), rI (w64 (Int.tdiv a1 x2))]), (5, .p (.bool true))] [] trivial) ?_
   refine k_ret ?_
   obtain rfl := oi h
   exact er [(.p (.agg #[.int .i64 (w64 (Int.tdiv a0 x2)), .int .i64 (w64 (Int.tdiv a1 x2))]), 4), (.p (.bool true), 5)]
 ·refine k_sreg (r_gq [(0, .p (iV a0)), (1, .p (iV a1)), (4, .box [rI 0, rI 0]), (6, .p (iV v1)), (12, .p (.bool (decide (a1 < 0))))] [] trivial) ?_
  refine kc (decide (a1 < 0)) (fun hc2_5 => ?_) (fun hc2_5 => ?_)
  ·replace h := ite_t hc2_5 h
   refine k_reg (r_gq [(0, .p (iV a0)), (1, .p (iV a1)), (4, .box [rI 0, rI 0]), (6, .p (iV (w64 (0 - v1))))] [] trivial) ?_
   refine q_n ?_
   exact jx (w64 (0 - v1)) h
  ·replace h := ite_f hc2_5 h
   refine k_skip ?_
   refine q_n ?_
   exact jx v1 h
theorem wk_impl_AddRats {a0 : Qr} {a1 : Qr}  {r : (Qr × Bool)} (h : impl_AddRats a0 a1 = some r) : Meets Try.prog 120 [.v (vRt a0), .v (vRt a1)] { vals := [.p (vRt r.1), .p (.bool r.2)] } := by
 refine mo Try.func120 [(0, .p (vRt a0)), (1, .p (vRt a1))] ?_
 unfold impl_AddRats at h
 refine k_sreg (r_gq [(2, .box (eRt a0)), (3, .box (eRt a1)), (4, .box [rI 0, rI 0])] [] trivial) ?_
 refine k_seq ?_
 replace h := bs h
 obtain ⟨v1, hv1, h⟩ := h
 refine k_sreg (r_gq [(2, .box (eRt a0)), (3, .box (eRt a1)), (4, .box [rI 0, rI 0]), (10, .p (.bool (!v1)))] [(3, {call := some (some [.d false [.sl none (([a0, a1]).map eRt)]], [.p (.bool v1)], true)})] (A2 (show ([.d false [.sl none (eraL (([a0, a1]).map eRt))]] : List Arg) = [.d false [.sl none (([a0, a1]).map eRt)]] from (by simp only [eraL_enc (h := eRt) (era_P er_I er_I)])) (wk_impl_areRats hv1))) ?_
 refine kc (!v1) (fun hc2_1 => ?_) (fun hc2_1 => ?_)
 ·replace h := ite_t hc2_1 h
  refine k_sreg (r_gq [(4, .box [rI 0, rI 0]), (5, .p (.bool false))] [] trivial) ?_
  refine k_ret ?_
  refine q_r ?_
  obtain rfl := oi h
  exact er [(.p (.agg #[.int .i64 0, .int .i64 0]), 4), (.p (.bool false), 5)]
 ·replace h := ite_f hc2_1 h
  refine k_skip ?_
  refine q_n ?_
  replace h := bs h
  obtain ⟨v3, hv3, h⟩ := h
  refine k_sreg (r_gq [(4, .box (eRt v3.1)), (5, .p (.bool v3.2))] [(16, {call := some (none, [.p (vRt v3.1), .p (.bool v3.2)], true)})] (A1 (wk_impl_lowest hv3))) ?_
  refine k_ret ?_
  obtain rfl := oi h
  exact er [(.p (vRt v3.1), 4), (.p (.bool v3.2), 5)]
theorem wk_impl_SubtractRats {a0 : Qr} {a1 : Qr}  {r : (Qr × Bool)} (h : impl_SubtractRats a0 a1 = some r) : Meets Try.prog 142 [.v (vRt a0), .v (vRt a1)] { vals := [.p (vRt r.1), .p (.bool r.2)] } := by
 refine mo Try.func142 [(0, .p (vRt a0)), (1, .p (vRt a1))] ?_
 unfold impl_SubtractRats at h
 refine k_sreg (r_gq [(2, .box (eRt a0)), (3, .box (eRt a1)), (4, .box [rI 0, rI 0])] [] trivial) ?_
 replace h := bs h
 obtain ⟨v1, hv1, h⟩ := h
 replace h := bs h
 obtain ⟨v2, hv2, h⟩ := h
 refine k_sreg (r_dq Try_mixed 3 [] [(4, .box (eRt v2.1)), (5, .p (.bool v2.2))] [(2, {call := some (none, [.p (vRt v1)], true)}), (3, {call := some (none, [.p (vRt v2.1), .p (.bool v2.2)], true)})] (A2 (wk_impl_negated hv1) (wk_impl_AddRats hv2))) ?_
 refine k_ret ?_
 obtain rfl := oi h
 exact er [(.p (vRt v2.1), 4), (.p (.bool v2.2), 5)]
theorem wk_impl_calc_keep {a0 : Bool} {a1 : Qr} {a2 : Bool}  {r : (Qr × Bool)} (h : impl_calc_keep a0 a1 a2 = some r) : MeetsB Try.prog 119 (.box [.raw (.bool a0)]) [.v (vRt a1), .v (.bool a2)] [.p (vRt r.1)] (.box [.raw (.bool r.2)]) := by
 refine mob Try.func119 [(0, .box [.raw (.bool a0)]), (1, .p (vRt a1)), (2, .p (.bool a2))] ?_
 unfold impl_calc_keep at h
 refine k_sreg (r_gq [(0, .box [.raw (.bool a0)]), (2, .p (.bool a2)), (4, .box (eRt a1)), (6, .box [rI 0, rI 0])] [] trivial) ?_
 refine k_seq ?_
 refine k_sreg (r_gq [(0, .box [.raw (.bool a0)]), (4, .box (eRt a1)), (6, .box [rI 0, rI 0]), (8, .p (.bool (!a2)))] [] trivial) ?_
 refine kc (!a2) (fun hc2_0 => ?_) (fun hc2_0 => ?_)
 ·replace h := ite_t hc2_0 h
  refine k_sreg (r_gq [(0, .box [.raw (.bool true)]), (6, .box [rI 0, rI 0])] [] trivial) ?_
  replace h := bs h
  obtain ⟨v2, hv2, h⟩ := h
  refine k_sreg (r_gq [(0, .box [.raw (.bool true)]), (6, .box (eRt v2))] [(0, {call := some (none, [.p (vRt v2)], true)})] (A1 (wk_impl_zero hv2))) ?_
  refine k_ret ?_
  refine q_r ?_
  obtain rfl := oi h
  exact ebr [(.p (vRt v2), 6)]
 ·replace h := ite_f hc2_0 h
  refine k_skip ?_
  refine q_n ?_
  refine k_sreg (r_gq [(0, .box [.raw (.bool a0)]), (6, .box (eRt a1))] [] trivial) ?_
  refine k_ret ?_
  obtain rfl := oi h
  exact ebr [(.p (vRt a1), 6)]
theorem wk_impl_calc_sub {a0 : Bool} {a1 : Qr} {a2 : Qr}  {r : (Qr × Bool)} (h : impl_calc_sub a0 a1 a2 = some r) : MeetsB Try.prog 121 (.box [.raw (.bool a0)]) [.v (vRt a1), .v (vRt a2)] [.p (vRt r.1)] (.box [.raw (.bool r.2)]) := by
 refine mob Try.func121 [(0, .box [.raw (.bool a0)]), (1, .p (vRt a1)), (2, .p (vRt a2))] ?_
 unfold impl_calc_sub at h
 refine k_sreg (r_gq [(0, .box [.raw (.bool a0)]), (4, .box (eRt a1)), (5, .box (eRt a2)), (6, .box [rI 0, rI 0])] [] trivial) ?_
 replace h := bs h
 obtain ⟨v1, hv1, h⟩ := h
 replace h := bs h
 obtain ⟨v2, hv2, h⟩ := h
 refine k_sreg (r_gq [(0, .box [.raw (.bool v2.2)]), (6, .box (eRt v2.1))] [(3, {call := some (none, [.p (vRt v1.1), .p (.bool v1.2)], true)}), (6, {lend := some (none, [.p (vRt v2.1)], .box [.raw (.bool v2.2)], true)})] (A2 (wk_impl_SubtractRats hv1) (wk_impl_calc_keep hv2))) ?_
 refine k_ret ?_
 obtain rfl := oi h
 exact ebr [(.p (vRt v2.1), 6)]
theorem wk_impl_DivideRats {a0 : Qr} {a1 : Qr}  {r : (Qr × Bool)} (h : impl_DivideRats a0 a1 = some r) : Meets Try.prog 158 [.v (vRt a0), .v (vRt a1)] { vals := [.p (vRt r.1), .p (.bool r.2)] } := by
 refine mo Try.func158 [(0, .p (vRt a0)), (1, .p (vRt a1))] ?_
 unfold impl_DivideRats at h
 refine k_sreg (r_gq [(2, .box (eRt a0)), (3, .box (eRt a1)), (4, .box [rI 0, rI 0])] [] trivial) ?_
 refine k_seq ?_
 replace h := bs h
 obtain ⟨v1, hv1, h⟩ := h
 refine k_sreg (l1 := [(2, .box (eRt a0)), (3, .box (eRt a1)), (4, .box [rI 0, rI 0]), (15, .p (.bool ((!v1) || (a1.1 == 0))))]) ?_ ?_
 ·rcases ft (!v1) with ha0 | ha0
  ·exact RegOk.of_eq (l2 := [(2, .box (eRt a0)), (3, .box (eRt a1)), (4, .box [rI 0, rI 0]), (15, .p (.bool ((!v1) || (a1.1 == 0))))]) (r_gq [(2, .box (eRt a0)), (3, .box (eRt a1)), (4, .box [rI 0, rI 0]), (15, .p (.bool true))] [(3, {call := some (some [.d false [.sl none (([a0, a1]).map eRt)]], [.p (.bool v1)], true)}), (6, gT), (7, gT), (8, gT), (9, bT)] (A6 (show ([.d false [.sl none (eraL (([a0, a1]).map eRt))]] : List Arg) = [.d false [.sl none (([a0, a1]).map eRt)]] from (by simp only [eraL_enc (h := eRt) (era_P er_I er_I)])) (wk_impl_areRats hv1) ha0 ha0 ha0 ha0)) (by simp [ha0])
  ·exact RegOk.of_eq (l2 := [(2, .box (eRt a0)), (3, .box (eRt a1)), (4, .box [rI 0, rI 0]), (15, .p (.bool ((!v1) || (a1.1 == 0))))]) (r_gq [(2, .box (eRt a0)), (3, .box (eRt a1)), (4, .box [rI 0, rI 0]), (15, .p (.bool (a1.1 == 0)))] [(3, {call := some (some [.d false [.sl none (([a0, a1]).map eRt)]], [.p (.bool v1)], true)}), (6, gF), (7, gF), (8, gF), (9, bF)] (A6 (show ([.d false [.sl none (eraL (([a0, a1]).map eRt))]] : List Arg) = [.d false [.sl none (([a0, a1]).map eRt)]] from (by simp only [eraL_enc (h := eRt) (era_P er_I er_I)])) (wk_impl_areRats hv1) ha0 ha0 ha0 ha0)) (by simp [ha0])
 ·refine kc ((!v1) || (a1.1 == 0)) (fun hc2_1 => ?_) (fun hc2_1 => ?_)
  ·replace h := ite_t hc2_1 h
   refine k_sreg (r_gq [(4, .box [rI 0, rI 0]), (5, .p (.bool false))] [] trivial) ?_
   refine k_ret ?_
   refine q_r ?_
   obtain rfl := oi h
   exact er [(.p (.agg #[.int .i64 0, .int .i64 0]), 4), (.p (.bool false), 5)]
  ·replace h := ite_f hc2_1 h
   refine k_skip ?_
   refine q_n ?_
   replace h := bs h
   obtain ⟨v3, hv3, h⟩ := h
   refine k_sreg (r_gq [(4, .box (eRt v3.1)), (5, .p (.bool v3.2))] [(10, {call := some (none, [.p (vRt v3.1), .p (.bool v3.2)], true)})] (A1 (wk_impl_lowest hv3))) ?_
   refine k_ret ?_
   obtain rfl := oi h
   exact er [(.p (vRt v3.1), 4), (.p (.bool v3.2), 5)]
theorem wk_impl_calc_div {a0 : Bool} {a1 : Qr} {a2 : Qr}  {r : (Qr × Bool)} (h : impl_calc_div a0 a1 a2 = some r) : MeetsB Try.prog 145 (.box [.raw (.bool a0)]) [.v (vRt a1), .v (vRt a2)] [.p (vRt r.1)] (.box [.raw (.bool r.2)]) := by
 refine mob Try.func145 [(0, .box [.raw (.bool a0)]), (1, .p (vRt a1)), (2, .p (vRt a2))] ?_
 unfold impl_calc_div at h
 refine k_sreg (r_gq [(0, .box [.raw (.bool a0)]), (4, .box (eRt a1)), (5, .box (eRt a2)), (6, .box [rI 0, rI 0])] [] trivial) ?_
 replace h := bs h
 obtain ⟨v1, hv1, h⟩ := h
 replace h := bs h
 obtain ⟨v2, hv2, h⟩ := h
 refine k_sreg (r_gq [(0, .box [.raw (.bool v2.2)]), (6, .box (eRt v2.1))] [(3, {call := some (none, [.p (vRt v1.1), .p (.bool v1.2)], true)}), (6, {lend := some (none, [.p (vRt v2.1)], .box [.raw (.bool v2.2)], true)})] (A2 (wk_impl_DivideRats hv1) (wk_impl_calc_keep hv2))) ?_
 refine k_ret ?_
 obtain rfl := oi h
 exact ebr [(.p (vRt v2.1), 6)]
theorem wk_impl_calc_slope {a0 : Bool} {a1 : Qp} {a2 : Qp}  {r : (Qr × Bool)} (h : impl_calc_slope a0 a1 a2 = some r) : MeetsB Try.prog 125 (.box [.raw (.bool a0)]) [.v (vPt a1), .v (vPt a2)] [.p (vRt r.1)] (.box [.raw (.bool r.2)]) := by
 refine mob Try.func125 [(0, .box [.raw (.bool a0)]), (1, .p (vPt a1)), (2, .p (vPt a2))] ?_
 unfold impl_calc_slope at h
 refine k_sreg (r_gq [(0, .box [.raw (.bool a0)]), (4, .box (ePt a1)), (5, .box (ePt a2)), (6, .box [rI 0, rI 0])] [] trivial) ?_
 replace h := bs h
 obtain ⟨v1, hv1, h⟩ := h
 replace h := bs h
 obtain ⟨v2, hv2, h⟩ := h
 replace h := bs h
 obtain ⟨v3, hv3, h⟩ := h
 refine k_sreg (r_dq Try_mixed 13 [(6, 0), (12, 0)] [(0, .box [.raw (.bool v3.2)]), (6, .box (eRt v3.1))] [(6, {lend := some (none, [.p (vRt v1.1)], .box [.raw (.bool v1.2)], true)}), (12, {lend := some (none, [.p (vRt v2.1)], .box [.raw (.bool v2.2)], true)}), (13, {lend := some (none, [.p (vRt v3.1)], .box [.raw (.bool v3.2)], true)})] (A3 (wk_impl_calc_sub hv1) (wk_impl_calc_sub hv2) (wk_impl_calc_div hv3))) ?_
 refine k_ret ?_
 obtain rfl := oi h
 exact ebr [(.p (vRt v3.1), 6)]
theorem wk_impl_MultiplyRats {a0 : Qr} {a1 : Qr}  {r : (Qr × Bool)} (h : impl_MultiplyRats a0 a1 = some r) : Meets Try.prog 163 [.v (vRt a0), .v (vRt a1)] { vals := [.p (vRt r.1), .p (.bool r.2)] } := by
 refine mo Try.func163 [(0, .p (vRt a0)), (1, .p (vRt a1))] ?_
 unfold impl_MultiplyRats at h
 refine k_sreg (r_gq [(2, .box (eRt a0)), (3, .box (eRt a1)), (4, .box [rI 0, rI 0])] [] trivial) ?_
 refine k_seq ?_
 replace h := bs h
 obtain ⟨v1, hv1, h⟩ := h
 refine k_sreg (r_gq [(2, .box (eRt a0)), (3, .box (eRt a1)), (4, .box [rI 0, rI 0]), (10, .p (.bool (!v1)))] [(3, {call := some (some [.d false [.sl none (([a0, a1]).map eRt)]], [.p (.bool v1)], true)})] (A2 (show ([.d false [.sl none (eraL (([a0, a1]).map eRt))]] : List Arg) = [.d false [.sl none (([a0, a1]).map eRt)]] from (by simp only [eraL_enc (h := eRt) (era_P er_I er_I)])) (wk_impl_areRats hv1))) ?_
 refine kc (!v1) (fun hc2_1 => ?_) (fun hc2_1 => ?_)
 ·replace h := ite_t hc2_1 h
  refine k_sreg (r_gq [(4, .box [rI 0, rI 0]), (5, .p (.bool false))] [] trivial) ?_
  refine k_ret ?_
  refine q_r ?_
  obtain rfl := oi h
  exact er [(.p (.agg #[.int .i64 0, .int .i64 0]), 4), (.p (.bool false), 5)]
 ·replace h := ite_f hc2_1 h
  refine k_skip ?_
  refine q_n ?_
  replace h := bs h
  obtain ⟨v3, hv3, h⟩ := h
  refine k_sreg (r_gq [(4, .box (eRt v3.1)), (5, .p (.bool v3.2))] [(10, {call := some (none, [.p (vRt v3.1), .p (.bool v3.2)], true)})] (A1 (wk_impl_lowest hv3))) ?_
  refine k_ret ?_
  obtain rfl := oi h
  exact er [(.p (vRt v3.1), 4), (.p (.bool v3.2), 5)]
theorem wk_impl_calc_mul {a0 : Bool} {a1 : Qr} {a2 : Qr}  {r : (Qr × Bool)} (h : impl_calc_mul a0 a1 a2 = some r) : MeetsB Try.prog 160 (.box [.raw (.bool a0)]) [.v (vRt a1), .v (vRt a2)] [.p (vRt r.1)] (.box [.raw (.bool r.2)]) := by
 refine mob Try.func160 [(0, .box [.raw (.bool a0)]), (1, .p (vRt a1)), (2, .p (vRt a2))] ?_
 unfold impl_calc_mul at h
 refine k_sreg (r_gq [(0, .box [.raw (.bool a0)]), (4, .box (eRt a1)), (5, .box (eRt a2)), (6, .box [rI 0, rI 0])] [] trivial) ?_
 replace h := bs h
 obtain ⟨v1, hv1, h⟩ := h
 replace h := bs h
 obtain ⟨v2, hv2, h⟩ := h
 refine k_sreg (r_gq [(0, .box [.raw (.bool v2.2)]), (6, .box (eRt v2.1))] [(3, {call := some (none, [.p (vRt v1.1), .p (.bool v1.2)], true)}), (6, {lend := some (none, [.p (vRt v2.1)], .box [.raw (.bool v2.2)], true)})] (A2 (wk_impl_MultiplyRats hv1) (wk_impl_calc_keep hv2))) ?_
 refine k_ret ?_
 obtain rfl := oi h
 exact ebr [(.p (vRt v2.1), 6)]
theorem wk_impl_calc_add {a0 : Bool} {a1 : Qr} {a2 : Qr}  {r : (Qr × Bool)} (h : impl_calc_add a0 a1 a2 = some r) : MeetsB Try.prog 95 (.box [.raw (.bool a0)]) [.v (vRt a1), .v (vRt a2)] [.p (vRt r.1)] (.box [.raw (.bool r.2)]) := by
 refine mob Try.func95 [(0, .box [.raw (.bool a0)]), (1, .p (vRt a1)), (2, .p (vRt a2))] ?_
 unfold impl_calc_add at h
 refine k_sreg (r_gq [(0, .box [.raw (.bool a0)]), (4, .box (eRt a1)), (5, .box (eRt a2)), (6, .box [rI 0, rI 0])] [] trivial) ?_
 replace h := bs h
 obtain ⟨v1, hv1, h⟩ := h
 replace h := bs h
 obtain ⟨v2, hv2, h⟩ := h
 refine k_sreg (r_gq [(0, .box [.raw (.bool v2.2)]), (6, .box (eRt v2.1))] [(3, {call := some (none, [.p (vRt v1.1), .p (.bool v1.2)], true)}), (6, {lend := some (none, [.p (vRt v2.1)], .box [.raw (.bool v2.2)], true)})] (A2 (wk_impl_AddRats hv1) (wk_impl_calc_keep hv2))) ?_
 refine k_ret ?_
 obtain rfl := oi h
 exact ebr [(.p (vRt v2.1), 6)]
theorem wk_impl_calc_line {a0 : Bool} {a1 : Qp} {a2 : Qr} {a3 : Qr}  {r : (Qr × Bool)} (h : impl_calc_line a0 a1 a2 a3 = some r) : MeetsB Try.prog 147 (.box [.raw (.bool a0)]) [.v (vPt a1), .v (vRt a2), .v (vRt a3)] [.p (vRt r.1)] (.box [.raw (.bool r.2)]) := by
 refine mob Try.func147 [(0, .box [.raw (.bool a0)]), (1, .p (vPt a1)), (2, .p (vRt a2)), (3, .p (vRt a3))] ?_
 unfold impl_calc_line at h
 refine k_sreg (r_gq [(0, .box [.raw (.bool a0)]), (5, .box (ePt a1)), (6, .box (eRt a2)), (7, .box (eRt a3)), (8, .box [rI 0, rI 0])] [] trivial) ?_
 replace h := bs h
 obtain ⟨v1, hv1, h⟩ := h
 replace h := bs h
 obtain ⟨v2, hv2, h⟩ := h
 replace h := bs h
 obtain ⟨v3, hv3, h⟩ := h
 refine k_sreg (r_dq Try_mixed 11 [(9, 0), (10, 0)] [(0, .box [.raw (.bool v3.2)]), (8, .box (eRt v3.1))] [(9, {lend := some (none, [.p (vRt v1.1)], .box [.raw (.bool v1.2)], true)}), (10, {lend := some (none, [.p (vRt v2.1)], .box [.raw (.bool v2.2)], true)}), (11, {lend := some (none, [.p (vRt v3.1)], .box [.raw (.bool v3.2)], true)})] (A3 (wk_impl_calc_sub hv1) (wk_impl_calc_mul hv2) (wk_impl_calc_add hv3))) ?_
 refine k_ret ?_
 obtain rfl := oi h
 exact ebr [(.p (vRt v3.1), 8)]
theorem wk_impl_calc_value {a0 : Bool} {a1 : (List Qp)} {a2 : Qr}  {r : (Qr × Bool)} (h : impl_calc_value a0 a1 a2 = some r) : MeetsB Try.prog 127 (.box [.raw (.bool a0)]) [.d false [.sl none (a1.map ePt)], .v (vRt a2)] [.p (vRt r.1)] (.box [.raw (.bool r.2)]) := by
 refine mob Try.func127 [(0, .box [.raw (.bool a0)]), (1, .d false [.sl none (a1.map ePt)]), (2, .p (vRt a2))] ?_
 unfold impl_calc_value at h
 refine k_sreg (r_gq [(0, .box [.raw (.bool a0)]), (1, .d false [.sl none (a1.map ePt)]), (5, .box (eRt a2)), (6, .box [rI 0, rI 0])] [] trivial) ?_
 replace h := bs h
 obtain ⟨v1, hv1, h⟩ := h
 refine k_sreg (r_gq [(0, .box [.raw (.bool a0)]), (1, .d false [.sl none (a1.map ePt)]), (5, .box (eRt a2)), (6, .box [rI 0, rI 0]), (7, .p (iV v1))] [(2, {call := some (none, [.p (iV v1)], true)})] (A1 (wk_impl_pieceAt hv1))) ?_
 replace h := bs h
 obtain ⟨v2, hv2, h⟩ := h
 replace h := bs h
 obtain ⟨v3, hv3, h⟩ := h
 replace h := bs h
 obtain ⟨v4, hv4, h⟩ := h
 replace h := bs h
 obtain ⟨v5, hv5, h⟩ := h
 refine k_sreg (r_dq Try_mixed 17 [(15, 0)] [(0, .box [.raw (.bool v5.2)]), (6, .box (eRt v5.1))] [(3, {row := some (ePt v2)}), (8, {row := some (ePt v2)}), (13, {row := some (ePt v3)}), (15, {lend := some (none, [.p (vRt v4.1)], .box [.raw (.bool v4.2)], true)}), (17, {lend := some (none, [.p (vRt v5.1)], .box [.raw (.bool v5.2)], true)})] (B6 (idxO_some hv2).1 (map_get ePt (idxO_some hv2).2) (idxO_some hv2).1 (map_get ePt (idxO_some hv2).2) (idxO_some hv3).1 (map_get ePt (idxO_some hv3).2) (A2 (wk_impl_calc_slope hv4) (wk_impl_calc_line hv5)))) ?_
 refine k_ret ?_
 obtain rfl := oi h
 exact ebr [(.p (vRt v5.1), 6)]
theorem wk_impl_lesser {a0 : Qr} {a1 : Qr}  {r : Qr} (h : impl_lesser a0 a1 = some r) : Meets Try.prog 64 [.v (vRt a0), .v (vRt a1)] { vals := [.p (vRt r)] } := by
 refine mo Try.func64 [(0, .p (vRt a0)), (1, .p (vRt a1))] ?_
 unfold impl_lesser at h
 refine k_sreg (r_gq [(2, .box (eRt a0)), (3, .box (eRt a1)), (4, .box [rI 0, rI 0])] [] trivial) ?_
 refine k_seq ?_
 replace h := bs h
 obtain ⟨v1, hv1, h⟩ := h
 refine k_sreg (r_gq [(2, .box (eRt a0)), (3, .box (eRt a1)), (4, .box [rI 0, rI 0]), (7, .p (.bool v1))] [(2, {call := some (none, [.p (.bool v1)], true)})] (A1 (wk_impl_less hv1))) ?_
 refine kc v1 (fun hc2_1 => ?_) (fun hc2_1 => ?_)
 ·replace h := ite_t hc2_1 h
  refine k_sreg (r_gq [(4, .box (eRt a1))] [] trivial) ?_
  refine k_ret ?_
  refine q_r ?_
  obtain rfl := oi h
  exact er [(.p (vRt a1), 4)]
 ·replace h := ite_f hc2_1 h
  refine k_skip ?_
  refine q_n ?_
  refine k_sreg (r_gq [(4, .box (eRt a0))] [] trivial) ?_
  refine k_ret ?_
  obtain rfl := oi h
  exact er [(.p (vRt a0), 4)]
theorem wk_impl_greater {a0 : Qr} {a1 : Qr}  {r : Qr} (h : impl_greater a0 a1 = some r) : Meets Try.prog 66 [.v (vRt a0), .v (vRt a1)] { vals := [.p (vRt r)] } := by
 refine mo Try.func66 [(0, .p (vRt a0)), (1, .p (vRt a1))] ?_
 unfold impl_greater at h
 refine k_sreg (r_gq [(2, .box (eRt a0)), (3, .box (eRt a1)), (4, .box [rI 0, rI 0])] [] trivial) ?_
 refine k_seq ?_
 replace h := bs h
 obtain ⟨v1, hv1, h⟩ := h
 refine k_sreg (r_gq [(2, .box (eRt a0)), (3, .box (eRt a1)), (4, .box [rI 0, rI 0]), (7, .p (.bool v1))] [(2, {call := some (none, [.p (.bool v1)], true)})] (A1 (wk_impl_less hv1))) ?_
 refine kc v1 (fun hc2_1 => ?_) (fun hc2_1 => ?_)
 ·replace h := ite_t hc2_1 h
  refine k_sreg (r_gq [(4, .box (eRt a1))] [] trivial) ?_
  refine k_ret ?_
  refine q_r ?_
  obtain rfl := oi h
  exact er [(.p (vRt a1), 4)]
 ·replace h := ite_f hc2_1 h
  refine k_skip ?_
  refine q_n ?_
  refine k_sreg (r_gq [(4, .box (eRt a0))] [] trivial) ?_
  refine k_ret ?_
  obtain rfl := oi h
  exact er [(.p (vRt a0), 4)]
theorem wk_impl_calc_image_1 {a0 : Qr} {a1 : Qr} {a2 : Qr} {r : Qp} (h : impl_calc_image_1 a0 a1 a2 = some r) : Takes Try.prog 155 (vRt a0) [.int .i64 a1.1, .int .i64 a1.2] [.int .i64 a2.1, .int .i64 a2.2] [.int .i64 r.1.1, .int .i64 r.1.2] [.int .i64 r.2.1, .int .i64 r.2.2] := by
 refine takes_of Try.func155 ?_
 unfold impl_calc_image_1 at h
 refine k_sreg (r_gq [(1, .box (eRt a1)), (2, .box (eRt a2)), (3, .box (eRt a0))] [] trivial) ?_
 replace h := bs h
 obtain ⟨v1, hv1, h⟩ := h
 replace h := bs h
 obtain ⟨v2, hv2, h⟩ := h
 refine k_reg (r_dq Try_mixed 5 [] [(1, .box (eRt v1)), (2, .box (eRt v2))] [(2, {call := some (none, [.p (vRt v1)], true)}), (5, {call := some (none, [.p (vRt v2)], true)})] (A2 (wk_impl_lesser hv1) (wk_impl_greater hv2))) ?_
 obtain rfl := oi h
 exact ⟨trivial, by kernel_rfl, by kernel_rfl⟩
end Go.PV

/-
  Walks through the functions that the law reaches: each answers as its plain definition does.
  Conditions: none.
-/
import Derived.KernelRfl
import Derived.Test.YtlajjggemadajaaDf
import Derived.Test.YtlajjggemadajaaProg
import Derived.Test.YtlajjggemadajaaPvCx
import Derived.Test.YtlajjggemadajaaBackYtlajjggemadajaa
open Go Go.PV Go.Proofs
set_option linter.all false
namespace Go.PV
attribute [local irreducible] pvC pvL pvD sOp seqQ blockQ Meets MeetsB Ok OkL RegOk agree endQ seqL blockL loopQ endL endLB
theorem Try_mixed : Try.prog.follows .mixedOrders = true := by kernel_rfl
theorem wk_laws_szPointS {a0 : (List Qp)} {a1 : Int}  {r : Int} (h : laws_szPointS a0 a1 = some r) : Meets Try.prog 48 [.d false [.sl none (a0.map ePt)], wI a1] { vals := [.p (iV r)] } := by
 refine mo Try.func48 [(0, .d false [.sl none (a0.map ePt)]), (1, .p (iV a1))] ?_
 unfold laws_szPointS at h
 refine k_sreg (r_gq [(0, .d false [.sl none (a0.map ePt)]), (1, .p (iV a1))] [] trivial) ?_
 refine k_sreg (r_gq [(1, .p (iV (w64 (a1 - (a0.length : Int)))))] [(2, {n := some a0.length})] (A1 (show (a0.map ePt).length = a0.length from (List.length_map ..)))) ?_
 refine k_seq ?_
 refine k_sreg (r_gq [(1, .p (iV (w64 (a1 - (a0.length : Int))))), (10, .p (.bool (decide ((w64 (a1 - (a0.length : Int))) < 0))))] [] trivial) ?_
 refine kc (decide ((w64 (a1 - (a0.length : Int))) < 0)) (fun hc2_0 => ?_) (fun hc2_0 => ?_)
 ·replace h := ite_t hc2_0 h
  refine k_sreg (r_gq [(4, .p (iV (-1)))] [] trivial) ?_
  refine k_ret ?_
  refine q_r ?_
  obtain rfl := oi h
  exact er [(.p (iV (-1)), 4)]
 ·replace h := ite_f hc2_0 h
  refine k_skip ?_
  refine q_n ?_
  refine k_sreg (r_gq [(4, .p (iV (w64 (a1 - (a0.length : Int)))))] [] trivial) ?_
  refine k_ret ?_
  obtain rfl := oi h
  exact er [(.p (iV (w64 (a1 - (a0.length : Int)))), 4)]
theorem wk_laws_szLift {a0 : (List Qp)} {a1 : Int}  {r : Int} (h : laws_szLift a0 a1 = some r) : Meets Try.prog 13 [.d true [.sl none (a0.map ePt)], wI a1] { vals := [.p (iV r)] } := by
 refine mo Try.func13 [(0, .d true [.sl none (a0.map ePt)]), (1, .p (iV a1))] ?_
 unfold laws_szLift at h
 refine k_sreg (r_gq [(1, .p (iV a1)), (2, .box [.sl none (a0.map ePt)])] [] trivial) ?_
 replace h := bs h
 obtain ⟨v1, hv1, h⟩ := h
 refine k_sreg (r_gq [(1, .p (iV v1))] [(1, bT), (3, {call := some (none, [.p (iV v1)], true)})] (A2 (show frR [.sl none (a0.map ePt)] = true from (frR1 (frL_enc (fr_P (fr_P fr_I fr_I) (fr_P fr_I fr_I))) rfl)) (wk_laws_szPointS hv1))) ?_
 refine k_seq ?_
 refine k_sreg (r_gq [(1, .p (iV v1)), (10, .p (.bool (decide (v1 < 0))))] [] trivial) ?_
 refine kc (decide (v1 < 0)) (fun hc2_1 => ?_) (fun hc2_1 => ?_)
 ·replace h := ite_t hc2_1 h
  refine k_sreg (r_gq [(4, .p (iV (-1)))] [] trivial) ?_
  refine k_ret ?_
  refine q_r ?_
  obtain rfl := oi h
  exact er [(.p (iV (-1)), 4)]
 ·replace h := ite_f hc2_1 h
  refine k_skip ?_
  refine q_n ?_
  refine k_sreg (r_gq [(4, .p (iV v1))] [] trivial) ?_
  refine k_ret ?_
  obtain rfl := oi h
  exact er [(.p (iV v1), 4)]
theorem wk_laws_toRat {a0 : Qr}  {r : Qr} (h : laws_toRat a0 = some r) : Meets Try.prog 33 [.v (vRt a0)] { vals := [.p (vRt r)] } := by
 refine mo Try.func33 [(0, .p (vRt a0))] ?_
 unfold laws_toRat at h
 refine k_sreg (r_gq [(1, .box (eRt a0)), (2, .box [rI 0, rI 0])] [] trivial) ?_
 refine k_sreg (r_gq [(1, .box (eRt a0)), (2, .box [rI 0, rI 0]), (3, .box [rI 0, rI 0])] [] trivial) ?_
 refine k_sreg (r_gq [(1, .box (eRt a0)), (2, .box [rI 0, rI 0]), (3, .box [rI a0.1, rI 0])] [] trivial) ?_
 refine k_sreg (r_gq [(2, .box [rI 0, rI 0]), (3, .box (eRt a0))] [] trivial) ?_
 refine k_sreg (r_gq [(2, .box (eRt a0))] [] trivial) ?_
 refine k_ret ?_
 obtain rfl := oi h
 exact er [(.p (vRt a0), 2)]
theorem wk_laws_toPoint {a0 : Qp}  {r : Qp} (h : laws_toPoint a0 = some r) : Meets Try.prog 91 [.v (vPt a0)] { vals := [.p (vPt r)] } := by
 refine mo Try.func91 [(0, .p (vPt a0))] ?_
 unfold laws_toPoint at h
 refine k_sreg (r_gq [(1, .box (ePt a0)), (2, .box [rI 0, rI 0, rI 0, rI 0])] [] trivial) ?_
 refine k_sreg (r_gq [(1, .box (ePt a0)), (2, .box [rI 0, rI 0, rI 0, rI 0]), (3, .box [rI 0, rI 0, rI 0, rI 0])] [] trivial) ?_
 replace h := bs h
 obtain ⟨v1, hv1, h⟩ := h
 refine k_sreg (r_gq [(1, .box (ePt a0)), (2, .box [rI 0, rI 0, rI 0, rI 0]), (3, .box [rI v1.1, rI v1.2, rI 0, rI 0])] [(2, {call := some (none, [.p (vRt v1)], true)})] (A1 (wk_laws_toRat hv1))) ?_
 replace h := bs h
 obtain ⟨v2, hv2, h⟩ := h
 refine k_sreg (r_gq [(2, .box [rI 0, rI 0, rI 0, rI 0]), (3, .box [rI v1.1, rI v1.2, rI v2.1, rI v2.2])] [(2, {call := some (none, [.p (vRt v2)], true)})] (A1 (wk_laws_toRat hv2))) ?_
 refine k_sreg (r_gq [(2, .box [rI v1.1, rI v1.2, rI v2.1, rI v2.2])] [] trivial) ?_
 refine k_ret ?_
 obtain rfl := oi h
 exact er [(.p (.agg #[.int .i64 v1.1, .int .i64 v1.2, .int .i64 v2.1, .int .i64 v2.2]), 2)]
theorem wk_laws_toPointS {a0 : (List Qp)}  {r : (List Qp)} (h : laws_toPointS a0 = some r) : Meets Try.prog 50 [.d false [.sl none (a0.map ePt)]] { vals := [.ov false [.sl (some 71) (r.map ePt)]] } := by
 refine mo Try.func50 [(0, .d false [.sl none (a0.map ePt)])] ?_
 unfold laws_toPointS at h
 refine k_sreg (r_gq [(0, .d false [.sl none (a0.map ePt)])] [] trivial) ?_
 replace h := bs h
 obtain ⟨u1, hu1, h⟩ := h
 refine k_sreg (r_gq [(0, .d false [.sl none (a0.map ePt)]), (3, .ov false [.sl (some 71) ((List.replicate (Int.toNat (a0.length : Int)) ((0, 0), (0, 0))).map ePt)])] [(1, {n := some a0.length}), (2, {fix := some (7, .ov false [.sl (some 71) ((List.replicate (Int.toNat (a0.length : Int)) ((0, 0), (0, 0))).map ePt)])})] (A5 (show (a0.map ePt).length = a0.length from (List.length_map ..)) (show (a0.length : Int) = (a0.length : Int) from rfl) (guardO_some hu1).1 (guardO_some hu1).2 (show (SV.ov false [.sl (some 71) (List.replicate (Int.toNat (a0.length : Int)) [rI 0, rI 0, rI 0, rI 0])] : SV) = .ov false [.sl (some 71) ((List.replicate (Int.toNat (a0.length : Int)) ((0, 0), (0, 0))).map ePt)] from (congrArg (fun z => SV.ov false [.sl (some 71) z]) (rep_fix ePt ((0, 0), (0, 0))))))) ?_
 refine k_join (J := fun (x : (List Qp)) => [(3, .ov false [.sl (some 71) (x.map ePt)])]) (K := fun x => laws_toPointS_k1 x = some r) (fun x2 h => ?_) ?_
 ·unfold laws_toPointS_k1 at h
  refine k_sreg (r_gq [(2, .ov false [.sl (some 71) (x2.map ePt)])] [] trivial) ?_
  refine k_ret ?_
  obtain rfl := oi h
  exact er [(.ov false [.sl (some 71) (x2.map ePt)], 2)]
 ·refine k_sreg (r_gq [(0, .d false [.sl none (a0.map ePt)]), (3, .ov false [.sl (some 71) ((List.replicate (Int.toNat (a0.length : Int)) ((0, 0), (0, 0))).map ePt)]), (4, .p (iV 0))] [] trivial) ?_
  refine k_block ?_
  obtain ⟨y4, hl_x3, hk_x3⟩ := bs h
  clear h
  refine k_loop (J := fun (x : ((List Qp) × Int)) => [(0, .d false [.sl none (a0.map ePt)]), (3, .ov false [.sl (some 71) (x.1.map ePt)]), (4, .p (iV x.2))]) hl_x3 (wk_of (by kernel_rfl) (by kernel_rfl)) (fun x3 o_x3 h hy_x3 => ?_)
  unfold laws_toPointS_b1 at h
  refine k_seq ?_
  refine k_sreg (r_gq [(0, .d false [.sl none (a0.map ePt)]), (3, .ov false [.sl (some 71) (x3.1.map ePt)]), (4, .p (iV x3.2)), (11, .p (.bool (decide (x3.2 < (a0.length : Int)))))] [(2, {n := some a0.length})] (A1 (show (a0.map ePt).length = a0.length from (List.length_map ..)))) ?_
  refine kc (decide (x3.2 < (a0.length : Int))) (fun hc5_4 => ?_) (fun hc5_4 => ?_)
  ·replace h := ite_t hc5_4 h
   refine k_skip ?_
   refine q_n ?_
   refine k_seq ?_
   refine k_block ?_
   replace h := bs h
   obtain ⟨v6, hv6, h⟩ := h
   replace h := bs h
   obtain ⟨v7, hv7, h⟩ := h
   replace h := bs h
   obtain ⟨v8, hv8, h⟩ := h
   refine k_reg (r_gq [(0, .d false [.sl none (a0.map ePt)]), (3, .ov false [.sl (some 71) ((x3.1.set (Int.toNat x3.2) v7).map ePt)]), (4, .p (iV x3.2))] [(4, {row := some (ePt v6)}), (6, {call := some (none, [.p (vPt v7)], true)}), (7, {row := some (ePt v8)}), (8, {row := some (ePt v8), fix := some (3, .ov false [.sl (some 71) ((x3.1.set (Int.toNat x3.2) v7).map ePt)])})] (B6 (idxO_some hv6).1 (map_get ePt (idxO_some hv6).2) (wk_laws_toPoint hv7) (idxO_some hv8).1 (map_get ePt (idxO_some hv8).2) (show getRow [[.sl (some 71) (x3.1.map ePt)]] [(0, 0), ((Int.toNat x3.2), 0)] = some (ePt v8) from ((gr0 rfl).trans (gre (map_get ePt (idxO_some hv8).2)))) (A1 (show (SV.ov false [.sl (some 71) (setL (x3.1.map ePt) [((Int.toNat x3.2), 0)] (ePt v7))] : SV) = .ov false [.sl (some 71) ((x3.1.set (Int.toNat x3.2) v7).map ePt)] from (congrArg (fun z => SV.ov false [.sl (some 71) z]) (set1 (f := ePt) (y := v7) (idxO_some hv8).2 rfl)))))) ?_
   refine b_n ?_
   refine q_n ?_
   refine k_reg (r_gq [(0, .d false [.sl none (a0.map ePt)]), (3, .ov false [.sl (some 71) ((x3.1.set (Int.toNat x3.2) v7).map ePt)]), (4, .p (iV (w64 (x3.2 + 1))))] [] trivial) ?_
   exact lqn ((x3.1.set (Int.toNat x3.2) v7), (w64 (x3.2 + 1))) h
  ·replace h := ite_f hc5_4 h
   refine k_exit ?_
   refine q_x ?_
   refine lq_x ?_
   refine b_x ?_
   have hyy := hy_x3 _ (oi h).symm
   subst hyy
   have h := hk_x3
   refine q_n ?_
   exact jx x3.1 h
theorem wk_laws_toLift {a0 : (List Qp)}  {r : (List Qp)} (h : laws_toLift a0 = some r) : Meets Try.prog 15 [.d true [.sl none (a0.map ePt)]] { vals := [.ov true [.sl (some 71) (r.map ePt)]] } := by
 refine mo Try.func15 [(0, .d true [.sl none (a0.map ePt)])] ?_
 unfold laws_toLift at h
 refine k_sreg (r_gq [(1, .box [.sl none (a0.map ePt)]), (2, .box [.sl (some 71) []])] [] trivial) ?_
 refine k_sreg (r_gq [(1, .box [.sl none (a0.map ePt)]), (2, .box [.sl (some 71) []]), (3, .box [.sl (some 71) []])] [] trivial) ?_
 replace h := bs h
 obtain ⟨v1, hv1, h⟩ := h
 refine k_sreg (r_gq [(2, .box [.sl (some 71) []]), (3, .box [.sl (some 71) (v1.map ePt)])] [(1, bT), (2, {call := some (none, [.ov false [.sl (some 71) (v1.map ePt)]], true)})] (A3 (show frR [.sl none (a0.map ePt)] = true from (frR1 (frL_enc (fr_P (fr_P fr_I fr_I) (fr_P fr_I fr_I))) rfl)) (wk_laws_toPointS hv1) (show List.all [.ov false [.sl (some 71) (v1.map ePt)]] simpleR = true from (sa_o (wnR1 (wnL_enc (wn_P (wn_P wn_I wn_I) (wn_P wn_I wn_I))) rfl) rfl)))) ?_
 refine k_sreg (r_gq [(2, .box [.sl (some 71) (v1.map ePt)])] [] (A1 (show frR [.sl (some 71) (v1.map ePt)] = false from rfl))) ?_
 refine k_ret ?_
 obtain rfl := oi h
 exact er [(.ov true [.sl (some 71) (v1.map ePt)], 2)]
theorem wk_spec_l1In {a0 : Int} {a1 : Int} {a2 : Int}  {r : Bool} (h : spec_l1In a0 a1 a2 = some r) : Meets Try.prog 87 [wI a0, wI a1, wI a2] { vals := [.p (.bool r)] } := by
 refine mo Try.func87 [(0, .p (iV a0)), (1, .p (iV a1)), (2, .p (iV a2))] ?_
 unfold spec_l1In at h
 refine k_sreg (r_gq [(0, .p (iV a0)), (1, .p (iV a1)), (2, .p (iV a2))] [] trivial) ?_
 refine k_sreg (l1 := [(6, .p (.bool ((decide (a0 ≥ a1)) && (decide (a0 ≤ a2)))))]) ?_ ?_
 ·rcases ft (decide (a0 ≥ a1)) with ha0 | ha0
  ·exact RegOk.of_eq (l2 := [(6, .p (.bool ((decide (a0 ≥ a1)) && (decide (a0 ≤ a2)))))]) (r_gq [(6, .p (.bool (decide (a0 ≤ a2))))] [(4, gT), (5, gT), (6, gT), (7, bT)] (A4 ha0 ha0 ha0 ha0)) (by simp [ha0])
  ·exact RegOk.of_eq (l2 := [(6, .p (.bool ((decide (a0 ≥ a1)) && (decide (a0 ≤ a2)))))]) (r_gq [(6, .p (.bool false))] [(4, gF), (5, gF), (6, gF), (7, bF)] (A4 ha0 ha0 ha0 ha0)) (by simp [ha0])
 ·refine k_ret ?_
  obtain rfl := oi h
  exact er [(.p (.bool ((decide (a0 ≥ a1)) && (decide (a0 ≤ a2)))), 6)]
theorem wk_spec_l1Most {a0 : Int} {a1 : Int}  {r : Int} (h : spec_l1Most a0 a1 = some r) : Meets Try.prog 130 [wI a0, wI a1] { vals := [.p (iV r)] } := by
 refine mo Try.func130 [(0, .p (iV a0)), (1, .p (iV a1))] ?_
 unfold spec_l1Most at h
 refine k_sreg (r_gq [(0, .p (iV a0)), (1, .p (iV a1))] [] trivial) ?_
 refine k_seq ?_
 refine k_sreg (r_gq [(0, .p (iV a0)), (1, .p (iV a1)), (7, .p (.bool (decide (a0 > a1))))] [] trivial) ?_
 refine kc (decide (a0 > a1)) (fun hc2_0 => ?_) (fun hc2_0 => ?_)
 ·replace h := ite_t hc2_0 h
  refine k_sreg (r_gq [(4, .p (iV a0))] [] trivial) ?_
  refine k_ret ?_
  refine q_r ?_
  obtain rfl := oi h
  exact er [(.p (iV a0), 4)]
 ·replace h := ite_f hc2_0 h
  refine k_skip ?_
  refine q_n ?_
  refine k_sreg (r_gq [(4, .p (iV a1))] [] trivial) ?_
  refine k_ret ?_
  obtain rfl := oi h
  exact er [(.p (iV a1), 4)]
theorem wk_spec_l1Abs {a0 : Int}  {r : Int} (h : spec_l1Abs a0 = some r) : Meets Try.prog 112 [wI a0] { vals := [.p (iV r)] } := by
 refine mo Try.func112 [(0, .p (iV a0))] ?_
 unfold spec_l1Abs at h
 refine k_sreg (r_gq [(0, .p (iV a0))] [] trivial) ?_
 replace h := bs h
 obtain ⟨v1, hv1, h⟩ := h
 refine k_sreg (r_gq [(2, .p (iV v1))] [(3, {call := some (none, [.p (iV v1)], true)})] (A1 (wk_spec_l1Most hv1))) ?_
 refine k_ret ?_
 obtain rfl := oi h
 exact er [(.p (iV v1), 2)]
theorem wk_spec_raCommon {a0 : Int} {a1 : Int}  {r : Int} (h : spec_raCommon a0 a1 = some r) : Meets Try.prog 111 [wI a0, wI a1] { vals := [.p (iV r)] } := by
 refine mo Try.func111 [(0, .p (iV a0)), (1, .p (iV a1))] ?_
 unfold spec_raCommon at h
 refine k_sreg (r_gq [(0, .p (iV a0)), (1, .p (iV a1))] [] trivial) ?_
 refine k_join (J := fun (x : Int) => [(0, .p (iV x))]) (K := fun x => spec_raCommon_k1 x = some r) (fun x1 h => ?_) ?_
 ·unfold spec_raCommon_k1 at h
  refine k_sreg (r_gq [(4, .p (iV x1))] [] trivial) ?_
  refine k_ret ?_
  obtain rfl := oi h
  exact er [(.p (iV x1), 4)]
 ·refine k_block ?_
  obtain ⟨y3, hl_x2, hk_x2⟩ := bs h
  clear h
  refine k_loop (J := fun (x : Qr) => [(0, .p (iV x.1)), (1, .p (iV x.2))]) hl_x2 (wk_of (by kernel_rfl) (by kernel_rfl)) (fun x2 o_x2 h hy_x2 => ?_)
  unfold spec_raCommon_b1 at h
  refine k_seq ?_
  refine k_sreg (r_gq [(0, .p (iV x2.1)), (1, .p (iV x2.2)), (7, .p (.bool (decide (x2.2 > 0))))] [] trivial) ?_
  refine kc (decide (x2.2 > 0)) (fun hc5_3 => ?_) (fun hc5_3 => ?_)
  ·replace h := ite_t hc5_3 h
   refine k_skip ?_
   refine q_n ?_
   refine k_block ?_
   replace h := bs h
   obtain ⟨u5, hu5, h⟩ := h
   refine k_sreg (r_gq [(1, .p (iV x2.2)), (5, .p (iV (Int.tmod x2.1 x2.2)))] [] (A1 (guardO_some hu5))) ?_
   refine k_sreg (r_gq [(0, .p (iV x2.2)), (5, .p (iV (Int.tmod x2.1 x2.2)))] [] trivial) ?_
   refine k_reg (r_gq [(0, .p (iV x2.2)), (1, .p (iV (Int.tmod x2.1 x2.2)))] [] trivial) ?_
   refine b_n ?_
   exact lqn (x2.2, (Int.tmod x2.1 x2.2)) h
  ·replace h := ite_f hc5_3 h
   refine k_exit ?_
   refine q_x ?_
   refine lq_x ?_
   refine b_x ?_
   have hyy := hy_x2 _ (oi h).symm
   subst hyy
   have h := hk_x2
   refine q_n ?_
   exact jx x2.1 h
theorem wk_spec_raGood {a0 : Qr}  {r : Bool} (h : spec_raGood a0 = some r) : Meets Try.prog 71 [.v (vRt a0)] { vals := [.p (.bool r)] } := by
 refine mo Try.func71 [(0, .p (vRt a0))] ?_
 unfold spec_raGood at h
 refine k_sreg (r_gq [(1, .box (eRt a0))] [] trivial) ?_
 replace h := bs h
 obtain ⟨v1, hv1, h⟩ := h
 replace h := bs h
 obtain ⟨w5, hw5, h⟩ := h
 refine k_sreg (l1 := [(2, .p (.bool w5))]) ?_ ?_
 ·clear h
  rcases ft v1 with ha0 | ha0
  ·replace hw5 := ite_t ha0 hw5
   replace hw5 := bs hw5
   obtain ⟨v2, hv2, hw5⟩ := hw5
   rcases ft v2 with ha1 | ha1
   ·replace hw5 := ite_t ha1 hw5
    replace hw5 := bs hw5
    obtain ⟨v3, hv3, hw5⟩ := hw5
    replace hw5 := bs hw5
    obtain ⟨v4, hv4, hw5⟩ := hw5
    have hw5 := oi hw5
    subst hw5
    exact (r_dq Try_mixed 14 [] [(2, .p (.bool (v4 == 1)))] [(2, {call := some (none, [.p (.bool v1)], true)}), (4, gT), (5, gT), (6, {g := some true, call := some (none, [.p (.bool v2)], true)}), (7, bT), (9, gT), (10, gT), (11, {g := some true, call := some (none, [.p (iV v3)], true)}), (12, gT), (13, gT), (14, {g := some true, call := some (none, [.p (iV v4)], true)}), (15, gT), (16, bT)] (B6 (wk_spec_l1In hv1) ha0 ha0 ha0 (wk_spec_l1In hv2) ha0 (B6 ha1 ha1 ha1 (wk_spec_l1Abs hv3) ha1 ha1 (A4 ha1 (wk_spec_raCommon hv4) ha1 ha1))))
   ·replace hw5 := ite_f ha1 hw5
    have hw5 := oi hw5
    subst hw5
    exact (r_dq Try_mixed 14 [] [(2, .p (.bool false))] [(2, {call := some (none, [.p (.bool v1)], true)}), (4, gT), (5, gT), (6, {g := some true, call := some (none, [.p (.bool v2)], true)}), (7, bT), (9, gF), (10, gF), (11, gF), (12, gF), (13, gF), (14, gF), (15, gF), (16, bF)] (B6 (wk_spec_l1In hv1) ha0 ha0 ha0 (wk_spec_l1In hv2) ha0 (B6 ha1 ha1 ha1 ha1 ha1 ha1 (A2 ha1 ha1))))
  ·replace hw5 := ite_f ha0 hw5
   have hw5 := oi hw5
   subst hw5
   exact (r_dq Try_mixed 14 [] [(2, .p (.bool false))] [(2, {call := some (none, [.p (.bool v1)], true)}), (4, gF), (5, gF), (6, gF), (7, bF), (9, gF), (10, gF), (11, gF), (12, gF), (13, gF), (14, gF), (15, gF), (16, bF)] (B6 (wk_spec_l1In hv1) ha0 ha0 ha0 ha0 (show false = false from rfl) (B6 (show false = false from rfl) (show false = false from rfl) (show false = false from rfl) (show false = false from rfl) (show false = false from rfl) (show false = false from rfl) (A1 (show false = false from rfl)))))
 ·refine k_ret ?_
  obtain rfl := oi h
  exact er [(.p (.bool w5), 2)]
theorem wk_spec_raUnit {a0 : Qr}  {r : Bool} (h : spec_raUnit a0 = some r) : Meets Try.prog 125 [.v (vRt a0)] { vals := [.p (.bool r)] } := by
 refine mo Try.func125 [(0, .p (vRt a0))] ?_
 unfold spec_raUnit at h
 refine k_sreg (r_gq [(1, .box (eRt a0))] [] trivial) ?_
 replace h := bs h
 obtain ⟨v1, hv1, h⟩ := h
 replace h := bs h
 obtain ⟨w3, hw3, h⟩ := h
 refine k_sreg (l1 := [(2, .p (.bool w3))]) ?_ ?_
 ·clear h
  rcases ft v1 with ha0 | ha0
  ·replace hw3 := ite_t ha0 hw3
   replace hw3 := bs hw3
   obtain ⟨v2, hv2, hw3⟩ := hw3
   have hw3 := oi hw3
   subst hw3
   exact (r_gq [(2, .p (.bool v2))] [(1, {call := some (none, [.p (.bool v1)], true)}), (3, gT), (4, gT), (5, gT), (6, gT), (7, {g := some true, call := some (none, [.p (.bool v2)], true)}), (8, bT)] (B6 (wk_spec_raGood hv1) ha0 ha0 ha0 ha0 ha0 (A2 (wk_spec_l1In hv2) ha0)))
  ·replace hw3 := ite_f ha0 hw3
   have hw3 := oi hw3
   subst hw3
   exact (r_gq [(2, .p (.bool false))] [(1, {call := some (none, [.p (.bool v1)], true)}), (3, gF), (4, gF), (5, gF), (6, gF), (7, gF), (8, bF)] (B6 (wk_spec_raGood hv1) ha0 ha0 ha0 ha0 ha0 (A1 ha0)))
 ·refine k_ret ?_
  obtain rfl := oi h
  exact er [(.p (.bool w3), 2)]
theorem wk_spec_imCoord {a0 : Qr}  {r : Bool} (h : spec_imCoord a0 = some r) : Meets Try.prog 88 [.v (vRt a0)] { vals := [.p (.bool r)] } := by
 refine mo Try.func88 [(0, .p (vRt a0))] ?_
 unfold spec_imCoord at h
 refine k_sreg (r_gq [(1, .box (eRt a0))] [] trivial) ?_
 replace h := bs h
 obtain ⟨v1, hv1, h⟩ := h
 refine k_sreg (l1 := [(2, .p (.bool (v1 && (decide (a0.2 ≤ 100)))))]) ?_ ?_
 ·rcases ft v1 with ha0 | ha0
  ·exact RegOk.of_eq (l2 := [(2, .p (.bool (v1 && (decide (a0.2 ≤ 100)))))]) (r_gq [(2, .p (.bool (decide (a0.2 ≤ 100))))] [(1, {call := some (none, [.p (.bool v1)], true)}), (3, gT), (4, gT), (5, gT), (6, bT)] (A5 (wk_spec_raUnit hv1) ha0 ha0 ha0 ha0)) (by simp [ha0])
  ·exact RegOk.of_eq (l2 := [(2, .p (.bool (v1 && (decide (a0.2 ≤ 100)))))]) (r_gq [(2, .p (.bool false))] [(1, {call := some (none, [.p (.bool v1)], true)}), (3, gF), (4, gF), (5, gF), (6, bF)] (A5 (wk_spec_raUnit hv1) ha0 ha0 ha0 ha0)) (by simp [ha0])
 ·refine k_ret ?_
  obtain rfl := oi h
  exact er [(.p (.bool (v1 && (decide (a0.2 ≤ 100)))), 2)]
theorem wk_spec_l1Sign {a0 : Int}  {r : Int} (h : spec_l1Sign a0 = some r) : Meets Try.prog 122 [wI a0] { vals := [.p (iV r)] } := by
 refine mo Try.func122 [(0, .p (iV a0))] ?_
 unfold spec_l1Sign at h
 refine k_sreg (r_gq [(0, .p (iV a0))] [] trivial) ?_
 refine k_seq ?_
 refine k_block ?_
 refine k_sreg (r_gq [(0, .p (iV a0)), (3, .p (.bool (decide (a0 > 0))))] [] trivial) ?_
 refine kc (decide (a0 > 0)) (fun hc3_0 => ?_) (fun hc3_0 => ?_)
 ·replace h := ite_t hc3_0 h
  refine k_sreg (r_gq [(2, .p (iV 1))] [] trivial) ?_
  refine k_ret ?_
  refine b_r ?_
  refine q_r ?_
  obtain rfl := oi h
  exact er [(.p (iV 1), 2)]
 ·replace h := ite_f hc3_0 h
  refine k_sreg (r_gq [(6, .p (.bool (decide (a0 < 0))))] [] trivial) ?_
  refine kc (decide (a0 < 0)) (fun hc3_1 => ?_) (fun hc3_1 => ?_)
  ·replace h := ite_t hc3_1 h
   refine k_sreg (r_gq [(2, .p (iV (-1)))] [] trivial) ?_
   refine k_ret ?_
   refine b_r ?_
   refine q_r ?_
   obtain rfl := oi h
   exact er [(.p (iV (-1)), 2)]
  ·replace h := ite_f hc3_1 h
   refine k_skip ?_
   refine b_n ?_
   refine q_n ?_
   refine k_sreg (r_gq [(2, .p (iV 0))] [] trivial) ?_
   refine k_ret ?_
   obtain rfl := oi h
   exact er [(.p (iV 0), 2)]
theorem wk_spec_raCmp {a0 : Qr} {a1 : Qr}  {r : Int} (h : spec_raCmp a0 a1 = some r) : Meets Try.prog 81 [.v (vRt a0), .v (vRt a1)] { vals := [.p (iV r)] } := by
 refine mo Try.func81 [(0, .p (vRt a0)), (1, .p (vRt a1))] ?_
 unfold spec_raCmp at h
 refine k_sreg (r_gq [(2, .box (eRt a0)), (3, .box (eRt a1))] [] trivial) ?_
 replace h := bs h
 obtain ⟨v1, hv1, h⟩ := h
 refine k_sreg (r_gq [(4, .p (iV v1))] [(11, {call := some (none, [.p (iV v1)], true)})] (A1 (wk_spec_l1Sign hv1))) ?_
 refine k_ret ?_
 obtain rfl := oi h
 exact er [(.p (iV v1), 4)]
theorem wk_spec_raInt {a0 : Int}  {r : Qr} (h : spec_raInt a0 = some r) : Meets Try.prog 89 [wI a0] { vals := [.p (vRt r)] } := by
 refine mo Try.func89 [(0, .p (iV a0))] ?_
 unfold spec_raInt at h
 refine k_sreg (r_gq [(0, .p (iV a0)), (2, .box [rI 0, rI 0])] [] trivial) ?_
 refine k_sreg (r_gq [(2, .box [rI a0, rI 1])] [] trivial) ?_
 refine k_ret ?_
 obtain rfl := oi h
 exact er [(.p (.agg #[.int .i64 a0, .int .i64 1]), 2)]
theorem wk_spec_liPlus {a0 : Qr} {a1 : Int}  {r : Qr} (h : spec_liPlus a0 a1 = some r) : Meets Try.prog 90 [.v (vRt a0), wI a1] { vals := [.p (vRt r)] } := by
 refine mo Try.func90 [(0, .p (vRt a0)), (1, .p (iV a1))] ?_
 unfold spec_liPlus at h
 refine k_sreg (r_gq [(1, .p (iV a1)), (2, .box (eRt a0)), (4, .box [rI 0, rI 0])] [] trivial) ?_
 refine k_sreg (r_gq [(4, .box [rI (w64 (a0.1 + (w64 (a1 * a0.2)))), rI a0.2])] [] trivial) ?_
 refine k_ret ?_
 obtain rfl := oi h
 exact er [(.p (.agg #[.int .i64 (w64 (a0.1 + (w64 (a1 * a0.2)))), .int .i64 a0.2]), 4)]
theorem wk_spec_liGood {a0 : (List Qp)}  {r : Bool} (h : spec_liGood a0 = some r) : Meets Try.prog 49 [.d true [.sl none (a0.map ePt)]] { vals := [.p (.bool r)] } := by
 refine mo Try.func49 [(0, .d true [.sl none (a0.map ePt)])] ?_
 unfold spec_liGood at h
 refine k_sreg (r_gq [(1, .box [.sl none (a0.map ePt)])] [] trivial) ?_
 refine k_sreg (r_gq [(1, .box [.sl none (a0.map ePt)]), (3, .p (iV (a0.length : Int)))] [(1, bT), (2, {n := some a0.length})] (A2 (show frR [.sl none (a0.map ePt)] = true from (frR1 (frL_enc (fr_P (fr_P fr_I fr_I) (fr_P fr_I fr_I))) rfl)) (show (a0.map ePt).length = a0.length from (List.length_map ..)))) ?_
 refine k_seq ?_
 replace h := bs h
 obtain ⟨v1, hv1, h⟩ := h
 refine k_sreg (r_gq [(1, .box [.sl none (a0.map ePt)]), (3, .p (iV (a0.length : Int))), (13, .p (.bool (!v1)))] [(1, {call := some (none, [.p (.bool v1)], true)})] (A1 (wk_spec_l1In hv1))) ?_
 refine kc (!v1) (fun hc2_1 => ?_) (fun hc2_1 => ?_)
 ·replace h := ite_t hc2_1 h
  refine k_sreg (r_gq [(2, .p (.bool false))] [] trivial) ?_
  refine k_ret ?_
  refine q_r ?_
  obtain rfl := oi h
  exact er [(.p (.bool false), 2)]
 ·replace h := ite_f hc2_1 h
  refine k_skip ?_
  refine q_n ?_
  refine k_join (J := fun (x : Unit) => [(1, .box [.sl none (a0.map ePt)]), (3, .p (iV (a0.length : Int)))]) (K := fun x => spec_liGood_k1 a0 x = some r) (fun x3 h => ?_) ?_
  ·unfold spec_liGood_k1 at h
   replace h := bs h
   obtain ⟨v4, hv4, h⟩ := h
   replace h := bs h
   obtain ⟨v5, hv5, h⟩ := h
   refine k_sreg (r_dq Try_mixed 13 [(12, 6)] [(6, .box (ePt v4)), (7, .box (ePt v5))] [(1, bT), (2, {row := some (ePt v4)}), (5, bT), (8, {row := some (ePt v5)})] (A6 (show frR [.sl none (a0.map ePt)] = true from (frR1 (frL_enc (fr_P (fr_P fr_I fr_I) (fr_P fr_I fr_I))) rfl)) (idxO_some hv4).1 (map_get ePt (idxO_some hv4).2) (show frR [.sl none (a0.map ePt)] = true from (frR1 (frL_enc (fr_P (fr_P fr_I fr_I) (fr_P fr_I fr_I))) rfl)) (idxO_some hv5).1 (map_get ePt (idxO_some hv5).2))) ?_
   replace h := bs h
   obtain ⟨v6, hv6, h⟩ := h
   replace h := bs h
   obtain ⟨v7, hv7, h⟩ := h
   replace h := bs h
   obtain ⟨w11, hw11, h⟩ := h
   refine k_sreg (l1 := [(2, .p (.bool w11))]) ?_ ?_
   ·clear h
    rcases ft (v7 == 0) with ha1 | ha1
    ·replace hw11 := ite_t ha1 hw11
     replace hw11 := bs hw11
     obtain ⟨v8, hv8, hw11⟩ := hw11
     replace hw11 := bs hw11
     obtain ⟨v9, hv9, hw11⟩ := hw11
     rcases ft (v9 == 0) with ha2 | ha2
     ·replace hw11 := ite_t ha2 hw11
      replace hw11 := bs hw11
      obtain ⟨v10, hv10, hw11⟩ := hw11
      have hw11 := oi hw11
      subst hw11
      exact (r_dq Try_mixed 18 [] [(2, .p (.bool ((v5.2.1 == v10.1) && (v5.2.2 == v10.2))))] [(2, {call := some (none, [.p (vRt v6)], true)}), (3, {call := some (none, [.p (iV v7)], true)}), (6, gT), (7, gT), (8, {g := some true, call := some (none, [.p (vRt v8)], true)}), (9, {g := some true, call := some (none, [.p (iV v9)], true)}), (10, gT), (11, bT), (13, gT), (14, gT), (15, gT), (16, gT), (17, {g := some true, call := some (none, [.p (vRt v10)], true)}), (18, {g := some true, pv := some (.bool ((v5.2.1 == v10.1) && (v5.2.2 == v10.2)))}), (19, bT)] (B6 (wk_spec_raInt hv6) (wk_spec_raCmp hv7) ha1 ha1 ha1 (wk_spec_raInt hv8) (B6 ha1 (wk_spec_raCmp hv9) ha1 ha1 ha2 ha2 (B6 ha2 ha2 ha2 (wk_spec_liPlus hv10) ha2 (show PureAt Try.prog (.binOp .eql 44 (.tmp 106) (.tmp 109) 44) [vRt v5.2, vRt v10] (.bool ((v5.2.1 == v10.1) && (v5.2.2 == v10.2))) from (pure_eql2 (by kernel_rfl))) (A1 ha2)))))
     ·replace hw11 := ite_f ha2 hw11
      have hw11 := oi hw11
      subst hw11
      exact (r_dq Try_mixed 18 [] [(2, .p (.bool false))] [(2, {call := some (none, [.p (vRt v6)], true)}), (3, {call := some (none, [.p (iV v7)], true)}), (6, gT), (7, gT), (8, {g := some true, call := some (none, [.p (vRt v8)], true)}), (9, {g := some true, call := some (none, [.p (iV v9)], true)}), (10, gT), (11, bT), (13, gF), (14, gF), (15, gF), (16, gF), (17, gF), (18, gF), (19, bF)] (B6 (wk_spec_raInt hv6) (wk_spec_raCmp hv7) ha1 ha1 ha1 (wk_spec_raInt hv8) (B6 ha1 (wk_spec_raCmp hv9) ha1 ha1 ha2 ha2 (A5 ha2 ha2 ha2 ha2 ha2))))
    ·replace hw11 := ite_f ha1 hw11
     have hw11 := oi hw11
     subst hw11
     exact (r_dq Try_mixed 18 [] [(2, .p (.bool false))] [(2, {call := some (none, [.p (vRt v6)], true)}), (3, {call := some (none, [.p (iV v7)], true)}), (6, gF), (7, gF), (8, gF), (9, gF), (10, gF), (11, bF), (13, gF), (14, gF), (15, gF), (16, gF), (17, gF), (18, gF), (19, bF)] (B6 (wk_spec_raInt hv6) (wk_spec_raCmp hv7) ha1 ha1 ha1 ha1 (B6 ha1 ha1 (show false = false from rfl) (show false = false from rfl) (show false = false from rfl) (show false = false from rfl) (A3 (show false = false from rfl) (show false = false from rfl) (show false = false from rfl)))))
   ·refine k_ret ?_
    obtain rfl := oi h
    exact er [(.p (.bool w11), 2)]
  ·refine k_sreg (r_gq [(1, .box [.sl none (a0.map ePt)]), (3, .p (iV (a0.length : Int))), (15, .d false [.sl none (a0.map ePt)]), (16, .p (iV (a0.length : Int))), (17, .p (iV 0))] [(1, bT), (2, {n := some a0.length})] (A2 (show frR [.sl none (a0.map ePt)] = true from (frR1 (frL_enc (fr_P (fr_P fr_I fr_I) (fr_P fr_I fr_I))) rfl)) (show (a0.map ePt).length = a0.length from (List.length_map ..)))) ?_
   refine k_block ?_
   obtain ⟨y13, hl_x12, hk_x12⟩ := bs h
   clear h
   refine k_loop (J := fun (x : Int) => [(1, .box [.sl none (a0.map ePt)]), (3, .p (iV (a0.length : Int))), (15, .d false [.sl none (a0.map ePt)]), (16, .p (iV (a0.length : Int))), (17, .p (iV x))]) hl_x12 (wk_of (by kernel_rfl) (by kernel_rfl)) (fun x12 o_x12 h hy_x12 => ?_)
   unfold spec_liGood_b1 at h
   refine k_sreg (r_gq [(1, .box [.sl none (a0.map ePt)]), (3, .p (iV (a0.length : Int))), (15, .d false [.sl none (a0.map ePt)]), (16, .p (iV (a0.length : Int))), (17, .p (iV x12)), (18, .p (.bool (decide (x12 < (a0.length : Int)))))] [] trivial) ?_
   refine k_seq ?_
   refine kc (decide (x12 < (a0.length : Int))) (fun hc5_13 => ?_) (fun hc5_13 => ?_)
   ·replace h := ite_t hc5_13 h
    refine k_skip ?_
    refine q_n ?_
    refine k_seq ?_
    refine k_block ?_
    replace h := bs h
    obtain ⟨v15, hv15, h⟩ := h
    refine k_sreg (r_gq [(1, .box [.sl none (a0.map ePt)]), (3, .p (iV (a0.length : Int))), (4, .p (iV x12)), (5, .box (ePt v15)), (15, .d false [.sl none (a0.map ePt)]), (16, .p (iV (a0.length : Int))), (17, .p (iV x12))] [(1, {row := some (ePt v15)})] (A2 (idxO_some hv15).1 (map_get ePt (idxO_some hv15).2))) ?_
    refine k_seq ?_
    replace h := bs h
    obtain ⟨v16, hv16, h⟩ := h
    replace h := bs h
    obtain ⟨w19, hw19, h⟩ := h
    refine k_sreg (l1 := [(1, .box [.sl none (a0.map ePt)]), (3, .p (iV (a0.length : Int))), (4, .p (iV x12)), (5, .box (ePt v15)), (15, .d false [.sl none (a0.map ePt)]), (16, .p (iV (a0.length : Int))), (17, .p (iV x12)), (52, .p (.bool w19))]) ?_ ?_
    ·clear h
     rcases ft (!v16) with ha2 | ha2
     ·replace hw19 := ite_t ha2 hw19
      have hw19 := oi hw19
      subst hw19
      exact (r_gq [(1, .box [.sl none (a0.map ePt)]), (3, .p (iV (a0.length : Int))), (4, .p (iV x12)), (5, .box (ePt v15)), (15, .d false [.sl none (a0.map ePt)]), (16, .p (iV (a0.length : Int))), (17, .p (iV x12)), (52, .p (.bool true))] [(2, {call := some (none, [.p (.bool v16)], true)}), (5, gT), (6, gT), (7, gT), (8, gT), (9, bT), (11, gT), (12, gT), (13, gT), (14, gT), (15, bT), (17, gT), (18, gT), (19, gT), (20, gT), (21, gT), (22, gT), (23, gT), (24, gT), (25, gT), (26, gT), (27, gT), (28, gT), (29, gT), (30, bT)] (B6 (wk_spec_imCoord hv16) ha2 ha2 ha2 ha2 ha2 (B6 (show true = true from rfl) (show true = true from rfl) (show true = true from rfl) (show true = true from rfl) (show true = true from rfl) (show true = true from rfl) (B6 (show true = true from rfl) (show true = true from rfl) (show true = true from rfl) (show true = true from rfl) (show true = true from rfl) (show true = true from rfl) (B6 (show true = true from rfl) (show true = true from rfl) (show true = true from rfl) (show true = true from rfl) (show true = true from rfl) (show true = true from rfl) (A1 (show true = true from rfl)))))))
     ·replace hw19 := ite_f ha2 hw19
      replace hw19 := bs hw19
      obtain ⟨v17, hv17, hw19⟩ := hw19
      rcases ft (!v17) with ha3 | ha3
      ·replace hw19 := ite_t ha3 hw19
       have hw19 := oi hw19
       subst hw19
       exact (r_gq [(1, .box [.sl none (a0.map ePt)]), (3, .p (iV (a0.length : Int))), (4, .p (iV x12)), (5, .box (ePt v15)), (15, .d false [.sl none (a0.map ePt)]), (16, .p (iV (a0.length : Int))), (17, .p (iV x12)), (52, .p (.bool true))] [(2, {call := some (none, [.p (.bool v16)], true)}), (5, gF), (6, gF), (7, {g := some false, call := some (none, [.p (.bool v17)], true)}), (8, gF), (9, bF), (11, gT), (12, gT), (13, gT), (14, gT), (15, bT), (17, gT), (18, gT), (19, gT), (20, gT), (21, gT), (22, gT), (23, gT), (24, gT), (25, gT), (26, gT), (27, gT), (28, gT), (29, gT), (30, bT)] (B6 (wk_spec_imCoord hv16) ha2 ha2 ha2 (wk_spec_raGood hv17) ha2 (B6 ha2 ha3 ha3 ha3 ha3 ha3 (B6 (show true = true from rfl) (show true = true from rfl) (show true = true from rfl) (show true = true from rfl) (show true = true from rfl) (show true = true from rfl) (B6 (show true = true from rfl) (show true = true from rfl) (show true = true from rfl) (show true = true from rfl) (show true = true from rfl) (show true = true from rfl) (A2 (show true = true from rfl) (show true = true from rfl)))))))
      ·replace hw19 := ite_f ha3 hw19
       rcases ft (decide (v15.2.2 > 100)) with ha4 | ha4
       ·replace hw19 := ite_t ha4 hw19
        have hw19 := oi hw19
        subst hw19
        exact (r_gq [(1, .box [.sl none (a0.map ePt)]), (3, .p (iV (a0.length : Int))), (4, .p (iV x12)), (5, .box (ePt v15)), (15, .d false [.sl none (a0.map ePt)]), (16, .p (iV (a0.length : Int))), (17, .p (iV x12)), (52, .p (.bool true))] [(2, {call := some (none, [.p (.bool v16)], true)}), (5, gF), (6, gF), (7, {g := some false, call := some (none, [.p (.bool v17)], true)}), (8, gF), (9, bF), (11, gF), (12, gF), (13, gF), (14, gF), (15, bF), (17, gT), (18, gT), (19, gT), (20, gT), (21, gT), (22, gT), (23, gT), (24, gT), (25, gT), (26, gT), (27, gT), (28, gT), (29, gT), (30, bT)] (B6 (wk_spec_imCoord hv16) ha2 ha2 ha2 (wk_spec_raGood hv17) ha2 (B6 ha2 ha3 ha3 ha3 ha3 ha3 (B6 ha4 ha4 ha4 ha4 ha4 ha4 (B6 ha4 ha4 ha4 ha4 ha4 ha4 (A2 ha4 ha4))))))
       ·replace hw19 := ite_f ha4 hw19
        replace hw19 := bs hw19
        obtain ⟨v18, hv18, hw19⟩ := hw19
        have hw19 := oi hw19
        subst hw19
        exact (r_gq [(1, .box [.sl none (a0.map ePt)]), (3, .p (iV (a0.length : Int))), (4, .p (iV x12)), (5, .box (ePt v15)), (15, .d false [.sl none (a0.map ePt)]), (16, .p (iV (a0.length : Int))), (17, .p (iV x12)), (52, .p (.bool (!v18)))] [(2, {call := some (none, [.p (.bool v16)], true)}), (5, gF), (6, gF), (7, {g := some false, call := some (none, [.p (.bool v17)], true)}), (8, gF), (9, bF), (11, gF), (12, gF), (13, gF), (14, gF), (15, bF), (17, gF), (18, gF), (19, gF), (20, gF), (21, gF), (22, gF), (23, gF), (24, gF), (25, gF), (26, gF), (27, gF), (28, {g := some false, call := some (none, [.p (.bool v18)], true)}), (29, gF), (30, bF)] (B6 (wk_spec_imCoord hv16) ha2 ha2 ha2 (wk_spec_raGood hv17) ha2 (B6 ha2 ha3 ha3 ha3 ha3 ha3 (B6 ha4 ha4 ha4 ha4 ha4 ha4 (B6 ha4 ha4 ha4 ha4 ha4 ha4 (A3 (wk_spec_l1In hv18) ha4 ha4))))))
    ·refine kc w19 (fun hc7_19 => ?_) (fun hc7_19 => ?_)
     ·replace h := ite_t hc7_19 h
      refine k_sreg (r_gq [(2, .p (.bool false))] [] trivial) ?_
      refine k_ret ?_
      refine q_r ?_
      refine b_r ?_
      refine q_r ?_
      refine lq_r ?_
      refine b_r ?_
      refine q_r ?_
      have hyy := hy_x12 _ (oi h).symm
      subst hyy
      have h := hk_x12
      dsimp only [Sum.elim] at h
      obtain rfl := oi h
      exact er [(.p (.bool false), 2)]
     ·replace h := ite_f hc7_19 h
      refine k_skip ?_
      refine q_n ?_
      replace h := bs h
      obtain ⟨w24, hw24, h⟩ := h
      refine k_sreg (l1 := [(1, .box [.sl none (a0.map ePt)]), (3, .p (iV (a0.length : Int))), (15, .d false [.sl none (a0.map ePt)]), (16, .p (iV (a0.length : Int))), (17, .p (iV x12)), (80, .p (.bool w24))]) ?_ ?_
      ·clear h
       rcases ft (decide (x12 > 0)) with ha3 | ha3
       ·replace hw24 := ite_t ha3 hw24
        replace hw24 := bs hw24
        obtain ⟨v21, hv21, hw24⟩ := hw24
        replace hw24 := bs hw24
        obtain ⟨v22, hv22, hw24⟩ := hw24
        rcases ft (decide (v22 ≥ 0)) with ha4 | ha4
        ·replace hw24 := ite_t ha4 hw24
         have hw24 := oi hw24
         subst hw24
         exact (r_dq Try_mixed 24 [] [(1, .box [.sl none (a0.map ePt)]), (3, .p (iV (a0.length : Int))), (15, .d false [.sl none (a0.map ePt)]), (16, .p (iV (a0.length : Int))), (17, .p (iV x12)), (80, .p (.bool true))] [(3, gT), (4, {g := some true, b := some true}), (5, gT), (6, gT), (7, {g := some true, row := some (ePt v21)}), (8, gT), (9, gT), (10, gT), (11, gT), (12, {g := some true, call := some (none, [.p (iV v22)], true)}), (13, gT), (14, gT), (15, gT), (16, gT), (17, gT), (18, gT), (19, gT), (20, gT), (21, gT), (22, gT), (23, gT), (24, gT), (25, gT), (26, {g := some true, b := some true}), (27, bT)] (B6 ha3 ha3 (show frR [.sl none (a0.map ePt)] = true from (frR1 (frL_enc (fr_P (fr_P fr_I fr_I) (fr_P fr_I fr_I))) rfl)) ha3 ha3 ha3 (B6 (idxO_some hv21).1 (map_get ePt (idxO_some hv21).2) ha3 ha3 ha3 ha3 (B6 ha3 (wk_spec_raCmp hv22) ha3 ha3 ha4 ha4 (B6 ha4 ha4 ha4 ha4 ha4 ha4 (A6 ha4 ha4 ha4 ha3 ha4 ha3))))))
        ·replace hw24 := ite_f ha4 hw24
         replace hw24 := bs hw24
         obtain ⟨v23, hv23, hw24⟩ := hw24
         have hw24 := oi hw24
         subst hw24
         exact (r_dq Try_mixed 24 [] [(1, .box [.sl none (a0.map ePt)]), (3, .p (iV (a0.length : Int))), (15, .d false [.sl none (a0.map ePt)]), (16, .p (iV (a0.length : Int))), (17, .p (iV x12)), (80, .p (.bool (decide (v23 > 0))))] [(3, gT), (4, {g := some true, b := some true}), (5, gT), (6, gT), (7, {g := some true, row := some (ePt v21)}), (8, gT), (9, gT), (10, gT), (11, gT), (12, {g := some true, call := some (none, [.p (iV v22)], true)}), (13, gT), (14, gT), (15, gF), (16, {g := some false, b := some true}), (17, gF), (18, gF), (19, {g := some false, row := some (ePt v21)}), (20, gF), (21, gF), (22, gF), (23, gF), (24, {g := some false, call := some (none, [.p (iV v23)], true)}), (25, gF), (26, {g := some true, b := some false}), (27, bT)] (B6 ha3 ha3 (show frR [.sl none (a0.map ePt)] = true from (frR1 (frL_enc (fr_P (fr_P fr_I fr_I) (fr_P fr_I fr_I))) rfl)) ha3 ha3 ha3 (B6 (idxO_some hv21).1 (map_get ePt (idxO_some hv21).2) ha3 ha3 ha3 ha3 (B6 ha3 (wk_spec_raCmp hv22) ha3 ha3 ha4 ha4 (B6 (show frR [.sl none (a0.map ePt)] = true from (frR1 (frL_enc (fr_P (fr_P fr_I fr_I) (fr_P fr_I fr_I))) rfl)) ha4 ha4 ha4 (idxO_some hv21).1 (map_get ePt (idxO_some hv21).2) (B6 ha4 ha4 ha4 ha4 ha4 (wk_spec_raCmp hv23) (A4 ha4 ha3 ha4 ha3)))))))
       ·replace hw24 := ite_f ha3 hw24
        have hw24 := oi hw24
        subst hw24
        exact (r_dq Try_mixed 24 [] [(1, .box [.sl none (a0.map ePt)]), (3, .p (iV (a0.length : Int))), (15, .d false [.sl none (a0.map ePt)]), (16, .p (iV (a0.length : Int))), (17, .p (iV x12)), (80, .p (.bool false))] [(3, gF), (4, gF), (5, gF), (6, gF), (7, gF), (8, gF), (9, gF), (10, gF), (11, gF), (12, gF), (13, gF), (14, gF), (26, gF), (27, bF)] (B6 ha3 ha3 ha3 ha3 ha3 ha3 (B6 ha3 ha3 ha3 ha3 ha3 ha3 (A2 ha3 ha3))))
      ·refine kc w24 (fun hc6_24 => ?_) (fun hc6_24 => ?_)
       ·replace h := ite_t hc6_24 h
        refine k_sreg (r_gq [(2, .p (.bool false))] [] trivial) ?_
        refine k_ret ?_
        refine b_r ?_
        refine q_r ?_
        refine lq_r ?_
        refine b_r ?_
        refine q_r ?_
        have hyy := hy_x12 _ (oi h).symm
        subst hyy
        have h := hk_x12
        dsimp only [Sum.elim] at h
        obtain rfl := oi h
        exact er [(.p (.bool false), 2)]
       ·replace h := ite_f hc6_24 h
        refine k_skip ?_
        refine b_n ?_
        refine q_n ?_
        refine k_reg (r_gq [(1, .box [.sl none (a0.map ePt)]), (3, .p (iV (a0.length : Int))), (15, .d false [.sl none (a0.map ePt)]), (16, .p (iV (a0.length : Int))), (17, .p (iV (w64 (x12 + 1))))] [] trivial) ?_
        exact lqn (w64 (x12 + 1)) h
   ·replace h := ite_f hc5_13 h
    refine k_exit ?_
    refine q_x ?_
    refine lq_x ?_
    refine b_x ?_
    have hyy := hy_x12 _ (oi h).symm
    subst hyy
    have h := hk_x12
    dsimp only [Sum.elim] at h
    refine q_n ?_
    exact jx () h
theorem wk_spec_imMirror {a0 : Qr}  {r : Qr} (h : spec_imMirror a0 = some r) : Meets Try.prog 54 [.v (vRt a0)] { vals := [.p (vRt r)] } := by
 refine mo Try.func54 [(0, .p (vRt a0))] ?_
 unfold spec_imMirror at h
 refine k_sreg (r_gq [(1, .box (eRt a0)), (2, .box [rI 0, rI 0])] [] trivial) ?_
 refine k_sreg (r_gq [(2, .box [rI (w64 (a0.2 - a0.1)), rI a0.2])] [] trivial) ?_
 refine k_ret ?_
 obtain rfl := oi h
 exact er [(.p (.agg #[.int .i64 (w64 (a0.2 - a0.1)), .int .i64 a0.2]), 2)]
theorem wk_spec_liIf {a0 : (List Qp)}  {r : ((List Qp) × Bool)} (h : spec_liIf a0 = some r) : Meets Try.prog 55 [.d false [.sl none (a0.map ePt)]] { vals := [.ov true [.sl none (r.1.map ePt)], .p (.bool r.2)] } := by
 refine mo Try.func55 [(0, .d false [.sl none (a0.map ePt)])] ?_
 unfold spec_liIf at h
 refine k_sreg (r_gq [(0, .d false [.sl none (a0.map ePt)]), (2, .box [.sl (some 71) []])] [] trivial) ?_
 refine k_sreg (r_gq [(2, .box [.sl (some 71) []]), (4, .box [.sl none (a0.map ePt)])] [] trivial) ?_
 refine k_seq ?_
 replace h := bs h
 obtain ⟨v1, hv1, h⟩ := h
 refine k_sreg (r_gq [(2, .box [.sl (some 71) []]), (4, .box [.sl none (a0.map ePt)]), (9, .p (.bool (!v1)))] [(0, bT), (1, {call := some (none, [.p (.bool v1)], true)})] (A2 (show frR [.sl none (a0.map ePt)] = true from (frR1 (frL_enc (fr_P (fr_P fr_I fr_I) (fr_P fr_I fr_I))) rfl)) (wk_spec_liGood hv1))) ?_
 refine kc (!v1) (fun hc2_1 => ?_) (fun hc2_1 => ?_)
 ·replace h := ite_t hc2_1 h
  refine k_sreg (r_gq [(2, .box [.sl none []]), (3, .p (.bool false))] [] trivial) ?_
  refine k_ret ?_
  refine q_r ?_
  obtain rfl := oi h
  exact er [(.ov true [.sl none []], 2), (.p (.bool false), 3)]
 ·replace h := ite_f hc2_1 h
  refine k_skip ?_
  refine q_n ?_
  refine k_sreg (r_gq [(2, .box [.sl none (a0.map ePt)]), (3, .p (.bool true))] [(0, bT)] (A1 (show frR [.sl none (a0.map ePt)] = true from (frR1 (frL_enc (fr_P (fr_P fr_I fr_I) (fr_P fr_I fr_I))) rfl)))) ?_
  refine k_ret ?_
  obtain rfl := oi h
  exact er [(.ov true [.sl none (a0.map ePt)], 2), (.p (.bool true), 3)]
theorem wk_spec_ReverseLift {a0 : (List Qp)}  {r : ((List Qp) × Bool)} (h : spec_ReverseLift a0 = some r) : Meets Try.prog 20 [.d true [.sl none (a0.map ePt)]] { vals := [.ov true [.sl none (r.1.map ePt)], .p (.bool r.2)] } := by
 refine mo Try.func20 [(0, .d true [.sl none (a0.map ePt)])] ?_
 unfold spec_ReverseLift at h
 refine k_sreg (r_gq [(1, .box [.sl none (a0.map ePt)]), (2, .box [.sl (some 71) []])] [] trivial) ?_
 refine k_seq ?_
 replace h := bs h
 obtain ⟨v1, hv1, h⟩ := h
 refine k_sreg (r_gq [(1, .box [.sl none (a0.map ePt)]), (2, .box [.sl (some 71) []]), (9, .p (.bool (!v1)))] [(0, bT), (1, {call := some (none, [.p (.bool v1)], true)})] (A2 (show frR [.sl none (a0.map ePt)] = true from (frR1 (frL_enc (fr_P (fr_P fr_I fr_I) (fr_P fr_I fr_I))) rfl)) (wk_spec_liGood hv1))) ?_
 refine kc (!v1) (fun hc2_1 => ?_) (fun hc2_1 => ?_)
 ·replace h := ite_t hc2_1 h
  refine k_sreg (r_gq [(2, .box [.sl none []]), (3, .p (.bool false))] [] trivial) ?_
  refine k_ret ?_
  refine q_r ?_
  obtain rfl := oi h
  exact er [(.ov true [.sl none []], 2), (.p (.bool false), 3)]
 ·replace h := ite_f hc2_1 h
  refine k_skip ?_
  refine q_n ?_
  refine k_sreg (r_gq [(1, .box [.sl none (a0.map ePt)]), (2, .box [.sl (some 71) []]), (4, .ov false [.sl (some 71) []])] [] trivial) ?_
  refine k_join (J := fun (x : (List Qp)) => [(2, .box [.sl (some 71) []]), (4, .ov false [.sl (some 71) (x.map ePt)])]) (K := fun x => spec_ReverseLift_k1 x = some r) (fun x3 h => ?_) ?_
  ·unfold spec_ReverseLift_k1 at h
   replace h := bs h
   obtain ⟨v4, hv4, h⟩ := h
   refine k_sreg (r_gq [(2, .box [.sl none (v4.1.map ePt)]), (3, .p (.bool v4.2))] [(1, {call := some (some [.d false [.sl none (x3.map ePt)]], [.ov true [.sl none (v4.1.map ePt)], .p (.bool v4.2)], false), fix := some (4, .d false [.sl none (x3.map ePt)])})] (A3 (show ([.d false [.sl none (eraL (x3.map ePt))]] : List Arg) = [.d false [.sl none (x3.map ePt)]] from (by simp only [eraL_enc (h := ePt) (era_P (era_P er_I er_I) (era_P er_I er_I))])) (wk_spec_liIf hv4) (show (SV.d false (eraR [.sl (some 71) (x3.map ePt)]) : SV) = .d false [.sl none (x3.map ePt)] from (congrArg (fun z => SV.d false z) (erc_sl (eraL_enc (era_P (era_P er_I er_I) (era_P er_I er_I))) rfl))))) ?_
   refine k_ret ?_
   obtain rfl := oi h
   exact er [(.ov true [.sl none (v4.1.map ePt)], 2), (.p (.bool v4.2), 3)]
  ·refine k_sreg (r_gq [(1, .box [.sl none (a0.map ePt)]), (2, .box [.sl (some 71) []]), (4, .ov false [.sl (some 71) []]), (5, .p (iV (w64 ((a0.length : Int) - 1))))] [(1, bT), (2, {n := some a0.length})] (A2 (show frR [.sl none (a0.map ePt)] = true from (frR1 (frL_enc (fr_P (fr_P fr_I fr_I) (fr_P fr_I fr_I))) rfl)) (show (a0.map ePt).length = a0.length from (List.length_map ..)))) ?_
   refine k_block ?_
   obtain ⟨y6, hl_x5, hk_x5⟩ := bs h
   clear h
   refine k_loop (J := fun (x : ((List Qp) × Int)) => [(1, .box [.sl none (a0.map ePt)]), (2, .box [.sl (some 71) []]), (4, .ov false [.sl (some 71) (x.1.map ePt)]), (5, .p (iV x.2))]) hl_x5 (wk_of (by kernel_rfl) (by kernel_rfl)) (fun x5 o_x5 h hy_x5 => ?_)
   unfold spec_ReverseLift_b1 at h
   refine k_seq ?_
   refine k_sreg (r_gq [(1, .box [.sl none (a0.map ePt)]), (2, .box [.sl (some 71) []]), (4, .ov false [.sl (some 71) (x5.1.map ePt)]), (5, .p (iV x5.2)), (16, .p (.bool (decide (x5.2 ≥ 0))))] [] trivial) ?_
   refine kc (decide (x5.2 ≥ 0)) (fun hc5_6 => ?_) (fun hc5_6 => ?_)
   ·replace h := ite_t hc5_6 h
    refine k_skip ?_
    refine q_n ?_
    refine k_seq ?_
    refine k_block ?_
    replace h := bs h
    obtain ⟨v8, hv8, h⟩ := h
    refine k_sreg (r_gq [(1, .box [.sl none (a0.map ePt)]), (2, .box [.sl (some 71) []]), (4, .ov false [.sl (some 71) (x5.1.map ePt)]), (5, .p (iV x5.2)), (6, .box (ePt v8))] [(1, bT), (3, {row := some (ePt v8)})] (A3 (show frR [.sl none (a0.map ePt)] = true from (frR1 (frL_enc (fr_P (fr_P fr_I fr_I) (fr_P fr_I fr_I))) rfl)) (idxO_some hv8).1 (map_get ePt (idxO_some hv8).2))) ?_
    replace h := bs h
    obtain ⟨v9, hv9, h⟩ := h
    replace h := bs h
    obtain ⟨v10, hv10, h⟩ := h
    replace h := bs h
    obtain ⟨u11, hu11, h⟩ := h
    refine k_reg (r_dq Try_mixed 9 [] [(1, .box [.sl none (a0.map ePt)]), (2, .box [.sl (some 71) []]), (4, .ov false [.sl (some 71) ((x5.1 ++ [(v9, v10)]).map ePt)]), (5, .p (iV x5.2))] [(3, {call := some (none, [.p (vRt v9)], true)}), (6, {call := some (none, [.p (vRt v10)], true)}), (9, {fix := some (33, .ov false [.sl (some 71) ((x5.1 ++ [(v9, v10)]).map ePt)])})] (A5 (wk_spec_imMirror hv9) (wk_spec_imMirror hv10) (show List.length ((x5.1.map ePt) : List (List C)) + List.length ((([(v9, v10)]).map ePt) : List (List C)) ≤ 1099511627776 from (by have hg := (guardO_some hu11); simpa using hg)) (show ∀ row ∈ ((([(v9, v10)]).map ePt) : List (List C)), row.length = 4 from (rows_len fun _ => rfl)) (show (SV.ov false [.sl (some 71) ((x5.1.map ePt) ++ (([(v9, v10)]).map ePt))] : SV) = .ov false [.sl (some 71) ((x5.1 ++ [(v9, v10)]).map ePt)] from (congrArg (fun z => SV.ov false [.sl (some 71) z]) (List.map_append ..).symm)))) ?_
    refine b_n ?_
    refine q_n ?_
    refine k_reg (r_gq [(1, .box [.sl none (a0.map ePt)]), (2, .box [.sl (some 71) []]), (4, .ov false [.sl (some 71) ((x5.1 ++ [(v9, v10)]).map ePt)]), (5, .p (iV (w64 (x5.2 - 1))))] [] trivial) ?_
    exact lqn ((x5.1 ++ [(v9, v10)]), (w64 (x5.2 - 1))) h
   ·replace h := ite_f hc5_6 h
    refine k_exit ?_
    refine q_x ?_
    refine lq_x ?_
    refine b_x ?_
    have hyy := hy_x5 _ (oi h).symm
    subst hyy
    have h := hk_x5
    refine q_n ?_
    exact jx x5.1 h
theorem wk_impl_within {a0 : Int} {a1 : Int} {a2 : Int}  {r : Bool} (h : impl_within a0 a1 a2 = some r) : Meets Try.prog 92 [wI a0, wI a1, wI a2] { vals := [.p (.bool r)] } := by
 refine mo Try.func92 [(0, .p (iV a0)), (1, .p (iV a1)), (2, .p (iV a2))] ?_
 unfold impl_within at h
 refine k_sreg (r_gq [(0, .p (iV a0)), (1, .p (iV a1)), (2, .p (iV a2))] [] trivial) ?_
 refine k_sreg (l1 := [(6, .p (.bool ((decide (a1 ≤ a0)) && (decide (a0 ≤ a2)))))]) ?_ ?_
 ·rcases ft (decide (a1 ≤ a0)) with ha0 | ha0
  ·exact RegOk.of_eq (l2 := [(6, .p (.bool ((decide (a1 ≤ a0)) && (decide (a0 ≤ a2)))))]) (r_gq [(6, .p (.bool (decide (a0 ≤ a2))))] [(4, gT), (5, gT), (6, gT), (7, bT)] (A4 ha0 ha0 ha0 ha0)) (by simp [ha0])
  ·exact RegOk.of_eq (l2 := [(6, .p (.bool ((decide (a1 ≤ a0)) && (decide (a0 ≤ a2)))))]) (r_gq [(6, .p (.bool false))] [(4, gF), (5, gF), (6, gF), (7, bF)] (A4 ha0 ha0 ha0 ha0)) (by simp [ha0])
 ·refine k_ret ?_
  obtain rfl := oi h
  exact er [(.p (.bool ((decide (a1 ≤ a0)) && (decide (a0 ≤ a2)))), 6)]
theorem wk_slices_IndexFunc_Limpl_Point_impl_Point_v {a0 : (List Qp)} {a1 : (Qp → Option Bool)} {F1 : FuncId} (hp1 : ∀ x0 y, a1 x0 = some y → Meets Try.prog F1 ([.v (vPt x0)] ++ []) { vals := [.p (.bool y)] }) {r : Int} (h : slices_IndexFunc_Limpl_Point_impl_Point a0 a1 = some r) : Meets Try.prog 126 [.d false [.sl none (a0.map ePt)], .v (.func (.func F1) #[] #[])] { vals := [.p (iV r)] } := by
 refine mo Try.func126 [(0, .d false [.sl none (a0.map ePt)]), (1, .p (.func (.func F1) #[] #[]))] ?_
 unfold slices_IndexFunc_Limpl_Point_impl_Point at h
 refine k_sreg (r_gq [(0, .d false [.sl none (a0.map ePt)]), (1, .p (.func (.func F1) #[] #[]))] [] trivial) ?_
 refine k_join (J := fun (x : Unit) => []) (K := fun x => slices_IndexFunc_Limpl_Point_impl_Point_k1 x = some r) (fun x1 h => ?_) ?_
 ·unfold slices_IndexFunc_Limpl_Point_impl_Point_k1 at h
  refine k_sreg (r_gq [(4, .p (iV (-1)))] [] trivial) ?_
  refine k_ret ?_
  obtain rfl := oi h
  exact er [(.p (iV (-1)), 4)]
 ·refine k_sreg (r_gq [(0, .d false [.sl none (a0.map ePt)]), (1, .p (.func (.func F1) #[] #[])), (7, .p (iV (a0.length : Int))), (8, .p (iV 0))] [(1, {n := some a0.length})] (A1 (show (a0.map ePt).length = a0.length from (List.length_map ..)))) ?_
  refine k_block ?_
  obtain ⟨y3, hl_x2, hk_x2⟩ := bs h
  clear h
  refine k_loop (J := fun (x : Int) => [(0, .d false [.sl none (a0.map ePt)]), (1, .p (.func (.func F1) #[] #[])), (7, .p (iV (a0.length : Int))), (8, .p (iV x))]) hl_x2 (wk_of (by kernel_rfl) (by kernel_rfl)) (fun x2 o_x2 h hy_x2 => ?_)
  unfold slices_IndexFunc_Limpl_Point_impl_Point_b1 at h
  refine k_sreg (r_gq [(0, .d false [.sl none (a0.map ePt)]), (1, .p (.func (.func F1) #[] #[])), (7, .p (iV (a0.length : Int))), (8, .p (iV x2)), (9, .p (.bool (decide (x2 < (a0.length : Int)))))] [] trivial) ?_
  refine k_seq ?_
  refine kc (decide (x2 < (a0.length : Int))) (fun hc5_3 => ?_) (fun hc5_3 => ?_)
  ·replace h := ite_t hc5_3 h
   refine k_skip ?_
   refine q_n ?_
   refine k_seq ?_
   refine k_block ?_
   refine k_sreg (r_gq [(0, .d false [.sl none (a0.map ePt)]), (1, .p (.func (.func F1) #[] #[])), (5, .p (iV x2)), (7, .p (iV (a0.length : Int))), (8, .p (iV x2))] [] trivial) ?_
   replace h := bs h
   obtain ⟨v5, hv5, h⟩ := h
   replace h := bs h
   obtain ⟨v6, hv6, h⟩ := h
   refine k_sreg (r_gq [(0, .d false [.sl none (a0.map ePt)]), (1, .p (.func (.func F1) #[] #[])), (5, .p (iV x2)), (7, .p (iV (a0.length : Int))), (8, .p (iV x2)), (16, .p (.bool v6))] [(3, {row := some (ePt v5)}), (5, {call := some (none, [.p (.bool v6)], true)})] (A3 (idxO_some hv5).1 (map_get ePt (idxO_some hv5).2) (hp1 _ _ hv6))) ?_
   refine kc v6 (fun hc6_6 => ?_) (fun hc6_6 => ?_)
   ·replace h := ite_t hc6_6 h
    refine k_sreg (r_gq [(4, .p (iV x2))] [] trivial) ?_
    refine k_ret ?_
    refine b_r ?_
    refine q_r ?_
    refine lq_r ?_
    refine b_r ?_
    refine q_r ?_
    have hyy := hy_x2 _ (oi h).symm
    subst hyy
    have h := hk_x2
    dsimp only [Sum.elim] at h
    obtain rfl := oi h
    exact er [(.p (iV x2), 4)]
   ·replace h := ite_f hc6_6 h
    refine k_skip ?_
    refine b_n ?_
    refine q_n ?_
    refine k_reg (r_gq [(0, .d false [.sl none (a0.map ePt)]), (1, .p (.func (.func F1) #[] #[])), (7, .p (iV (a0.length : Int))), (8, .p (iV (w64 (x2 + 1))))] [] trivial) ?_
    exact lqn (w64 (x2 + 1)) h
  ·replace h := ite_f hc5_3 h
   refine k_exit ?_
   refine q_x ?_
   refine lq_x ?_
   refine b_x ?_
   have hyy := hy_x2 _ (oi h).symm
   subst hyy
   have h := hk_x2
   dsimp only [Sum.elim] at h
   refine q_n ?_
   exact jx () h
theorem wk_slices_ContainsFunc_Limpl_Point_impl_Point_v {a0 : (List Qp)} {a1 : (Qp → Option Bool)} {F1 : FuncId} (hp1 : ∀ x0 y, a1 x0 = some y → Meets Try.prog F1 ([.v (vPt x0)] ++ []) { vals := [.p (.bool y)] }) {r : Bool} (h : slices_ContainsFunc_Limpl_Point_impl_Point a0 a1 = some r) : Meets Try.prog 93 [.d false [.sl none (a0.map ePt)], .v (.func (.func F1) #[] #[])] { vals := [.p (.bool r)] } := by
 refine mo Try.func93 [(0, .d false [.sl none (a0.map ePt)]), (1, .p (.func (.func F1) #[] #[]))] ?_
 unfold slices_ContainsFunc_Limpl_Point_impl_Point at h
 refine k_sreg (r_gq [(0, .d false [.sl none (a0.map ePt)]), (1, .p (.func (.func F1) #[] #[]))] [] trivial) ?_
 replace h := bs h
 obtain ⟨v1, hv1, h⟩ := h
 refine k_sreg (r_gq [(4, .p (.bool (decide (v1 ≥ 0))))] [(2, {call := some (none, [.p (iV v1)], true)})] (A1 (show Meets Try.prog 126 ([.d false [.sl none (a0.map ePt)], .v (.func (.func F1) #[] #[])] ++ []) { vals := [.p (iV v1)] } from (wk_slices_IndexFunc_Limpl_Point_impl_Point_v hp1 hv1)))) ?_
 refine k_ret ?_
 obtain rfl := oi h
 exact er [(.p (.bool (decide (v1 ≥ 0))), 4)]
theorem wk_impl_abs {a0 : Int}  {r : Int} (h : impl_abs a0 = some r) : Meets Try.prog 135 [wI a0] { vals := [.p (iV r)] } := by
 refine mo Try.func135 [(0, .p (iV a0))] ?_
 unfold impl_abs at h
 refine k_sreg (r_gq [(0, .p (iV a0))] [] trivial) ?_
 refine k_seq ?_
 refine k_sreg (r_gq [(0, .p (iV a0)), (4, .p (.bool (decide (a0 < 0))))] [] trivial) ?_
 refine kc (decide (a0 < 0)) (fun hc2_0 => ?_) (fun hc2_0 => ?_)
 ·replace h := ite_t hc2_0 h
  refine k_sreg (r_gq [(2, .p (iV (w64 (0 - a0))))] [] trivial) ?_
  refine k_ret ?_
  refine q_r ?_
  obtain rfl := oi h
  exact er [(.p (iV (w64 (0 - a0))), 2)]
 ·replace h := ite_f hc2_0 h
  refine k_skip ?_
  refine q_n ?_
  refine k_sreg (r_gq [(2, .p (iV a0))] [] trivial) ?_
  refine k_ret ?_
  obtain rfl := oi h
  exact er [(.p (iV a0), 2)]
theorem wk_impl_greatestDivisor {a0 : Int} {a1 : Int}  {r : Int} (h : impl_greatestDivisor a0 a1 = some r) : Meets Try.prog 128 [wI a0, wI a1] { vals := [.p (iV r)] } := by
 refine mo Try.func128 [(0, .p (iV a0)), (1, .p (iV a1))] ?_
 unfold impl_greatestDivisor at h
 refine k_sreg (r_gq [(0, .p (iV a0)), (1, .p (iV a1))] [] trivial) ?_
 replace h := bs h
 obtain ⟨v1, hv1, h⟩ := h
 replace h := bs h
 obtain ⟨v2, hv2, h⟩ := h
 refine k_sreg (r_gq [(0, .p (iV v1)), (1, .p (iV v2))] [(1, {call := some (none, [.p (iV v1)], true)}), (3, {call := some (none, [.p (iV v2)], true)})] (A2 (wk_impl_abs hv1) (wk_impl_abs hv2))) ?_
 refine k_join (J := fun (x : Int) => [(0, .p (iV x))]) (K := fun x => impl_greatestDivisor_k1 x = some r) (fun x3 h => ?_) ?_
 ·unfold impl_greatestDivisor_k1 at h
  refine k_sreg (r_gq [(4, .p (iV x3))] [] trivial) ?_
  refine k_ret ?_
  obtain rfl := oi h
  exact er [(.p (iV x3), 4)]
 ·refine k_block ?_
  obtain ⟨y5, hl_x4, hk_x4⟩ := bs h
  clear h
  refine k_loop (J := fun (x : Qr) => [(0, .p (iV x.1)), (1, .p (iV x.2))]) hl_x4 (wk_of (by kernel_rfl) (by kernel_rfl)) (fun x4 o_x4 h hy_x4 => ?_)
  unfold impl_greatestDivisor_b1 at h
  refine k_seq ?_
  refine k_sreg (r_gq [(0, .p (iV x4.1)), (1, .p (iV x4.2)), (10, .p (.bool (x4.2 != 0)))] [] trivial) ?_
  refine kc (x4.2 != 0) (fun hc5_5 => ?_) (fun hc5_5 => ?_)
  ·replace h := ite_t hc5_5 h
   refine k_skip ?_
   refine q_n ?_
   refine k_block ?_
   replace h := bs h
   obtain ⟨u7, hu7, h⟩ := h
   refine k_reg (r_dq Try_mixed 5 [] [(0, .p (iV x4.2)), (1, .p (iV (Int.tmod x4.1 x4.2)))] [] (A1 (guardO_some hu7))) ?_
   refine b_n ?_
   exact lqn (x4.2, (Int.tmod x4.1 x4.2)) h
  ·replace h := ite_f hc5_5 h
   refine k_exit ?_
   refine q_x ?_
   refine lq_x ?_
   refine b_x ?_
   have hyy := hy_x4 _ (oi h).symm
   subst hyy
   have h := hk_x4
   refine q_n ?_
   exact jx x4.1 h
theorem wk_impl_isRat {a0 : Qr}  {r : Bool} (h : impl_isRat a0 = some r) : Meets Try.prog 96 [.v (vRt a0)] { vals := [.p (.bool r)] } := by
 refine mo Try.func96 [(0, .p (vRt a0))] ?_
 unfold impl_isRat at h
 refine k_sreg (r_gq [(1, .box (eRt a0))] [] trivial) ?_
 replace h := bs h
 obtain ⟨v1, hv1, h⟩ := h
 replace h := bs h
 obtain ⟨w4, hw4, h⟩ := h
 refine k_sreg (l1 := [(2, .p (.bool w4))]) ?_ ?_
 ·clear h
  rcases ft v1 with ha0 | ha0
  ·replace hw4 := ite_t ha0 hw4
   replace hw4 := bs hw4
   obtain ⟨v2, hv2, hw4⟩ := hw4
   rcases ft v2 with ha1 | ha1
   ·replace hw4 := ite_t ha1 hw4
    replace hw4 := bs hw4
    obtain ⟨v3, hv3, hw4⟩ := hw4
    have hw4 := oi hw4
    subst hw4
    exact (r_gq [(2, .p (.bool (v3 == 1)))] [(2, {call := some (none, [.p (.bool v1)], true)}), (4, gT), (5, gT), (6, {g := some true, call := some (none, [.p (.bool v2)], true)}), (7, bT), (9, gT), (10, gT), (11, gT), (12, gT), (13, {g := some true, call := some (none, [.p (iV v3)], true)}), (14, gT), (15, bT)] (B6 (wk_impl_within hv1) ha0 ha0 ha0 (wk_impl_within hv2) ha0 (B6 ha1 ha1 ha1 ha1 ha1 (wk_impl_greatestDivisor hv3) (A2 ha1 ha1))))
   ·replace hw4 := ite_f ha1 hw4
    have hw4 := oi hw4
    subst hw4
    exact (r_gq [(2, .p (.bool false))] [(2, {call := some (none, [.p (.bool v1)], true)}), (4, gT), (5, gT), (6, {g := some true, call := some (none, [.p (.bool v2)], true)}), (7, bT), (9, gF), (10, gF), (11, gF), (12, gF), (13, gF), (14, gF), (15, bF)] (B6 (wk_impl_within hv1) ha0 ha0 ha0 (wk_impl_within hv2) ha0 (B6 ha1 ha1 ha1 ha1 ha1 ha1 (A1 ha1))))
  ·replace hw4 := ite_f ha0 hw4
   have hw4 := oi hw4
   subst hw4
   exact (r_gq [(2, .p (.bool false))] [(2, {call := some (none, [.p (.bool v1)], true)}), (4, gF), (5, gF), (6, gF), (7, bF), (9, gF), (10, gF), (11, gF), (12, gF), (13, gF), (14, gF), (15, bF)] (B6 (wk_impl_within hv1) ha0 ha0 ha0 ha0 (show false = false from rfl) (A6 (show false = false from rfl) (show false = false from rfl) (show false = false from rfl) (show false = false from rfl) (show false = false from rfl) (show false = false from rfl))))
 ·refine k_ret ?_
  obtain rfl := oi h
  exact er [(.p (.bool w4), 2)]
theorem wk_impl_isUnit {a0 : Qr}  {r : Bool} (h : impl_isUnit a0 = some r) : Meets Try.prog 127 [.v (vRt a0)] { vals := [.p (.bool r)] } := by
 refine mo Try.func127 [(0, .p (vRt a0))] ?_
 unfold impl_isUnit at h
 refine k_sreg (r_gq [(1, .box (eRt a0))] [] trivial) ?_
 replace h := bs h
 obtain ⟨v1, hv1, h⟩ := h
 refine k_sreg (l1 := [(2, .p (.bool (v1 && ((decide (a0.1 ≥ 0)) && (decide (a0.1 ≤ a0.2))))))]) ?_ ?_
 ·rcases ft v1 with ha0 | ha0
  ·rcases ft (decide (a0.1 ≥ 0)) with ha1 | ha1
   ·exact RegOk.of_eq (l2 := [(2, .p (.bool (v1 && ((decide (a0.1 ≥ 0)) && (decide (a0.1 ≤ a0.2))))))]) (r_gq [(2, .p (.bool (decide (a0.1 ≤ a0.2))))] [(1, {call := some (none, [.p (.bool v1)], true)}), (3, gT), (4, gT), (5, gT), (6, bT), (8, gT), (9, gT), (10, gT), (11, gT), (12, gT), (13, bT)] (B6 (wk_impl_isRat hv1) ha0 ha0 ha0 ha0 ha1 (A5 ha1 ha1 ha1 ha1 ha1))) (by simp [ha0, ha1])
   ·exact RegOk.of_eq (l2 := [(2, .p (.bool (v1 && ((decide (a0.1 ≥ 0)) && (decide (a0.1 ≤ a0.2))))))]) (r_gq [(2, .p (.bool false))] [(1, {call := some (none, [.p (.bool v1)], true)}), (3, gT), (4, gT), (5, gT), (6, bT), (8, gF), (9, gF), (10, gF), (11, gF), (12, gF), (13, bF)] (B6 (wk_impl_isRat hv1) ha0 ha0 ha0 ha0 ha1 (A5 ha1 ha1 ha1 ha1 ha1))) (by simp [ha0, ha1])
  ·exact RegOk.of_eq (l2 := [(2, .p (.bool (v1 && ((decide (a0.1 ≥ 0)) && (decide (a0.1 ≤ a0.2))))))]) (r_gq [(2, .p (.bool false))] [(1, {call := some (none, [.p (.bool v1)], true)}), (3, gF), (4, gF), (5, gF), (6, bF), (8, gF), (9, gF), (10, gF), (11, gF), (12, gF), (13, bF)] (B6 (wk_impl_isRat hv1) ha0 ha0 ha0 ha0 (show false = false from rfl) (A5 (show false = false from rfl) (show false = false from rfl) (show false = false from rfl) (show false = false from rfl) (show false = false from rfl)))) (by simp [ha0])
 ·refine k_ret ?_
  obtain rfl := oi h
  exact er [(.p (.bool (v1 && ((decide (a0.1 ≥ 0)) && (decide (a0.1 ≤ a0.2))))), 2)]
theorem wk_impl_isCoord {a0 : Qr}  {r : Bool} (h : impl_isCoord a0 = some r) : Meets Try.prog 95 [.v (vRt a0)] { vals := [.p (.bool r)] } := by
 refine mo Try.func95 [(0, .p (vRt a0))] ?_
 unfold impl_isCoord at h
 refine k_sreg (r_gq [(1, .box (eRt a0))] [] trivial) ?_
 replace h := bs h
 obtain ⟨v1, hv1, h⟩ := h
 refine k_sreg (l1 := [(2, .p (.bool (v1 && (decide (a0.2 ≤ 100)))))]) ?_ ?_
 ·rcases ft v1 with ha0 | ha0
  ·exact RegOk.of_eq (l2 := [(2, .p (.bool (v1 && (decide (a0.2 ≤ 100)))))]) (r_gq [(2, .p (.bool (decide (a0.2 ≤ 100))))] [(1, {call := some (none, [.p (.bool v1)], true)}), (3, gT), (4, gT), (5, gT), (6, bT)] (A5 (wk_impl_isUnit hv1) ha0 ha0 ha0 ha0)) (by simp [ha0])
  ·exact RegOk.of_eq (l2 := [(2, .p (.bool (v1 && (decide (a0.2 ≤ 100)))))]) (r_gq [(2, .p (.bool false))] [(1, {call := some (none, [.p (.bool v1)], true)}), (3, gF), (4, gF), (5, gF), (6, bF)] (A5 (wk_impl_isUnit hv1) ha0 ha0 ha0 ha0)) (by simp [ha0])
 ·refine k_ret ?_
  obtain rfl := oi h
  exact er [(.p (.bool (v1 && (decide (a0.2 ≤ 100)))), 2)]
theorem wk_impl_whole {a0 : Int}  {r : Qr} (h : impl_whole a0 = some r) : Meets Try.prog 97 [wI a0] { vals := [.p (vRt r)] } := by
 refine mo Try.func97 [(0, .p (iV a0))] ?_
 unfold impl_whole at h
 refine k_sreg (r_gq [(0, .p (iV a0)), (2, .box [rI 0, rI 0])] [] trivial) ?_
 refine k_sreg (r_gq [(2, .box [rI a0, rI 1])] [] trivial) ?_
 refine k_ret ?_
 obtain rfl := oi h
 exact er [(.p (.agg #[.int .i64 a0, .int .i64 1]), 2)]
theorem wk_impl_compare {a0 : Qr} {a1 : Qr}  {r : Int} (h : impl_compare a0 a1 = some r) : Meets Try.prog 105 [.v (vRt a0), .v (vRt a1)] { vals := [.p (iV r)] } := by
 refine mo Try.func105 [(0, .p (vRt a0)), (1, .p (vRt a1))] ?_
 unfold impl_compare at h
 refine k_sreg (r_gq [(2, .box (eRt a0)), (3, .box (eRt a1))] [] trivial) ?_
 refine k_seq ?_
 refine k_sreg (r_dq Try_mixed 11 [] [(5, .p (iV (w64 (a0.1 * a1.2)))), (6, .p (iV (w64 (a1.1 * a0.2))))] [] trivial) ?_
 refine k_block ?_
 refine k_sreg (r_gq [(5, .p (iV (w64 (a0.1 * a1.2)))), (6, .p (iV (w64 (a1.1 * a0.2)))), (17, .p (.bool (decide ((w64 (a0.1 * a1.2)) < (w64 (a1.1 * a0.2))))))] [] trivial) ?_
 refine kc (decide ((w64 (a0.1 * a1.2)) < (w64 (a1.1 * a0.2)))) (fun hc3_0 => ?_) (fun hc3_0 => ?_)
 ·replace h := ite_t hc3_0 h
  refine k_sreg (r_gq [(4, .p (iV (-1)))] [] trivial) ?_
  refine k_ret ?_
  refine b_r ?_
  refine q_r ?_
  obtain rfl := oi h
  exact er [(.p (iV (-1)), 4)]
 ·replace h := ite_f hc3_0 h
  refine k_sreg (r_gq [(21, .p (.bool (decide ((w64 (a0.1 * a1.2)) > (w64 (a1.1 * a0.2))))))] [] trivial) ?_
  refine kc (decide ((w64 (a0.1 * a1.2)) > (w64 (a1.1 * a0.2)))) (fun hc3_1 => ?_) (fun hc3_1 => ?_)
  ·replace h := ite_t hc3_1 h
   refine k_sreg (r_gq [(4, .p (iV 1))] [] trivial) ?_
   refine k_ret ?_
   refine b_r ?_
   refine q_r ?_
   obtain rfl := oi h
   exact er [(.p (iV 1), 4)]
  ·replace h := ite_f hc3_1 h
   refine k_skip ?_
   refine b_n ?_
   refine q_n ?_
   refine k_sreg (r_gq [(4, .p (iV 0))] [] trivial) ?_
   refine k_ret ?_
   obtain rfl := oi h
   exact er [(.p (iV 0), 4)]
theorem wk_impl_less {a0 : Qr} {a1 : Qr}  {r : Bool} (h : impl_less a0 a1 = some r) : Meets Try.prog 76 [.v (vRt a0), .v (vRt a1)] { vals := [.p (.bool r)] } := by
 refine mo Try.func76 [(0, .p (vRt a0)), (1, .p (vRt a1))] ?_
 unfold impl_less at h
 refine k_sreg (r_gq [(2, .box (eRt a0)), (3, .box (eRt a1))] [] trivial) ?_
 replace h := bs h
 obtain ⟨v1, hv1, h⟩ := h
 refine k_sreg (r_gq [(4, .p (.bool (decide (v1 < 0))))] [(2, {call := some (none, [.p (iV v1)], true)})] (A1 (wk_impl_compare hv1))) ?_
 refine k_ret ?_
 obtain rfl := oi h
 exact er [(.p (.bool (decide (v1 < 0))), 4)]
theorem wk_impl_isLift_1 {a0 : Qp}  {r : Bool} (h : impl_isLift_1 a0 = some r) : Meets Try.prog 94 [.v (vPt a0)] { vals := [.p (.bool r)] } := by
 refine mo Try.func94 [(0, .p (vPt a0))] ?_
 unfold impl_isLift_1 at h
 refine k_sreg (r_gq [(1, .box (ePt a0))] [] trivial) ?_
 replace h := bs h
 obtain ⟨v1, hv1, h⟩ := h
 replace h := bs h
 obtain ⟨w7, hw7, h⟩ := h
 refine k_sreg (l1 := [(2, .p (.bool w7))]) ?_ ?_
 ·clear h
  rcases ft (!v1) with ha0 | ha0
  ·replace hw7 := ite_t ha0 hw7
   have hw7 := oi hw7
   subst hw7
   exact (r_dq Try_mixed 26 [] [(2, .p (.bool true))] [(2, {call := some (none, [.p (.bool v1)], true)}), (5, gT), (6, gT), (7, gT), (8, gT), (9, bT), (11, gT), (12, gT), (13, gT), (14, gT), (15, bT), (17, gT), (18, gT), (19, gT), (20, gT), (21, bT), (23, gT), (24, gT), (25, gT), (26, gT), (27, bT)] (B6 (wk_impl_isCoord hv1) ha0 ha0 ha0 ha0 ha0 (B6 (show true = true from rfl) (show true = true from rfl) (show true = true from rfl) (show true = true from rfl) (show true = true from rfl) (show true = true from rfl) (B6 (show true = true from rfl) (show true = true from rfl) (show true = true from rfl) (show true = true from rfl) (show true = true from rfl) (show true = true from rfl) (A3 (show true = true from rfl) (show true = true from rfl) (show true = true from rfl))))))
  ·replace hw7 := ite_f ha0 hw7
   replace hw7 := bs hw7
   obtain ⟨v2, hv2, hw7⟩ := hw7
   rcases ft (!v2) with ha1 | ha1
   ·replace hw7 := ite_t ha1 hw7
    have hw7 := oi hw7
    subst hw7
    exact (r_dq Try_mixed 26 [] [(2, .p (.bool true))] [(2, {call := some (none, [.p (.bool v1)], true)}), (5, gF), (6, gF), (7, {g := some false, call := some (none, [.p (.bool v2)], true)}), (8, gF), (9, bF), (11, gT), (12, gT), (13, gT), (14, gT), (15, bT), (17, gT), (18, gT), (19, gT), (20, gT), (21, bT), (23, gT), (24, gT), (25, gT), (26, gT), (27, bT)] (B6 (wk_impl_isCoord hv1) ha0 ha0 ha0 (wk_impl_isRat hv2) ha0 (B6 ha0 ha1 ha1 ha1 ha1 ha1 (B6 (show true = true from rfl) (show true = true from rfl) (show true = true from rfl) (show true = true from rfl) (show true = true from rfl) (show true = true from rfl) (A4 (show true = true from rfl) (show true = true from rfl) (show true = true from rfl) (show true = true from rfl))))))
   ·replace hw7 := ite_f ha1 hw7
    rcases ft (decide (a0.2.2 > 100)) with ha2 | ha2
    ·replace hw7 := ite_t ha2 hw7
     have hw7 := oi hw7
     subst hw7
     exact (r_dq Try_mixed 26 [] [(2, .p (.bool true))] [(2, {call := some (none, [.p (.bool v1)], true)}), (5, gF), (6, gF), (7, {g := some false, call := some (none, [.p (.bool v2)], true)}), (8, gF), (9, bF), (11, gF), (12, gF), (13, gF), (14, gF), (15, bF), (17, gT), (18, gT), (19, gT), (20, gT), (21, bT), (23, gT), (24, gT), (25, gT), (26, gT), (27, bT)] (B6 (wk_impl_isCoord hv1) ha0 ha0 ha0 (wk_impl_isRat hv2) ha0 (B6 ha0 ha1 ha1 ha1 ha1 ha1 (B6 ha2 ha2 ha2 ha2 ha2 (show true = true from rfl) (A4 (show true = true from rfl) (show true = true from rfl) (show true = true from rfl) (show true = true from rfl))))))
    ·replace hw7 := ite_f ha2 hw7
     replace hw7 := bs hw7
     obtain ⟨v3, hv3, hw7⟩ := hw7
     replace hw7 := bs hw7
     obtain ⟨v4, hv4, hw7⟩ := hw7
     rcases ft v4 with ha3 | ha3
     ·replace hw7 := ite_t ha3 hw7
      have hw7 := oi hw7
      subst hw7
      exact (r_dq Try_mixed 26 [] [(2, .p (.bool true))] [(2, {call := some (none, [.p (.bool v1)], true)}), (5, gF), (6, gF), (7, {g := some false, call := some (none, [.p (.bool v2)], true)}), (8, gF), (9, bF), (11, gF), (12, gF), (13, gF), (14, gF), (15, bF), (17, gF), (18, gF), (19, {g := some false, call := some (none, [.p (vRt v3)], true)}), (20, {g := some false, call := some (none, [.p (.bool v4)], true)}), (21, bF), (23, gT), (24, gT), (25, gT), (26, gT), (27, bT)] (B6 (wk_impl_isCoord hv1) ha0 ha0 ha0 (wk_impl_isRat hv2) ha0 (B6 ha0 ha1 ha1 ha1 ha1 ha1 (B6 ha2 ha2 ha2 (wk_impl_whole hv3) ha2 (wk_impl_less hv4) (A6 ha2 ha3 ha3 ha3 ha3 ha3)))))
     ·replace hw7 := ite_f ha3 hw7
      replace hw7 := bs hw7
      obtain ⟨v5, hv5, hw7⟩ := hw7
      replace hw7 := bs hw7
      obtain ⟨v6, hv6, hw7⟩ := hw7
      have hw7 := oi hw7
      subst hw7
      exact (r_dq Try_mixed 26 [] [(2, .p (.bool v6))] [(2, {call := some (none, [.p (.bool v1)], true)}), (5, gF), (6, gF), (7, {g := some false, call := some (none, [.p (.bool v2)], true)}), (8, gF), (9, bF), (11, gF), (12, gF), (13, gF), (14, gF), (15, bF), (17, gF), (18, gF), (19, {g := some false, call := some (none, [.p (vRt v3)], true)}), (20, {g := some false, call := some (none, [.p (.bool v4)], true)}), (21, bF), (23, {g := some false, call := some (none, [.p (vRt v5)], true)}), (24, gF), (25, gF), (26, {g := some false, call := some (none, [.p (.bool v6)], true)}), (27, bF)] (B6 (wk_impl_isCoord hv1) ha0 ha0 ha0 (wk_impl_isRat hv2) ha0 (B6 ha0 ha1 ha1 ha1 ha1 ha1 (B6 ha2 ha2 ha2 (wk_impl_whole hv3) ha2 (wk_impl_less hv4) (B6 ha2 ha3 (wk_impl_whole hv5) ha3 ha3 ha3 (A2 (wk_impl_less hv6) ha3))))))
 ·refine k_ret ?_
  obtain rfl := oi h
  exact er [(.p (.bool w7), 2)]
theorem wk_impl_zero   {r : Qr} (h : impl_zero  = some r) : Meets Try.prog 98 [] { vals := [.p (vRt r)] } := by
 refine mo Try.func98 [] ?_
 unfold impl_zero at h
 refine k_sreg (r_gq [(0, .box [rI 0, rI 0])] [] trivial) ?_
 refine k_sreg (r_gq [(0, .box [rI 0, rI 1])] [] trivial) ?_
 refine k_ret ?_
 obtain rfl := oi h
 exact er [(.p (.agg #[.int .i64 0, .int .i64 1]), 0)]
theorem wk_impl_oneRat   {r : Qr} (h : impl_oneRat  = some r) : Meets Try.prog 99 [] { vals := [.p (vRt r)] } := by
 refine mo Try.func99 [] ?_
 unfold impl_oneRat at h
 refine k_sreg (r_gq [(0, .box [rI 0, rI 0])] [] trivial) ?_
 refine k_sreg (r_gq [(0, .box [rI 1, rI 1])] [] trivial) ?_
 refine k_ret ?_
 obtain rfl := oi h
 exact er [(.p (.agg #[.int .i64 1, .int .i64 1]), 0)]
theorem wk_impl_isLift {a0 : (List Qp)}  {r : Bool} (h : impl_isLift a0 = some r) : Meets Try.prog 51 [.d true [.sl none (a0.map ePt)]] { vals := [.p (.bool r)] } := by
 refine mo Try.func51 [(0, .d true [.sl none (a0.map ePt)])] ?_
 unfold impl_isLift at h
 refine k_sreg (r_gq [(1, .box [.sl none (a0.map ePt)])] [] trivial) ?_
 refine k_sreg (r_gq [(3, .d false [.sl none (a0.map ePt)])] [(1, bT)] (A1 (show frR [.sl none (a0.map ePt)] = true from (frR1 (frL_enc (fr_P (fr_P fr_I fr_I) (fr_P fr_I fr_I))) rfl)))) ?_
 refine k_seq ?_
 replace h := bs h
 obtain ⟨v1, hv1, h⟩ := h
 replace h := bs h
 obtain ⟨w3, hw3, h⟩ := h
 refine k_sreg (l1 := [(3, .d false [.sl none (a0.map ePt)]), (16, .p (.bool w3))]) ?_ ?_
 ·clear h
  rcases ft (!v1) with ha0 | ha0
  ·replace hw3 := ite_t ha0 hw3
   have hw3 := oi hw3
   subst hw3
   exact (r_gq [(3, .d false [.sl none (a0.map ePt)]), (16, .p (.bool true))] [(1, {n := some a0.length}), (2, {call := some (none, [.p (.bool v1)], true)}), (5, gT), (6, gT), (7, bT)] (A5 (show (a0.map ePt).length = a0.length from (List.length_map ..)) (wk_impl_within hv1) ha0 ha0 ha0))
  ·replace hw3 := ite_f ha0 hw3
   replace hw3 := bs hw3
   obtain ⟨v2, hv2, hw3⟩ := hw3
   have hw3 := oi hw3
   subst hw3
   exact (r_gq [(3, .d false [.sl none (a0.map ePt)]), (16, .p (.bool v2))] [(1, {n := some a0.length}), (2, {call := some (none, [.p (.bool v1)], true)}), (5, gF), (6, {g := some false, call := some (none, [.p (.bool v2)], true)}), (7, bF)] (A6 (show (a0.map ePt).length = a0.length from (List.length_map ..)) (wk_impl_within hv1) ha0 ha0 (show Meets Try.prog 93 ([.d false [.sl none (a0.map ePt)], .v (.func (.func 94) #[] #[])] ++ []) { vals := [.p (.bool v2)] } from (wk_slices_ContainsFunc_Limpl_Point_impl_Point_v (fun x0 y hy => wk_impl_isLift_1 hy) hv2)) ha0))
 ·refine kc w3 (fun hc2_3 => ?_) (fun hc2_3 => ?_)
  ·replace h := ite_t hc2_3 h
   refine k_sreg (r_gq [(2, .p (.bool false))] [] trivial) ?_
   refine k_ret ?_
   refine q_r ?_
   obtain rfl := oi h
   exact er [(.p (.bool false), 2)]
  ·replace h := ite_f hc2_3 h
   refine k_skip ?_
   refine q_n ?_
   refine k_join (J := fun (x : Unit) => [(3, .d false [.sl none (a0.map ePt)])]) (K := fun x => impl_isLift_k1 a0 x = some r) (fun x5 h => ?_) ?_
   ·unfold impl_isLift_k1 at h
    replace h := bs h
    obtain ⟨v6, hv6, h⟩ := h
    replace h := bs h
    obtain ⟨v7, hv7, h⟩ := h
    refine k_sreg (r_dq Try_mixed 12 [(11, 5)] [(5, .box (ePt v6)), (6, .box (ePt v7))] [(1, {row := some (ePt v6)}), (5, {n := some a0.length}), (7, {row := some (ePt v7)})] (A5 (idxO_some hv6).1 (map_get ePt (idxO_some hv6).2) (show (a0.map ePt).length = a0.length from (List.length_map ..)) (idxO_some hv7).1 (map_get ePt (idxO_some hv7).2))) ?_
    replace h := bs h
    obtain ⟨v8, hv8, h⟩ := h
    replace h := bs h
    obtain ⟨w10, hw10, h⟩ := h
    refine k_sreg (l1 := [(2, .p (.bool w10))]) ?_ ?_
    ·clear h
     rcases ft ((v6.1.1 == v8.1) && (v6.1.2 == v8.2)) with ha1 | ha1
     ·replace hw10 := ite_t ha1 hw10
      replace hw10 := bs hw10
      obtain ⟨v9, hv9, hw10⟩ := hw10
      rcases ft ((v7.1.1 == v9.1) && (v7.1.2 == v9.2)) with ha2 | ha2
      ·replace hw10 := ite_t ha2 hw10
       have hw10 := oi hw10
       subst hw10
       exact (r_dq Try_mixed 24 [] [(2, .p (.bool ((v7.2.1 == (w64 (v6.2.1 + v6.2.2))) && (v7.2.2 == v6.2.2))))] [(2, {call := some (none, [.p (vRt v8)], true)}), (3, {pv := some (.bool ((v6.1.1 == v8.1) && (v6.1.2 == v8.2)))}), (5, gT), (6, gT), (7, {g := some true, call := some (none, [.p (vRt v9)], true)}), (8, {g := some true, pv := some (.bool ((v7.1.1 == v9.1) && (v7.1.2 == v9.2)))}), (9, bT), (11, gT), (12, gT), (13, gT), (14, gT), (15, gT), (16, gT), (17, gT), (18, gT), (19, gT), (20, gT), (21, gT), (22, gT), (23, gT), (24, {g := some true, pv := some (.bool ((v7.2.1 == (w64 (v6.2.1 + v6.2.2))) && (v7.2.2 == v6.2.2)))}), (25, bT)] (B6 (wk_impl_zero hv8) (show PureAt Try.prog (.binOp .eql 44 (.tmp 60) (.tmp 61) 44) [vRt v6.1, vRt v8] (.bool ((v6.1.1 == v8.1) && (v6.1.2 == v8.2))) from (pure_eql2 (by kernel_rfl))) ha1 ha1 ha1 (wk_impl_oneRat hv9) (B6 ha1 (show PureAt Try.prog (.binOp .eql 44 (.tmp 65) (.tmp 66) 44) [vRt v7.1, vRt v9] (.bool ((v7.1.1 == v9.1) && (v7.1.2 == v9.2))) from (pure_eql2 (by kernel_rfl))) ha1 ha2 ha2 ha2 (B6 ha2 ha2 ha2 ha2 ha2 ha2 (B6 ha2 ha2 ha2 ha2 ha2 (show PureAt Try.prog (.binOp .eql 44 (.tmp 71) (.tmp 82) 44) [vRt v7.2, .agg #[.int .i64 (w64 (v6.2.1 + v6.2.2)), .int .i64 v6.2.2]] (.bool ((v7.2.1 == (w64 (v6.2.1 + v6.2.2))) && (v7.2.2 == v6.2.2))) from (pure_eql2 (by kernel_rfl))) (A1 ha2))))))
      ·replace hw10 := ite_f ha2 hw10
       have hw10 := oi hw10
       subst hw10
       exact (r_dq Try_mixed 24 [] [(2, .p (.bool false))] [(2, {call := some (none, [.p (vRt v8)], true)}), (3, {pv := some (.bool ((v6.1.1 == v8.1) && (v6.1.2 == v8.2)))}), (5, gT), (6, gT), (7, {g := some true, call := some (none, [.p (vRt v9)], true)}), (8, {g := some true, pv := some (.bool ((v7.1.1 == v9.1) && (v7.1.2 == v9.2)))}), (9, bT), (11, gF), (12, gF), (13, gF), (14, gF), (15, gF), (16, gF), (17, gF), (18, gF), (19, gF), (20, gF), (21, gF), (22, gF), (23, gF), (24, gF), (25, bF)] (B6 (wk_impl_zero hv8) (show PureAt Try.prog (.binOp .eql 44 (.tmp 60) (.tmp 61) 44) [vRt v6.1, vRt v8] (.bool ((v6.1.1 == v8.1) && (v6.1.2 == v8.2))) from (pure_eql2 (by kernel_rfl))) ha1 ha1 ha1 (wk_impl_oneRat hv9) (B6 ha1 (show PureAt Try.prog (.binOp .eql 44 (.tmp 65) (.tmp 66) 44) [vRt v7.1, vRt v9] (.bool ((v7.1.1 == v9.1) && (v7.1.2 == v9.2))) from (pure_eql2 (by kernel_rfl))) ha1 ha2 ha2 ha2 (B6 ha2 ha2 ha2 ha2 ha2 ha2 (A6 ha2 ha2 ha2 ha2 ha2 ha2)))))
     ·replace hw10 := ite_f ha1 hw10
      have hw10 := oi hw10
      subst hw10
      exact (r_dq Try_mixed 24 [] [(2, .p (.bool false))] [(2, {call := some (none, [.p (vRt v8)], true)}), (3, {pv := some (.bool ((v6.1.1 == v8.1) && (v6.1.2 == v8.2)))}), (5, gF), (6, gF), (7, gF), (8, gF), (9, bF), (11, gF), (12, gF), (13, gF), (14, gF), (15, gF), (16, gF), (17, gF), (18, gF), (19, gF), (20, gF), (21, gF), (22, gF), (23, gF), (24, gF), (25, bF)] (B6 (wk_impl_zero hv8) (show PureAt Try.prog (.binOp .eql 44 (.tmp 60) (.tmp 61) 44) [vRt v6.1, vRt v8] (.bool ((v6.1.1 == v8.1) && (v6.1.2 == v8.2))) from (pure_eql2 (by kernel_rfl))) ha1 ha1 ha1 ha1 (B6 ha1 (show false = false from rfl) (show false = false from rfl) (show false = false from rfl) (show false = false from rfl) (show false = false from rfl) (B6 (show false = false from rfl) (show false = false from rfl) (show false = false from rfl) (show false = false from rfl) (show false = false from rfl) (show false = false from rfl) (A4 (show false = false from rfl) (show false = false from rfl) (show false = false from rfl) (show false = false from rfl))))))
    ·refine k_ret ?_
     obtain rfl := oi h
     exact er [(.p (.bool w10), 2)]
   ·refine k_sreg (r_gq [(3, .d false [.sl none (a0.map ePt)]), (4, .p (iV 1))] [] trivial) ?_
    refine k_block ?_
    obtain ⟨y12, hl_x11, hk_x11⟩ := bs h
    clear h
    refine k_loop (J := fun (x : Int) => [(3, .d false [.sl none (a0.map ePt)]), (4, .p (iV x))]) hl_x11 (wk_of (by kernel_rfl) (by kernel_rfl)) (fun x11 o_x11 h hy_x11 => ?_)
    unfold impl_isLift_b1 at h
    refine k_seq ?_
    refine k_sreg (r_gq [(3, .d false [.sl none (a0.map ePt)]), (4, .p (iV x11)), (20, .p (.bool (decide (x11 < (a0.length : Int)))))] [(2, {n := some a0.length})] (A1 (show (a0.map ePt).length = a0.length from (List.length_map ..)))) ?_
    refine kc (decide (x11 < (a0.length : Int))) (fun hc5_12 => ?_) (fun hc5_12 => ?_)
    ·replace h := ite_t hc5_12 h
     refine k_skip ?_
     refine q_n ?_
     refine k_seq ?_
     refine k_block ?_
     replace h := bs h
     obtain ⟨v14, hv14, h⟩ := h
     replace h := bs h
     obtain ⟨v15, hv15, h⟩ := h
     replace h := bs h
     obtain ⟨v16, hv16, h⟩ := h
     replace h := bs h
     obtain ⟨w18, hw18, h⟩ := h
     refine k_sreg (l1 := [(3, .d false [.sl none (a0.map ePt)]), (4, .p (iV x11)), (49, .p (.bool w18))]) ?_ ?_
     ·clear h
      rcases ft (!v16) with ha2 | ha2
      ·replace hw18 := ite_t ha2 hw18
       have hw18 := oi hw18
       subst hw18
       exact (r_dq Try_mixed 25 [] [(3, .d false [.sl none (a0.map ePt)]), (4, .p (iV x11)), (49, .p (.bool true))] [(3, {row := some (ePt v14)}), (8, {row := some (ePt v15)}), (11, {call := some (none, [.p (.bool v16)], true)}), (14, gT), (15, gT), (16, gT), (17, gT), (18, gT), (19, gT), (20, gT), (21, gT), (22, gT), (23, gT), (24, gT), (25, gT), (26, bT)] (B6 (idxO_some hv14).1 (map_get ePt (idxO_some hv14).2) (idxO_some hv15).1 (map_get ePt (idxO_some hv15).2) (wk_impl_less hv16) ha2 (B6 ha2 ha2 ha2 ha2 ha2 ha2 (A6 ha2 ha2 ha2 ha2 ha2 ha2))))
      ·replace hw18 := ite_f ha2 hw18
       replace hw18 := bs hw18
       obtain ⟨v17, hv17, hw18⟩ := hw18
       have hw18 := oi hw18
       subst hw18
       exact (r_dq Try_mixed 25 [] [(3, .d false [.sl none (a0.map ePt)]), (4, .p (iV x11)), (49, .p (.bool v17))] [(3, {row := some (ePt v14)}), (8, {row := some (ePt v15)}), (11, {call := some (none, [.p (.bool v16)], true)}), (14, gF), (15, gF), (16, {g := some false, row := some (ePt v15)}), (17, gF), (18, gF), (19, gF), (20, gF), (21, gF), (22, {g := some false, row := some (ePt v14)}), (23, gF), (24, gF), (25, {g := some false, call := some (none, [.p (.bool v17)], true)}), (26, bF)] (B6 (idxO_some hv14).1 (map_get ePt (idxO_some hv14).2) (idxO_some hv15).1 (map_get ePt (idxO_some hv15).2) (wk_impl_less hv16) ha2 (B6 ha2 ha2 (idxO_some hv15).1 (map_get ePt (idxO_some hv15).2) ha2 ha2 (B6 ha2 ha2 ha2 ha2 (idxO_some hv14).1 (map_get ePt (idxO_some hv14).2) (A5 ha2 ha2 ha2 (wk_impl_less hv17) ha2)))))
     ·refine kc w18 (fun hc6_18 => ?_) (fun hc6_18 => ?_)
      ·replace h := ite_t hc6_18 h
       refine k_sreg (r_gq [(2, .p (.bool false))] [] trivial) ?_
       refine k_ret ?_
       refine b_r ?_
       refine q_r ?_
       refine lq_r ?_
       refine b_r ?_
       refine q_r ?_
       have hyy := hy_x11 _ (oi h).symm
       subst hyy
       have h := hk_x11
       dsimp only [Sum.elim] at h
       obtain rfl := oi h
       exact er [(.p (.bool false), 2)]
      ·replace h := ite_f hc6_18 h
       refine k_skip ?_
       refine b_n ?_
       refine q_n ?_
       refine k_reg (r_gq [(3, .d false [.sl none (a0.map ePt)]), (4, .p (iV (w64 (x11 + 1))))] [] trivial) ?_
       exact lqn (w64 (x11 + 1)) h
    ·replace h := ite_f hc5_12 h
     refine k_exit ?_
     refine q_x ?_
     refine lq_x ?_
     refine b_x ?_
     have hyy := hy_x11 _ (oi h).symm
     subst hyy
     have h := hk_x11
     dsimp only [Sum.elim] at h
     refine q_n ?_
     exact jx () h
theorem wk_impl_opposite {a0 : Qr}  {r : Qr} (h : impl_opposite a0 = some r) : Meets Try.prog 57 [.v (vRt a0)] { vals := [.p (vRt r)] } := by
 refine mo Try.func57 [(0, .p (vRt a0))] ?_
 unfold impl_opposite at h
 refine k_sreg (r_gq [(1, .box (eRt a0)), (2, .box [rI 0, rI 0])] [] trivial) ?_
 refine k_sreg (r_gq [(2, .box [rI (w64 (a0.2 - a0.1)), rI a0.2])] [] trivial) ?_
 refine k_ret ?_
 obtain rfl := oi h
 exact er [(.p (.agg #[.int .i64 (w64 (a0.2 - a0.1)), .int .i64 a0.2]), 2)]
theorem wk_back_101 (a0 : (List Qp)) : Meets Try.prog 56 [.d false [.sl none (a0.map ePt)]] { vals := [.d false [.fn 101 [(false, [.pt [.sl none (a0.map ePt)]])]]] } := by
 refine mo Try.func56 [(0, .d false [.sl none (a0.map ePt)])] ?_
 refine k_sreg (r_gq [(1, .box [.sl none (a0.map ePt)])] [] trivial) ?_
 refine k_frz 1 [.sl none (a0.map ePt)] [.sl none (a0.map ePt)] [(1, .d false [.pt [.sl none (a0.map ePt)]])] (by kernel_rfl) (erc_sl (eraL_enc (era_P (era_P er_I er_I) (era_P er_I er_I))) rfl) (by kernel_rfl) (by kernel_rfl) ?_
 refine k_sreg (r_gq [(2, .d false [.fn 101 [(false, [.pt [.sl none (a0.map ePt)]])]])] [] trivial) ?_
 refine k_ret ?_
 exact er [(.d false [.fn 101 [(false, [.pt [.sl none (a0.map ePt)]])]], 2)]
theorem wk_impl_ReverseLift {a0 : (List Qp)} {r : ((List Qp) × Bool)} (h : impl_ReverseLift a0 = some r) : Meets Try.prog 21 [.d true [.sl none (a0.map ePt)]] { vals := [.ov true [.sl (some 71) (r.1.map ePt)], .p (.bool r.2)] } := by
 refine mof Try.func21 [(0, .d true [.sl none (a0.map ePt)])] ?_
 unfold impl_ReverseLift at h
 refine f_sreg (xr_gq [(1, .box [.sl none (a0.map ePt)]), (2, .box [.sl (some 71) []])] [] trivial) ?_
 replace h := bs h
 obtain ⟨v1, hv1, h⟩ := h
 refine f_sq ?_
 refine x_sreg (xr_gq [(1, .box [.sl none (a0.map ePt)]), (2, .box [.sl (some 71) []]), (9, .p (.bool (!v1)))] [(0, bT), (1, {call := some (none, [.p (.bool v1)], true)})] (A2 (show frR [.sl none (a0.map ePt)] = true from (frR1 (frL_enc (fr_P (fr_P fr_I fr_I) (fr_P fr_I fr_I))) rfl)) (wk_impl_isLift hv1))) ?_
 refine xc (!v1) (fun hc1 => ?_) (fun hc1 => ?_)
 ·replace h := ite_t hc1 h
  refine x_sreg (xr_gq [(2, .box [.sl (some 71) []]), (3, .p (.bool false))] [(0, bT)] trivial) ?_
  refine x_ret ?_
  refine q_r ?_
  obtain rfl := oi h
  exact ⟨rfl, fe [(.ov true [.sl (some 71) []], 2), (.p (.bool false), 3)]⟩
 replace h := ite_f hc1 h
 refine x_skip ?_
 refine q_n ?_
 replace h := bs h
 obtain ⟨u2, hu2, h⟩ := h
 have hlen := guardO_some hu2
 refine f_sreg (xr_gq [(1, .box [.sl none (a0.map ePt)]), (2, .box [.sl (some 71) []]), (4, .box [.sl (some 71) []])] [] trivial) ?_
 refine f_ahead ?_
 refine t_sreg (xr_gq [(2, .box [.sl (some 71) []]), (4, .box [.sl (some 71) []]), (13, .d false [.fn 101 [(false, [.pt [.sl none (a0.map ePt)]])]])] [(1, bT), (2, {call := some (none, [.d false [.fn 101 [(false, [.pt [.sl none (a0.map ePt)]])]]], false)})] (A2 (show frR [.sl none (a0.map ePt)] = true from (frR1 (frL_enc (fr_P (fr_P fr_I fr_I) (fr_P fr_I fr_I))) rfl)) (wk_back_101 a0))) ?_
 have hrev : ((List.finRange a0.length).map fun x : Fin a0.length => oppP a0[a0.length - 1 - x.1]) = a0.reverse.map oppP := by
  refine List.ext_getElem (by simp) fun i h1 h2 => ?_
  simp
 refine f_range (α := Fin a0.length) (f := 101) (e1 := fun x => .int .i64 ((a0.length - 1 - x.1 : Nat) : Int)) (e2 := fun x => .agg #[.int .i64 a0[a0.length - 1 - x.1].1.1, .int .i64 a0[a0.length - 1 - x.1].1.2, .int .i64 a0[a0.length - 1 - x.1].2.1, .int .i64 a0[a0.length - 1 - x.1].2.2]) (by kernel_rfl) (by kernel_rfl) (turns_back_101 a0 hlen)
  5 4 6 71 [(2, .box [.sl (some 71) []])] (fun x => .box [rI a0[a0.length - 1 - x.1].1.1, rI a0[a0.length - 1 - x.1].1.2, rI a0[a0.length - 1 - x.1].2.1, rI a0[a0.length - 1 - x.1].2.2]) (fun pre => (pre.map fun x => oppP a0[a0.length - 1 - x.1]).map ePt)
  (wk_of (by kernel_rfl) (by kernel_rfl)) rfl (fun _ => rfl) rfl (by decide) (by decide) ⟨by decide, by decide, by decide, by decide, by decide⟩ (fun pre => rawR_map _ _ _ fun _ => rfl) (by kernel_rfl) (by kernel_rfl) (by kernel_rfl) (fun ro pre x => ?_) (fun ro pre x hpre => ?_) (fun ds xs hxs => ?_)
 ·obtain ⟨q, hq⟩ : ∃ q, q = a0[a0.length - 1 - x.1] := ⟨_, rfl⟩
  obtain ⟨ys, hys⟩ : ∃ ys, ys = pre.map fun x => oppP a0[a0.length - 1 - x.1] := ⟨_, rfl⟩
  rw [← hq, ← hys]
  exact x_reg (xr_gq [(6, .box (ePt q)), (4, .box [.sl (some 71) (ys.map ePt)]), (2, .box [.sl (some 71) []])] [] trivial) ⟨rfl, wk_of (by kernel_rfl) (by kernel_rfl)⟩
 ·have hl : (pre.map fun x => oppP a0[a0.length - 1 - x.1]).length + 1 ≤ 1099511627776 := by rw [List.length_map]; omega
  rw [List.map_append]
  show OkX _ _ _ _ _ _ (fun ex l' => ex = Ex.normal ∧ wk l' [(4, .box [.sl (some 71) (((pre.map fun x => oppP a0[a0.length - 1 - x.1]) ++ [oppP a0[a0.length - 1 - x.1]]).map ePt)]), (2, .box [.sl (some 71) []])])
  obtain ⟨q, hq⟩ : ∃ q, q = a0[a0.length - 1 - x.1] := ⟨_, rfl⟩
  obtain ⟨ys, hys⟩ : ∃ ys, ys = pre.map fun x => oppP a0[a0.length - 1 - x.1] := ⟨_, rfl⟩
  rw [← hys] at hl ⊢
  rw [← hq]
  have ho1 : impl_opposite q.1 = some (oppP q).1 := rfl
  have ho2 : impl_opposite q.2 = some (oppP q).2 := rfl
  have hop : oppP q = ((oppP q).1, (oppP q).2) := rfl
  rw [hop]
  generalize (oppP q).1 = v10 at ho1 ⊢
  generalize (oppP q).2 = v11 at ho2 ⊢
  refine x_block ?_
  refine x_reg (xr_dq Try_mixed 10 [] [(4, .box [.sl (some 71) ((ys ++ [(v10, v11)]).map ePt)]), (2, .box [.sl (some 71) []])] [(4, {call := some (none, [.p (vRt v10)], true)}), (7, {call := some (none, [.p (vRt v11)], true)}), (10, {take := some (17, [.sl (some 71) (ys.map ePt)]), fix := some (26, .ov false [.sl (some 71) ((ys ++ [(v10, v11)]).map ePt)])})] (B6 (show frR [.sl (some 71) (ys.map ePt)] = false from rfl) (wk_impl_opposite ho1) (wk_impl_opposite ho2) (show getRow [[.sl (some 71) (ys.map ePt)]] [(0, 0)] = some [.sl (some 71) (ys.map ePt)] from rfl) (show List.length ((ys.map ePt) : List (List C)) + List.length ((([(v10, v11)]).map ePt) : List (List C)) ≤ 1099511627776 from (by simpa using hl)) (show ∀ row ∈ ((([(v10, v11)]).map ePt) : List (List C)), row.length = 4 from (rows_len fun _ => rfl)) (A1 (show (SV.ov false [.sl (some 71) ((ys.map ePt) ++ (([(v10, v11)]).map ePt))] : SV) = .ov false [.sl (some 71) ((ys ++ [(v10, v11)]).map ePt)] from (congrArg (fun z => SV.ov false [.sl (some 71) z]) (List.map_append ..).symm))))) ?_
  refine b_n ?_
  exact ⟨rfl, wk_of (by kernel_rfl) (by kernel_rfl)⟩
 ·subst hxs
  rw [hrev]
  obtain ⟨ys, hys⟩ : ∃ ys, ys = a0.reverse.map oppP := ⟨_, rfl⟩
  rw [← hys] at h ⊢
  replace h := bs h
  obtain ⟨v4, hv4, h⟩ := h
  refine x_seq ?_
  refine x_sreg (xr_gq [(2, .box [.sl (some 71) []]), (4, .box [.sl (some 71) (ys.map ePt)]), (30, .p (.bool (!v4)))] [(1, {call := some (some [.d true [.sl none (ys.map ePt)]], [.p (.bool v4)], true)})] (A3 (show frR [.sl (some 71) (ys.map ePt)] = false from rfl) (show ([.d true [.sl none (eraL (ys.map ePt))]] : List Arg) = [.d true [.sl none (ys.map ePt)]] from (by simp only [eraL_enc (h := ePt) (era_P (era_P er_I er_I) (era_P er_I er_I))])) (wk_impl_isLift hv4))) ?_
  refine xc (!v4) (fun hc4 => ?_) (fun hc4 => ?_)
  ·replace h := ite_t hc4 h
   refine x_sreg (xr_gq [(2, .box [.sl (some 71) []]), (3, .p (.bool false))] [(0, bT)] trivial) ?_
   refine x_ret ?_
   refine q_r ?_
   obtain rfl := oi h
   exact ⟨.inr rfl, rfl, fe [(.ov true [.sl (some 71) []], 2), (.p (.bool false), 3)]⟩
  ·replace h := ite_f hc4 h
   refine x_skip ?_
   refine q_n ?_
   refine x_sreg (xr_gq [(2, .box [.sl (some 71) (ys.map ePt)]), (3, .p (.bool true))] [] (A1 (show frR [.sl (some 71) (ys.map ePt)] = false from rfl))) ?_
   refine x_ret ?_
   obtain rfl := oi h
   exact ⟨.inr rfl, rfl, fe [(.ov true [.sl (some 71) (ys.map ePt)], 2), (.p (.bool true), 3)]⟩
theorem wk_laws_eqRat {a0 : Qr} {a1 : Qr}  {r : Bool} (h : laws_eqRat a0 a1 = some r) : Meets Try.prog 31 [.v (vRt a0), .v (vRt a1)] { vals := [.p (.bool r)] } := by
 refine mo Try.func31 [(0, .p (vRt a0)), (1, .p (vRt a1))] ?_
 unfold laws_eqRat at h
 refine k_sreg (r_gq [(2, .box (eRt a0)), (3, .box (eRt a1))] [] trivial) ?_
 refine k_seq ?_
 refine k_sreg (r_gq [(2, .box (eRt a0)), (3, .box (eRt a1)), (9, .p (.bool (a0.1 != a1.1)))] [] trivial) ?_
 refine kc (a0.1 != a1.1) (fun hc2_0 => ?_) (fun hc2_0 => ?_)
 ·replace h := ite_t hc2_0 h
  refine k_sreg (r_gq [(4, .p (.bool false))] [] trivial) ?_
  refine k_ret ?_
  refine q_r ?_
  obtain rfl := oi h
  exact er [(.p (.bool false), 4)]
 ·replace h := ite_f hc2_0 h
  refine k_skip ?_
  refine q_n ?_
  refine k_seq ?_
  refine k_sreg (r_gq [(14, .p (.bool (a0.2 != a1.2)))] [] trivial) ?_
  refine kc (a0.2 != a1.2) (fun hc2_1 => ?_) (fun hc2_1 => ?_)
  ·replace h := ite_t hc2_1 h
   refine k_sreg (r_gq [(4, .p (.bool false))] [] trivial) ?_
   refine k_ret ?_
   refine q_r ?_
   obtain rfl := oi h
   exact er [(.p (.bool false), 4)]
  ·replace h := ite_f hc2_1 h
   refine k_skip ?_
   refine q_n ?_
   refine k_sreg (r_gq [(4, .p (.bool true))] [] trivial) ?_
   refine k_ret ?_
   obtain rfl := oi h
   exact er [(.p (.bool true), 4)]
theorem wk_laws_eqPoint {a0 : Qp} {a1 : Qp}  {r : Bool} (h : laws_eqPoint a0 a1 = some r) : Meets Try.prog 100 [.v (vPt a0), .v (vPt a1)] { vals := [.p (.bool r)] } := by
 refine mo Try.func100 [(0, .p (vPt a0)), (1, .p (vPt a1))] ?_
 unfold laws_eqPoint at h
 refine k_sreg (r_gq [(2, .box (ePt a0)), (3, .box (ePt a1))] [] trivial) ?_
 refine k_seq ?_
 replace h := bs h
 obtain ⟨v1, hv1, h⟩ := h
 refine k_sreg (r_gq [(2, .box (ePt a0)), (3, .box (ePt a1)), (10, .p (.bool (!v1)))] [(4, {call := some (none, [.p (.bool v1)], true)})] (A1 (wk_laws_eqRat hv1))) ?_
 refine kc (!v1) (fun hc2_1 => ?_) (fun hc2_1 => ?_)
 ·replace h := ite_t hc2_1 h
  refine k_sreg (r_gq [(4, .p (.bool false))] [] trivial) ?_
  refine k_ret ?_
  refine q_r ?_
  obtain rfl := oi h
  exact er [(.p (.bool false), 4)]
 ·replace h := ite_f hc2_1 h
  refine k_skip ?_
  refine q_n ?_
  refine k_seq ?_
  replace h := bs h
  obtain ⟨v3, hv3, h⟩ := h
  refine k_sreg (r_gq [(16, .p (.bool (!v3)))] [(4, {call := some (none, [.p (.bool v3)], true)})] (A1 (wk_laws_eqRat hv3))) ?_
  refine kc (!v3) (fun hc2_3 => ?_) (fun hc2_3 => ?_)
  ·replace h := ite_t hc2_3 h
   refine k_sreg (r_gq [(4, .p (.bool false))] [] trivial) ?_
   refine k_ret ?_
   refine q_r ?_
   obtain rfl := oi h
   exact er [(.p (.bool false), 4)]
  ·replace h := ite_f hc2_3 h
   refine k_skip ?_
   refine q_n ?_
   refine k_sreg (r_gq [(4, .p (.bool true))] [] trivial) ?_
   refine k_ret ?_
   obtain rfl := oi h
   exact er [(.p (.bool true), 4)]
theorem wk_laws_eqPointS {a0 : (List Qp)} {a1 : (List Qp)}  {r : Bool} (h : laws_eqPointS a0 a1 = some r) : Meets Try.prog 52 [.d false [.sl none (a0.map ePt)], .d false [.sl none (a1.map ePt)]] { vals := [.p (.bool r)] } := by
 refine mo Try.func52 [(0, .d false [.sl none (a0.map ePt)]), (1, .d false [.sl none (a1.map ePt)])] ?_
 unfold laws_eqPointS at h
 refine k_sreg (r_gq [(0, .d false [.sl none (a0.map ePt)]), (1, .d false [.sl none (a1.map ePt)])] [] trivial) ?_
 refine k_seq ?_
 refine k_sreg (r_gq [(0, .d false [.sl none (a0.map ePt)]), (1, .d false [.sl none (a1.map ePt)]), (10, .p (.bool ((a0.length : Int) != (a1.length : Int))))] [(1, {n := some a0.length}), (3, {n := some a1.length})] (A2 (show (a0.map ePt).length = a0.length from (List.length_map ..)) (show (a1.map ePt).length = a1.length from (List.length_map ..)))) ?_
 refine kc ((a0.length : Int) != (a1.length : Int)) (fun hc2_0 => ?_) (fun hc2_0 => ?_)
 ·replace h := ite_t hc2_0 h
  refine k_sreg (r_gq [(4, .p (.bool false))] [] trivial) ?_
  refine k_ret ?_
  refine q_r ?_
  obtain rfl := oi h
  exact er [(.p (.bool false), 4)]
 ·replace h := ite_f hc2_0 h
  refine k_skip ?_
  refine q_n ?_
  refine k_join (J := fun (x : Unit) => []) (K := fun x => laws_eqPointS_k1 x = some r) (fun x2 h => ?_) ?_
  ·unfold laws_eqPointS_k1 at h
   refine k_sreg (r_gq [(4, .p (.bool true))] [] trivial) ?_
   refine k_ret ?_
   obtain rfl := oi h
   exact er [(.p (.bool true), 4)]
  ·refine k_sreg (r_gq [(0, .d false [.sl none (a0.map ePt)]), (1, .d false [.sl none (a1.map ePt)]), (5, .p (iV 0))] [] trivial) ?_
   refine k_block ?_
   obtain ⟨y4, hl_x3, hk_x3⟩ := bs h
   clear h
   refine k_loop (J := fun (x : Int) => [(0, .d false [.sl none (a0.map ePt)]), (1, .d false [.sl none (a1.map ePt)]), (5, .p (iV x))]) hl_x3 (wk_of (by kernel_rfl) (by kernel_rfl)) (fun x3 o_x3 h hy_x3 => ?_)
   unfold laws_eqPointS_b1 at h
   refine k_seq ?_
   refine k_sreg (r_gq [(0, .d false [.sl none (a0.map ePt)]), (1, .d false [.sl none (a1.map ePt)]), (5, .p (iV x3)), (14, .p (.bool (decide (x3 < (a0.length : Int)))))] [(2, {n := some a0.length})] (A1 (show (a0.map ePt).length = a0.length from (List.length_map ..)))) ?_
   refine kc (decide (x3 < (a0.length : Int))) (fun hc5_4 => ?_) (fun hc5_4 => ?_)
   ·replace h := ite_t hc5_4 h
    refine k_skip ?_
    refine q_n ?_
    refine k_seq ?_
    refine k_block ?_
    replace h := bs h
    obtain ⟨v6, hv6, h⟩ := h
    replace h := bs h
    obtain ⟨v7, hv7, h⟩ := h
    replace h := bs h
    obtain ⟨v8, hv8, h⟩ := h
    refine k_sreg (r_dq Try_mixed 8 [] [(0, .d false [.sl none (a0.map ePt)]), (1, .d false [.sl none (a1.map ePt)]), (5, .p (iV x3)), (26, .p (.bool (!v8)))] [(2, {row := some (ePt v6)}), (6, {row := some (ePt v7)}), (8, {call := some (none, [.p (.bool v8)], true)})] (A5 (idxO_some hv6).1 (map_get ePt (idxO_some hv6).2) (idxO_some hv7).1 (map_get ePt (idxO_some hv7).2) (wk_laws_eqPoint hv8))) ?_
    refine kc (!v8) (fun hc6_8 => ?_) (fun hc6_8 => ?_)
    ·replace h := ite_t hc6_8 h
     refine k_sreg (r_gq [(4, .p (.bool false))] [] trivial) ?_
     refine k_ret ?_
     refine b_r ?_
     refine q_r ?_
     refine lq_r ?_
     refine b_r ?_
     refine q_r ?_
     have hyy := hy_x3 _ (oi h).symm
     subst hyy
     have h := hk_x3
     dsimp only [Sum.elim] at h
     obtain rfl := oi h
     exact er [(.p (.bool false), 4)]
    ·replace h := ite_f hc6_8 h
     refine k_skip ?_
     refine b_n ?_
     refine q_n ?_
     refine k_reg (r_gq [(0, .d false [.sl none (a0.map ePt)]), (1, .d false [.sl none (a1.map ePt)]), (5, .p (iV (w64 (x3 + 1))))] [] trivial) ?_
     exact lqn (w64 (x3 + 1)) h
   ·replace h := ite_f hc5_4 h
    refine k_exit ?_
    refine q_x ?_
    refine lq_x ?_
    refine b_x ?_
    have hyy := hy_x3 _ (oi h).symm
    subst hyy
    have h := hk_x3
    dsimp only [Sum.elim] at h
    refine q_n ?_
    exact jx () h
theorem wk_laws_eqLift {a0 : (List Qp)} {a1 : (List Qp)}  {r : Bool} (h : laws_eqLift a0 a1 = some r) : Meets Try.prog 17 [.d true [.sl none (a0.map ePt)], .d true [.sl none (a1.map ePt)]] { vals := [.p (.bool r)] } := by
 refine mo Try.func17 [(0, .d true [.sl none (a0.map ePt)]), (1, .d true [.sl none (a1.map ePt)])] ?_
 unfold laws_eqLift at h
 refine k_sreg (r_gq [(2, .box [.sl none (a0.map ePt)]), (3, .box [.sl none (a1.map ePt)])] [] trivial) ?_
 refine k_seq ?_
 replace h := bs h
 obtain ⟨v1, hv1, h⟩ := h
 refine k_sreg (r_gq [(10, .p (.bool (!v1)))] [(1, bT), (3, bT), (4, {call := some (none, [.p (.bool v1)], true)})] (A3 (show frR [.sl none (a0.map ePt)] = true from (frR1 (frL_enc (fr_P (fr_P fr_I fr_I) (fr_P fr_I fr_I))) rfl)) (show frR [.sl none (a1.map ePt)] = true from (frR1 (frL_enc (fr_P (fr_P fr_I fr_I) (fr_P fr_I fr_I))) rfl)) (wk_laws_eqPointS hv1))) ?_
 refine kc (!v1) (fun hc2_1 => ?_) (fun hc2_1 => ?_)
 ·replace h := ite_t hc2_1 h
  refine k_sreg (r_gq [(4, .p (.bool false))] [] trivial) ?_
  refine k_ret ?_
  refine q_r ?_
  obtain rfl := oi h
  exact er [(.p (.bool false), 4)]
 ·replace h := ite_f hc2_1 h
  refine k_skip ?_
  refine q_n ?_
  refine k_sreg (r_gq [(4, .p (.bool true))] [] trivial) ?_
  refine k_ret ?_
  obtain rfl := oi h
  exact er [(.p (.bool true), 4)]
theorem wk_laws_markPointS {a0 : (List Qp)} {a1 : Int}  {r : (Int × (List Qp))} (h : laws_markPointS a0 a1 = some r) : MeetsB Try.prog 58 (.ov false [.sl (some 71) (a0.map ePt)]) [wI a1] [.p (iV r.1)] (.ov false [.sl (some 71) (r.2.map ePt)]) := by
 refine mob Try.func58 [(0, .ov false [.sl (some 71) (a0.map ePt)]), (1, .p (iV a1))] ?_
 unfold laws_markPointS at h
 refine k_sreg (r_gq [(0, .ov false [.sl (some 71) (a0.map ePt)]), (1, .p (iV a1))] [] trivial) ?_
 refine k_join (J := fun (x : ((List Qp) × Int)) => [(0, .ov false [.sl (some 71) (x.1.map ePt)]), (1, .p (iV x.2))]) (K := fun x => laws_markPointS_k1 x = some r) (fun x1 h => ?_) ?_
 ·unfold laws_markPointS_k1 at h
  refine k_sreg (r_gq [(0, .ov false [.sl (some 71) (x1.1.map ePt)]), (4, .p (iV x1.2))] [] trivial) ?_
  refine k_ret ?_
  obtain rfl := oi h
  exact ebr [(.p (iV x1.2), 4)]
 ·refine k_sreg (r_gq [(0, .ov false [.sl (some 71) (a0.map ePt)]), (1, .p (iV a1)), (5, .p (iV 0))] [] trivial) ?_
  refine k_block ?_
  obtain ⟨y3, hl_x2, hk_x2⟩ := bs h
  clear h
  refine k_loop (J := fun (x : ((List Qp) × Int × Int)) => [(0, .ov false [.sl (some 71) (x.1.map ePt)]), (1, .p (iV x.2.1)), (5, .p (iV x.2.2))]) hl_x2 (wk_of (by kernel_rfl) (by kernel_rfl)) (fun x2 o_x2 h hy_x2 => ?_)
  unfold laws_markPointS_b1 at h
  refine k_seq ?_
  refine k_sreg (r_gq [(0, .ov false [.sl (some 71) (x2.1.map ePt)]), (1, .p (iV x2.2.1)), (5, .p (iV x2.2.2)), (9, .p (.bool (decide (x2.2.2 < (x2.1.length : Int)))))] [(2, {n := some x2.1.length})] (A1 (show (x2.1.map ePt).length = x2.1.length from (List.length_map ..)))) ?_
  refine kc (decide (x2.2.2 < (x2.1.length : Int))) (fun hc5_3 => ?_) (fun hc5_3 => ?_)
  ·replace h := ite_t hc5_3 h
   refine k_skip ?_
   refine q_n ?_
   refine k_seq ?_
   refine k_block ?_
   replace h := bs h
   obtain ⟨v5, hv5, h⟩ := h
   refine k_sreg (r_gq [(0, .ov false [.sl (some 71) ((x2.1.set (Int.toNat x2.2.2) ((x2.2.1, v5.1.2), v5.2)).map ePt)]), (1, .p (iV x2.2.1)), (5, .p (iV x2.2.2))] [(3, {row := some (ePt v5)}), (6, {row := some (ePt v5), fix := some (0, .ov false [.sl (some 71) ((x2.1.set (Int.toNat x2.2.2) ((x2.2.1, v5.1.2), v5.2)).map ePt)])})] (A4 (idxO_some hv5).1 (map_get ePt (idxO_some hv5).2) (show getRow [[.sl (some 71) (x2.1.map ePt)]] [(0, 0), ((Int.toNat x2.2.2), 0)] = some (ePt v5) from ((gr0 rfl).trans (gre (map_get ePt (idxO_some hv5).2)))) (show (SV.ov false [.sl (some 71) (setL (x2.1.map ePt) [((Int.toNat x2.2.2), 0)] (eI x2.2.1))] : SV) = .ov false [.sl (some 71) ((x2.1.set (Int.toNat x2.2.2) ((x2.2.1, v5.1.2), v5.2)).map ePt)] from (congrArg (fun z => SV.ov false [.sl (some 71) z]) (set1 (f := ePt) (y := ((x2.2.1, v5.1.2), v5.2)) (idxO_some hv5).2 rfl))))) ?_
   refine k_sreg (r_gq [(0, .ov false [.sl (some 71) ((x2.1.set (Int.toNat x2.2.2) ((x2.2.1, v5.1.2), v5.2)).map ePt)]), (1, .p (iV (w64 (x2.2.1 + 1)))), (5, .p (iV x2.2.2))] [] trivial) ?_
   replace h := bs h
   obtain ⟨v6, hv6, h⟩ := h
   refine k_sreg (r_gq [(0, .ov false [.sl (some 71) (((x2.1.set (Int.toNat x2.2.2) ((x2.2.1, v5.1.2), v5.2)).set (Int.toNat x2.2.2) ((v6.1.1, (w64 (x2.2.1 + 1))), v6.2)).map ePt)]), (1, .p (iV (w64 (x2.2.1 + 1)))), (5, .p (iV x2.2.2))] [(3, {row := some (ePt v6)}), (6, {row := some [rI v6.1.2, rI v6.2.1, rI v6.2.2], fix := some (0, .ov false [.sl (some 71) (((x2.1.set (Int.toNat x2.2.2) ((x2.2.1, v5.1.2), v5.2)).set (Int.toNat x2.2.2) ((v6.1.1, (w64 (x2.2.1 + 1))), v6.2)).map ePt)])})] (A4 (idxO_some hv6).1 (map_get ePt (idxO_some hv6).2) (show getRow [[.sl (some 71) ((x2.1.set (Int.toNat x2.2.2) ((x2.2.1, v5.1.2), v5.2)).map ePt)]] [(0, 0), ((Int.toNat x2.2.2), 1)] = some [rI v6.1.2, rI v6.2.1, rI v6.2.2] from ((gr0 rfl).trans (gre (map_get ePt (idxO_some hv6).2)))) (show (SV.ov false [.sl (some 71) (setL ((x2.1.set (Int.toNat x2.2.2) ((x2.2.1, v5.1.2), v5.2)).map ePt) [((Int.toNat x2.2.2), 1)] [rI (w64 (x2.2.1 + 1))])] : SV) = .ov false [.sl (some 71) (((x2.1.set (Int.toNat x2.2.2) ((x2.2.1, v5.1.2), v5.2)).set (Int.toNat x2.2.2) ((v6.1.1, (w64 (x2.2.1 + 1))), v6.2)).map ePt)] from (congrArg (fun z => SV.ov false [.sl (some 71) z]) (set1 (f := ePt) (y := ((v6.1.1, (w64 (x2.2.1 + 1))), v6.2)) (idxO_some hv6).2 rfl))))) ?_
   refine k_sreg (r_gq [(0, .ov false [.sl (some 71) (((x2.1.set (Int.toNat x2.2.2) ((x2.2.1, v5.1.2), v5.2)).set (Int.toNat x2.2.2) ((v6.1.1, (w64 (x2.2.1 + 1))), v6.2)).map ePt)]), (1, .p (iV (w64 ((w64 (x2.2.1 + 1)) + 1)))), (5, .p (iV x2.2.2))] [] trivial) ?_
   replace h := bs h
   obtain ⟨v7, hv7, h⟩ := h
   refine k_sreg (r_gq [(0, .ov false [.sl (some 71) ((((x2.1.set (Int.toNat x2.2.2) ((x2.2.1, v5.1.2), v5.2)).set (Int.toNat x2.2.2) ((v6.1.1, (w64 (x2.2.1 + 1))), v6.2)).set (Int.toNat x2.2.2) (v7.1, ((w64 ((w64 (x2.2.1 + 1)) + 1)), v7.2.2))).map ePt)]), (1, .p (iV (w64 ((w64 (x2.2.1 + 1)) + 1)))), (5, .p (iV x2.2.2))] [(3, {row := some (ePt v7)}), (6, {row := some (eRt v7.2), fix := some (0, .ov false [.sl (some 71) ((((x2.1.set (Int.toNat x2.2.2) ((x2.2.1, v5.1.2), v5.2)).set (Int.toNat x2.2.2) ((v6.1.1, (w64 (x2.2.1 + 1))), v6.2)).set (Int.toNat x2.2.2) (v7.1, ((w64 ((w64 (x2.2.1 + 1)) + 1)), v7.2.2))).map ePt)])})] (A4 (idxO_some hv7).1 (map_get ePt (idxO_some hv7).2) (show getRow [[.sl (some 71) (((x2.1.set (Int.toNat x2.2.2) ((x2.2.1, v5.1.2), v5.2)).set (Int.toNat x2.2.2) ((v6.1.1, (w64 (x2.2.1 + 1))), v6.2)).map ePt)]] [(0, 0), ((Int.toNat x2.2.2), 2)] = some (eRt v7.2) from ((gr0 rfl).trans (gre (map_get ePt (idxO_some hv7).2)))) (show (SV.ov false [.sl (some 71) (setL (((x2.1.set (Int.toNat x2.2.2) ((x2.2.1, v5.1.2), v5.2)).set (Int.toNat x2.2.2) ((v6.1.1, (w64 (x2.2.1 + 1))), v6.2)).map ePt) [((Int.toNat x2.2.2), 2)] [rI (w64 ((w64 (x2.2.1 + 1)) + 1))])] : SV) = .ov false [.sl (some 71) ((((x2.1.set (Int.toNat x2.2.2) ((x2.2.1, v5.1.2), v5.2)).set (Int.toNat x2.2.2) ((v6.1.1, (w64 (x2.2.1 + 1))), v6.2)).set (Int.toNat x2.2.2) (v7.1, ((w64 ((w64 (x2.2.1 + 1)) + 1)), v7.2.2))).map ePt)] from (congrArg (fun z => SV.ov false [.sl (some 71) z]) (set1 (f := ePt) (y := (v7.1, ((w64 ((w64 (x2.2.1 + 1)) + 1)), v7.2.2))) (idxO_some hv7).2 rfl))))) ?_
   refine k_sreg (r_gq [(0, .ov false [.sl (some 71) ((((x2.1.set (Int.toNat x2.2.2) ((x2.2.1, v5.1.2), v5.2)).set (Int.toNat x2.2.2) ((v6.1.1, (w64 (x2.2.1 + 1))), v6.2)).set (Int.toNat x2.2.2) (v7.1, ((w64 ((w64 (x2.2.1 + 1)) + 1)), v7.2.2))).map ePt)]), (1, .p (iV (w64 ((w64 ((w64 (x2.2.1 + 1)) + 1)) + 1)))), (5, .p (iV x2.2.2))] [] trivial) ?_
   replace h := bs h
   obtain ⟨v8, hv8, h⟩ := h
   refine k_sreg (r_gq [(0, .ov false [.sl (some 71) (((((x2.1.set (Int.toNat x2.2.2) ((x2.2.1, v5.1.2), v5.2)).set (Int.toNat x2.2.2) ((v6.1.1, (w64 (x2.2.1 + 1))), v6.2)).set (Int.toNat x2.2.2) (v7.1, ((w64 ((w64 (x2.2.1 + 1)) + 1)), v7.2.2))).set (Int.toNat x2.2.2) (v8.1, (v8.2.1, (w64 ((w64 ((w64 (x2.2.1 + 1)) + 1)) + 1))))).map ePt)]), (1, .p (iV (w64 ((w64 ((w64 (x2.2.1 + 1)) + 1)) + 1)))), (5, .p (iV x2.2.2))] [(3, {row := some (ePt v8)}), (6, {row := some (eI v8.2.2), fix := some (0, .ov false [.sl (some 71) (((((x2.1.set (Int.toNat x2.2.2) ((x2.2.1, v5.1.2), v5.2)).set (Int.toNat x2.2.2) ((v6.1.1, (w64 (x2.2.1 + 1))), v6.2)).set (Int.toNat x2.2.2) (v7.1, ((w64 ((w64 (x2.2.1 + 1)) + 1)), v7.2.2))).set (Int.toNat x2.2.2) (v8.1, (v8.2.1, (w64 ((w64 ((w64 (x2.2.1 + 1)) + 1)) + 1))))).map ePt)])})] (A4 (idxO_some hv8).1 (map_get ePt (idxO_some hv8).2) (show getRow [[.sl (some 71) ((((x2.1.set (Int.toNat x2.2.2) ((x2.2.1, v5.1.2), v5.2)).set (Int.toNat x2.2.2) ((v6.1.1, (w64 (x2.2.1 + 1))), v6.2)).set (Int.toNat x2.2.2) (v7.1, ((w64 ((w64 (x2.2.1 + 1)) + 1)), v7.2.2))).map ePt)]] [(0, 0), ((Int.toNat x2.2.2), 3)] = some (eI v8.2.2) from ((gr0 rfl).trans (gre (map_get ePt (idxO_some hv8).2)))) (show (SV.ov false [.sl (some 71) (setL ((((x2.1.set (Int.toNat x2.2.2) ((x2.2.1, v5.1.2), v5.2)).set (Int.toNat x2.2.2) ((v6.1.1, (w64 (x2.2.1 + 1))), v6.2)).set (Int.toNat x2.2.2) (v7.1, ((w64 ((w64 (x2.2.1 + 1)) + 1)), v7.2.2))).map ePt) [((Int.toNat x2.2.2), 3)] [rI (w64 ((w64 ((w64 (x2.2.1 + 1)) + 1)) + 1))])] : SV) = .ov false [.sl (some 71) (((((x2.1.set (Int.toNat x2.2.2) ((x2.2.1, v5.1.2), v5.2)).set (Int.toNat x2.2.2) ((v6.1.1, (w64 (x2.2.1 + 1))), v6.2)).set (Int.toNat x2.2.2) (v7.1, ((w64 ((w64 (x2.2.1 + 1)) + 1)), v7.2.2))).set (Int.toNat x2.2.2) (v8.1, (v8.2.1, (w64 ((w64 ((w64 (x2.2.1 + 1)) + 1)) + 1))))).map ePt)] from (congrArg (fun z => SV.ov false [.sl (some 71) z]) (set1 (f := ePt) (y := (v8.1, (v8.2.1, (w64 ((w64 ((w64 (x2.2.1 + 1)) + 1)) + 1))))) (idxO_some hv8).2 rfl))))) ?_
   refine k_reg (r_gq [(0, .ov false [.sl (some 71) (((((x2.1.set (Int.toNat x2.2.2) ((x2.2.1, v5.1.2), v5.2)).set (Int.toNat x2.2.2) ((v6.1.1, (w64 (x2.2.1 + 1))), v6.2)).set (Int.toNat x2.2.2) (v7.1, ((w64 ((w64 (x2.2.1 + 1)) + 1)), v7.2.2))).set (Int.toNat x2.2.2) (v8.1, (v8.2.1, (w64 ((w64 ((w64 (x2.2.1 + 1)) + 1)) + 1))))).map ePt)]), (1, .p (iV (w64 ((w64 ((w64 ((w64 (x2.2.1 + 1)) + 1)) + 1)) + 1)))), (5, .p (iV x2.2.2))] [] trivial) ?_
   refine b_n ?_
   refine q_n ?_
   refine k_reg (r_gq [(0, .ov false [.sl (some 71) (((((x2.1.set (Int.toNat x2.2.2) ((x2.2.1, v5.1.2), v5.2)).set (Int.toNat x2.2.2) ((v6.1.1, (w64 (x2.2.1 + 1))), v6.2)).set (Int.toNat x2.2.2) (v7.1, ((w64 ((w64 (x2.2.1 + 1)) + 1)), v7.2.2))).set (Int.toNat x2.2.2) (v8.1, (v8.2.1, (w64 ((w64 ((w64 (x2.2.1 + 1)) + 1)) + 1))))).map ePt)]), (1, .p (iV (w64 ((w64 ((w64 ((w64 (x2.2.1 + 1)) + 1)) + 1)) + 1)))), (5, .p (iV (w64 (x2.2.2 + 1))))] [] trivial) ?_
   exact lqn (((((x2.1.set (Int.toNat x2.2.2) ((x2.2.1, v5.1.2), v5.2)).set (Int.toNat x2.2.2) ((v6.1.1, (w64 (x2.2.1 + 1))), v6.2)).set (Int.toNat x2.2.2) (v7.1, ((w64 ((w64 (x2.2.1 + 1)) + 1)), v7.2.2))).set (Int.toNat x2.2.2) (v8.1, (v8.2.1, (w64 ((w64 ((w64 (x2.2.1 + 1)) + 1)) + 1))))), (w64 ((w64 ((w64 ((w64 (x2.2.1 + 1)) + 1)) + 1)) + 1)), (w64 (x2.2.2 + 1))) h
  ·replace h := ite_f hc5_3 h
   refine k_exit ?_
   refine q_x ?_
   refine lq_x ?_
   refine b_x ?_
   have hyy := hy_x2 _ (oi h).symm
   subst hyy
   have h := hk_x2
   refine q_n ?_
   exact jx (x2.1, x2.2.1) h
theorem wk_laws_markLift {a0 : (List Qp)} {a1 : Int} {r : (Int × (List Qp))} (h : laws_markLift a0 a1 = some r) : MeetsB Try.prog 22 (.ov true [.sl (some 71) (a0.map ePt)]) [wI a1] [.p (iV r.1)] (.ov true [.sl (some 71) (r.2.map ePt)]) := by
 unfold laws_markLift at h
 refine wrap_lent (T := 29) (S := 27) (by kernel_rfl) Try.func22 rfl ⟨rfl, rfl, rfl⟩ ⟨rfl, rfl, rfl⟩ ⟨rfl, rfl, rfl⟩ ⟨rfl, rfl, rfl⟩ ⟨rfl, rfl, rfl⟩ ⟨rfl, rfl, rfl⟩ ⟨rfl, rfl, rfl⟩ (by kernel_rfl) (by kernel_rfl) (by kernel_rfl) (wk_laws_markPointS h) ?_
 refine k_sreg (r_go [(4, .p (iV r.1))] [] [] (by kernel_rfl) trivial) ?_
 refine k_ret ?_
 exact e_ret (ls := [(.p (iV r.1), 4)]) (by kernel_rfl) rfl (by kernel_rfl) rfl
theorem wk_laws_heldPointS {a0 : (List Qp)} {a1 : Int}  {r : Int} (h : laws_heldPointS a0 a1 = some r) : Meets Try.prog 59 [.d false [.sl none (a0.map ePt)], wI a1] { vals := [.p (iV r)] } := by
 refine mo Try.func59 [(0, .d false [.sl none (a0.map ePt)]), (1, .p (iV a1))] ?_
 unfold laws_heldPointS at h
 refine k_sreg (r_gq [(0, .d false [.sl none (a0.map ePt)]), (1, .p (iV a1))] [] trivial) ?_
 refine k_join (J := fun (x : Int) => [(1, .p (iV x))]) (K := fun x => laws_heldPointS_k1 x = some r) (fun x1 h => ?_) ?_
 ·unfold laws_heldPointS_k1 at h
  refine k_sreg (r_gq [(4, .p (iV x1))] [] trivial) ?_
  refine k_ret ?_
  obtain rfl := oi h
  exact er [(.p (iV x1), 4)]
 ·refine k_sreg (r_gq [(0, .d false [.sl none (a0.map ePt)]), (1, .p (iV a1)), (5, .p (iV 0))] [] trivial) ?_
  refine k_block ?_
  obtain ⟨y3, hl_x2, hk_x2⟩ := bs h
  clear h
  refine k_loop (J := fun (x : Qr) => [(0, .d false [.sl none (a0.map ePt)]), (1, .p (iV x.1)), (5, .p (iV x.2))]) hl_x2 (wk_of (by kernel_rfl) (by kernel_rfl)) (fun x2 o_x2 h hy_x2 => ?_)
  unfold laws_heldPointS_b1 at h
  refine k_seq ?_
  refine k_sreg (r_gq [(0, .d false [.sl none (a0.map ePt)]), (1, .p (iV x2.1)), (5, .p (iV x2.2)), (9, .p (.bool (decide (x2.2 < (a0.length : Int)))))] [(2, {n := some a0.length})] (A1 (show (a0.map ePt).length = a0.length from (List.length_map ..)))) ?_
  refine kc (decide (x2.2 < (a0.length : Int))) (fun hc5_3 => ?_) (fun hc5_3 => ?_)
  ·replace h := ite_t hc5_3 h
   refine k_skip ?_
   refine q_n ?_
   refine k_seq ?_
   refine k_block ?_
   refine k_seq ?_
   replace h := bs h
   obtain ⟨v5, hv5, h⟩ := h
   refine k_sreg (r_gq [(0, .d false [.sl none (a0.map ePt)]), (1, .p (iV x2.1)), (5, .p (iV x2.2)), (19, .p (.bool (v5.1.1 != x2.1)))] [(2, {row := some (ePt v5)})] (A2 (idxO_some hv5).1 (map_get ePt (idxO_some hv5).2))) ?_
   refine kc (v5.1.1 != x2.1) (fun hc7_5 => ?_) (fun hc7_5 => ?_)
   ·replace h := ite_t hc7_5 h
    refine k_sreg (r_gq [(4, .p (iV (-1)))] [] trivial) ?_
    refine k_ret ?_
    refine q_r ?_
    refine b_r ?_
    refine q_r ?_
    refine lq_r ?_
    refine b_r ?_
    refine q_r ?_
    have hyy := hy_x2 _ (oi h).symm
    subst hyy
    have h := hk_x2
    dsimp only [Sum.elim] at h
    obtain rfl := oi h
    exact er [(.p (iV (-1)), 4)]
   ·replace h := ite_f hc7_5 h
    refine k_skip ?_
    refine q_n ?_
    refine k_sreg (r_gq [(0, .d false [.sl none (a0.map ePt)]), (1, .p (iV (w64 (x2.1 + 1)))), (5, .p (iV x2.2))] [] trivial) ?_
    refine k_seq ?_
    refine k_sreg (r_gq [(0, .d false [.sl none (a0.map ePt)]), (1, .p (iV (w64 (x2.1 + 1)))), (5, .p (iV x2.2)), (29, .p (.bool (v5.1.2 != (w64 (x2.1 + 1)))))] [(2, {row := some (ePt v5)})] (A2 (idxO_some hv5).1 (map_get ePt (idxO_some hv5).2))) ?_
    refine kc (v5.1.2 != (w64 (x2.1 + 1))) (fun hc7_6 => ?_) (fun hc7_6 => ?_)
    ·replace h := ite_t hc7_6 h
     refine k_sreg (r_gq [(4, .p (iV (-1)))] [] trivial) ?_
     refine k_ret ?_
     refine q_r ?_
     refine b_r ?_
     refine q_r ?_
     refine lq_r ?_
     refine b_r ?_
     refine q_r ?_
     have hyy := hy_x2 _ (oi h).symm
     subst hyy
     have h := hk_x2
     dsimp only [Sum.elim] at h
     obtain rfl := oi h
     exact er [(.p (iV (-1)), 4)]
    ·replace h := ite_f hc7_6 h
     refine k_skip ?_
     refine q_n ?_
     refine k_sreg (r_gq [(0, .d false [.sl none (a0.map ePt)]), (1, .p (iV (w64 ((w64 (x2.1 + 1)) + 1)))), (5, .p (iV x2.2))] [] trivial) ?_
     refine k_seq ?_
     refine k_sreg (r_gq [(0, .d false [.sl none (a0.map ePt)]), (1, .p (iV (w64 ((w64 (x2.1 + 1)) + 1)))), (5, .p (iV x2.2)), (39, .p (.bool (v5.2.1 != (w64 ((w64 (x2.1 + 1)) + 1)))))] [(2, {row := some (ePt v5)})] (A2 (idxO_some hv5).1 (map_get ePt (idxO_some hv5).2))) ?_
     refine kc (v5.2.1 != (w64 ((w64 (x2.1 + 1)) + 1))) (fun hc7_7 => ?_) (fun hc7_7 => ?_)
     ·replace h := ite_t hc7_7 h
      refine k_sreg (r_gq [(4, .p (iV (-1)))] [] trivial) ?_
      refine k_ret ?_
      refine q_r ?_
      refine b_r ?_
      refine q_r ?_
      refine lq_r ?_
      refine b_r ?_
      refine q_r ?_
      have hyy := hy_x2 _ (oi h).symm
      subst hyy
      have h := hk_x2
      dsimp only [Sum.elim] at h
      obtain rfl := oi h
      exact er [(.p (iV (-1)), 4)]
     ·replace h := ite_f hc7_7 h
      refine k_skip ?_
      refine q_n ?_
      refine k_sreg (r_gq [(0, .d false [.sl none (a0.map ePt)]), (1, .p (iV (w64 ((w64 ((w64 (x2.1 + 1)) + 1)) + 1)))), (5, .p (iV x2.2))] [] trivial) ?_
      refine k_seq ?_
      refine k_sreg (r_gq [(0, .d false [.sl none (a0.map ePt)]), (1, .p (iV (w64 ((w64 ((w64 (x2.1 + 1)) + 1)) + 1)))), (5, .p (iV x2.2)), (49, .p (.bool (v5.2.2 != (w64 ((w64 ((w64 (x2.1 + 1)) + 1)) + 1)))))] [(2, {row := some (ePt v5)})] (A2 (idxO_some hv5).1 (map_get ePt (idxO_some hv5).2))) ?_
      refine kc (v5.2.2 != (w64 ((w64 ((w64 (x2.1 + 1)) + 1)) + 1))) (fun hc7_8 => ?_) (fun hc7_8 => ?_)
      ·replace h := ite_t hc7_8 h
       refine k_sreg (r_gq [(4, .p (iV (-1)))] [] trivial) ?_
       refine k_ret ?_
       refine q_r ?_
       refine b_r ?_
       refine q_r ?_
       refine lq_r ?_
       refine b_r ?_
       refine q_r ?_
       have hyy := hy_x2 _ (oi h).symm
       subst hyy
       have h := hk_x2
       dsimp only [Sum.elim] at h
       obtain rfl := oi h
       exact er [(.p (iV (-1)), 4)]
      ·replace h := ite_f hc7_8 h
       refine k_skip ?_
       refine q_n ?_
       refine k_reg (r_gq [(0, .d false [.sl none (a0.map ePt)]), (1, .p (iV (w64 ((w64 ((w64 ((w64 (x2.1 + 1)) + 1)) + 1)) + 1)))), (5, .p (iV x2.2))] [] trivial) ?_
       refine b_n ?_
       refine q_n ?_
       refine k_reg (r_gq [(0, .d false [.sl none (a0.map ePt)]), (1, .p (iV (w64 ((w64 ((w64 ((w64 (x2.1 + 1)) + 1)) + 1)) + 1)))), (5, .p (iV (w64 (x2.2 + 1))))] [] trivial) ?_
       exact lqn ((w64 ((w64 ((w64 ((w64 (x2.1 + 1)) + 1)) + 1)) + 1)), (w64 (x2.2 + 1))) h
  ·replace h := ite_f hc5_3 h
   refine k_exit ?_
   refine q_x ?_
   refine lq_x ?_
   refine b_x ?_
   have hyy := hy_x2 _ (oi h).symm
   subst hyy
   have h := hk_x2
   dsimp only [Sum.elim] at h
   refine q_n ?_
   exact jx x2.1 h
theorem wk_laws_heldLift {a0 : (List Qp)} {a1 : Int}  {r : Int} (h : laws_heldLift a0 a1 = some r) : Meets Try.prog 23 [.d true [.sl none (a0.map ePt)], wI a1] { vals := [.p (iV r)] } := by
 refine mo Try.func23 [(0, .d true [.sl none (a0.map ePt)]), (1, .p (iV a1))] ?_
 unfold laws_heldLift at h
 refine k_sreg (r_gq [(1, .p (iV a1)), (2, .box [.sl none (a0.map ePt)])] [] trivial) ?_
 replace h := bs h
 obtain ⟨v1, hv1, h⟩ := h
 refine k_sreg (r_gq [(1, .p (iV v1))] [(1, bT), (3, {call := some (none, [.p (iV v1)], true)})] (A2 (show frR [.sl none (a0.map ePt)] = true from (frR1 (frL_enc (fr_P (fr_P fr_I fr_I) (fr_P fr_I fr_I))) rfl)) (wk_laws_heldPointS hv1))) ?_
 refine k_seq ?_
 refine k_sreg (r_gq [(1, .p (iV v1)), (10, .p (.bool (decide (v1 < 0))))] [] trivial) ?_
 refine kc (decide (v1 < 0)) (fun hc2_1 => ?_) (fun hc2_1 => ?_)
 ·replace h := ite_t hc2_1 h
  refine k_sreg (r_gq [(4, .p (iV (-1)))] [] trivial) ?_
  refine k_ret ?_
  refine q_r ?_
  obtain rfl := oi h
  exact er [(.p (iV (-1)), 4)]
 ·replace h := ite_f hc2_1 h
  refine k_skip ?_
  refine q_n ?_
  refine k_sreg (r_gq [(4, .p (iV v1))] [] trivial) ?_
  refine k_ret ?_
  obtain rfl := oi h
  exact er [(.p (iV v1), 4)]
theorem wk_laws_FnExactReverseLift {a0 : (List Qp)}  {r : Bool} (h : laws_FnExactReverseLift a0 = some r) : Meets Try.prog 5 [.d true [.sl none (a0.map ePt)]] { vals := [.p (.bool r)] } := by
 refine mo Try.func5 [(0, .d true [.sl none (a0.map ePt)])] ?_
 unfold laws_FnExactReverseLift at h
 refine k_sreg (r_gq [(1, .box [.sl none (a0.map ePt)])] [] trivial) ?_
 refine k_sreg (r_gq [(1, .box [.sl none (a0.map ePt)]), (3, .p (iV 1048576))] [] trivial) ?_
 replace h := bs h
 obtain ⟨v1, hv1, h⟩ := h
 refine k_sreg (r_gq [(1, .box [.sl none (a0.map ePt)]), (3, .p (iV v1))] [(0, bT), (2, {call := some (none, [.p (iV v1)], true)})] (A2 (show frR [.sl none (a0.map ePt)] = true from (frR1 (frL_enc (fr_P (fr_P fr_I fr_I) (fr_P fr_I fr_I))) rfl)) (wk_laws_szLift hv1))) ?_
 refine k_seq ?_
 refine k_sreg (r_gq [(1, .box [.sl none (a0.map ePt)]), (18, .p (.bool (decide (v1 < 0))))] [] trivial) ?_
 refine kc (decide (v1 < 0)) (fun hc2_1 => ?_) (fun hc2_1 => ?_)
 ·replace h := ite_t hc2_1 h
  refine k_sreg (r_gq [(2, .p (.bool true))] [] trivial) ?_
  refine k_ret ?_
  refine q_r ?_
  obtain rfl := oi h
  exact er [(.p (.bool true), 2)]
 ·replace h := ite_f hc2_1 h
  refine k_skip ?_
  refine q_n ?_
  replace h := bs h
  obtain ⟨v3, hv3, h⟩ := h
  replace h := bs h
  obtain ⟨v4, hv4, h⟩ := h
  refine k_sreg (r_gq [(1, .box [.sl none (a0.map ePt)]), (4, .box [.sl none (v4.1.map ePt)]), (5, .p (.bool v4.2))] [(0, bT), (1, {call := some (none, [.ov true [.sl (some 71) (v3.map ePt)]], true)}), (2, {call := some (some [.d true [.sl none (v3.map ePt)]], [.ov true [.sl none (v4.1.map ePt)], .p (.bool v4.2)], false), fix := some (21, .d true [.sl none (v3.map ePt)])})] (A6 (show frR [.sl none (a0.map ePt)] = true from (frR1 (frL_enc (fr_P (fr_P fr_I fr_I) (fr_P fr_I fr_I))) rfl)) (wk_laws_toLift hv3) (show List.all [.ov true [.sl (some 71) (v3.map ePt)]] simpleR = true from (sa_o (wnR1 (wnL_enc (wn_P (wn_P wn_I wn_I) (wn_P wn_I wn_I))) rfl) rfl)) (show ([.d true [.sl none (eraL (v3.map ePt))]] : List Arg) = [.d true [.sl none (v3.map ePt)]] from (by simp only [eraL_enc (h := ePt) (era_P (era_P er_I er_I) (era_P er_I er_I))])) (wk_spec_ReverseLift hv4) (show (SV.d true (eraR [.sl (some 71) (v3.map ePt)]) : SV) = .d true [.sl none (v3.map ePt)] from (congrArg (fun z => SV.d true z) (erc_sl (eraL_enc (era_P (era_P er_I er_I) (era_P er_I er_I))) rfl))))) ?_
  replace h := bs h
  obtain ⟨v5, hv5, h⟩ := h
  refine k_sreg (r_gq [(1, .box [.sl none (a0.map ePt)]), (4, .box [.sl none (v4.1.map ePt)]), (5, .p (.bool v4.2)), (6, .box [.sl (some 71) (v5.map ePt)])] [(0, bT), (1, {call := some (none, [.ov true [.sl (some 71) (v5.map ePt)]], true)})] (A3 (show frR [.sl none (a0.map ePt)] = true from (frR1 (frL_enc (fr_P (fr_P fr_I fr_I) (fr_P fr_I fr_I))) rfl)) (wk_laws_toLift hv5) (show List.all [.ov true [.sl (some 71) (v5.map ePt)]] simpleR = true from (sa_o (wnR1 (wnL_enc (wn_P (wn_P wn_I wn_I) (wn_P wn_I wn_I))) rfl) rfl)))) ?_
  replace h := bs h
  obtain ⟨v6, hv6, h⟩ := h
  refine k_sreg (r_gq [(1, .box [.sl none (a0.map ePt)]), (4, .box [.sl none (v4.1.map ePt)]), (5, .p (.bool v4.2)), (6, .box [.sl (some 71) (v5.map ePt)]), (7, .box [.sl (some 71) (v6.1.map ePt)]), (8, .p (.bool v6.2))] [(1, {call := some (some [.d true [.sl none (v5.map ePt)]], [.ov true [.sl (some 71) (v6.1.map ePt)], .p (.bool v6.2)], true)})] (A4 (show frR [.sl (some 71) (v5.map ePt)] = false from rfl) (show ([.d true [.sl none (eraL (v5.map ePt))]] : List Arg) = [.d true [.sl none (v5.map ePt)]] from (by simp only [eraL_enc (h := ePt) (era_P (era_P er_I er_I) (era_P er_I er_I))])) (wk_impl_ReverseLift hv6) (show List.all [.ov true [.sl (some 71) (v6.1.map ePt)], .p (.bool v6.2)] simpleR = true from (sa_o (wnR1 (wnL_enc (wn_P (wn_P wn_I wn_I) (wn_P wn_I wn_I))) rfl) (sa_p rfl))))) ?_
  refine k_seq ?_
  replace h := bs h
  obtain ⟨v7, hv7, h⟩ := h
  refine k_sreg (l1 := [(1, .box [.sl none (a0.map ePt)]), (4, .box [.sl none (v4.1.map ePt)]), (5, .p (.bool v4.2)), (6, .box [.sl (some 71) (v5.map ePt)]), (7, .box [.sl (some 71) (v6.1.map ePt)]), (8, .p (.bool v6.2)), (40, .p (.bool ((!v7) || (!(v6.2 == v4.2)))))]) ?_ ?_
  ·rcases ft (!v7) with ha1 | ha1
   ·exact RegOk.of_eq (l2 := [(1, .box [.sl none (a0.map ePt)]), (4, .box [.sl none (v4.1.map ePt)]), (5, .p (.bool v4.2)), (6, .box [.sl (some 71) (v5.map ePt)]), (7, .box [.sl (some 71) (v6.1.map ePt)]), (8, .p (.bool v6.2)), (40, .p (.bool ((!v7) || (!(v6.2 == v4.2)))))]) (r_gq [(1, .box [.sl none (a0.map ePt)]), (4, .box [.sl none (v4.1.map ePt)]), (5, .p (.bool v4.2)), (6, .box [.sl (some 71) (v5.map ePt)]), (7, .box [.sl (some 71) (v6.1.map ePt)]), (8, .p (.bool v6.2)), (40, .p (.bool true))] [(1, bT), (2, {call := some (some [.d true [.sl none (v6.1.map ePt)], .d true [.sl none (v4.1.map ePt)]], [.p (.bool v7)], true)}), (5, gT), (6, gT), (7, gT), (8, bT)] (B6 (show frR [.sl (some 71) (v6.1.map ePt)] = false from rfl) (show frR [.sl none (v4.1.map ePt)] = true from (frR1 (frL_enc (fr_P (fr_P fr_I fr_I) (fr_P fr_I fr_I))) rfl)) (show ([.d true [.sl none (eraL (v6.1.map ePt))], .d true [.sl none (v4.1.map ePt)]] : List Arg) = [.d true [.sl none (v6.1.map ePt)], .d true [.sl none (v4.1.map ePt)]] from (by simp only [eraL_enc (h := ePt) (era_P (era_P er_I er_I) (era_P er_I er_I))])) (wk_laws_eqLift hv7) ha1 ha1 (A2 ha1 ha1))) (by simp [ha1])
   ·exact RegOk.of_eq (l2 := [(1, .box [.sl none (a0.map ePt)]), (4, .box [.sl none (v4.1.map ePt)]), (5, .p (.bool v4.2)), (6, .box [.sl (some 71) (v5.map ePt)]), (7, .box [.sl (some 71) (v6.1.map ePt)]), (8, .p (.bool v6.2)), (40, .p (.bool ((!v7) || (!(v6.2 == v4.2)))))]) (r_gq [(1, .box [.sl none (a0.map ePt)]), (4, .box [.sl none (v4.1.map ePt)]), (5, .p (.bool v4.2)), (6, .box [.sl (some 71) (v5.map ePt)]), (7, .box [.sl (some 71) (v6.1.map ePt)]), (8, .p (.bool v6.2)), (40, .p (.bool (!(v6.2 == v4.2))))] [(1, bT), (2, {call := some (some [.d true [.sl none (v6.1.map ePt)], .d true [.sl none (v4.1.map ePt)]], [.p (.bool v7)], true)}), (5, gF), (6, gF), (7, gF), (8, bF)] (B6 (show frR [.sl (some 71) (v6.1.map ePt)] = false from rfl) (show frR [.sl none (v4.1.map ePt)] = true from (frR1 (frL_enc (fr_P (fr_P fr_I fr_I) (fr_P fr_I fr_I))) rfl)) (show ([.d true [.sl none (eraL (v6.1.map ePt))], .d true [.sl none (v4.1.map ePt)]] : List Arg) = [.d true [.sl none (v6.1.map ePt)], .d true [.sl none (v4.1.map ePt)]] from (by simp only [eraL_enc (h := ePt) (era_P (era_P er_I er_I) (era_P er_I er_I))])) (wk_laws_eqLift hv7) ha1 ha1 (A2 ha1 ha1))) (by simp [ha1])
  ·refine kc ((!v7) || (!(v6.2 == v4.2))) (fun hc2_7 => ?_) (fun hc2_7 => ?_)
   ·replace h := ite_t hc2_7 h
    refine k_sreg (r_gq [(2, .p (.bool false))] [] trivial) ?_
    refine k_ret ?_
    refine q_r ?_
    obtain rfl := oi h
    exact er [(.p (.bool false), 2)]
   ·replace h := ite_f hc2_7 h
    refine k_skip ?_
    refine q_n ?_
    refine k_seq ?_
    replace h := bs h
    obtain ⟨v9, hv9, h⟩ := h
    replace h := bs h
    obtain ⟨v10, hv10, h⟩ := h
    refine k_sreg (r_dq Try_mixed 3 [] [(1, .box [.sl none (a0.map ePt)]), (4, .box [.sl none (v4.1.map ePt)]), (5, .p (.bool v4.2)), (6, .box [.sl (some 71) (v5.map ePt)]), (7, .box [.sl (some 71) (v6.1.map ePt)]), (8, .p (.bool v6.2)), (45, .p (.bool (!v10)))] [(1, bT), (2, {call := some (none, [.ov true [.sl (some 71) (v9.map ePt)]], true)}), (3, {call := some (some [.d true [.sl none (v5.map ePt)], .d true [.sl none (v9.map ePt)]], [.p (.bool v10)], true)})] (A6 (show frR [.sl (some 71) (v5.map ePt)] = false from rfl) (show frR [.sl none (a0.map ePt)] = true from (frR1 (frL_enc (fr_P (fr_P fr_I fr_I) (fr_P fr_I fr_I))) rfl)) (wk_laws_toLift hv9) (show List.all [.ov true [.sl (some 71) (v9.map ePt)]] simpleR = true from (sa_o (wnR1 (wnL_enc (wn_P (wn_P wn_I wn_I) (wn_P wn_I wn_I))) rfl) rfl)) (show ([.d true [.sl none (eraL (v5.map ePt))], .d true [.sl none (eraL (v9.map ePt))]] : List Arg) = [.d true [.sl none (v5.map ePt)], .d true [.sl none (v9.map ePt)]] from (by simp only [eraL_enc (h := ePt) (era_P (era_P er_I er_I) (era_P er_I er_I)), eraL_enc (h := ePt) (era_P (era_P er_I er_I) (era_P er_I er_I))])) (wk_laws_eqLift hv10))) ?_
    refine kc (!v10) (fun hc2_10 => ?_) (fun hc2_10 => ?_)
    ·replace h := ite_t hc2_10 h
     refine k_sreg (r_gq [(2, .p (.bool false))] [] trivial) ?_
     refine k_ret ?_
     refine q_r ?_
     obtain rfl := oi h
     exact er [(.p (.bool false), 2)]
    ·replace h := ite_f hc2_10 h
     refine k_skip ?_
     refine q_n ?_
     refine k_sreg (r_gq [(1, .box [.sl none (a0.map ePt)]), (4, .box [.sl none (v4.1.map ePt)]), (5, .p (.bool v4.2)), (6, .box [.sl (some 71) (v5.map ePt)]), (7, .box [.sl (some 71) (v6.1.map ePt)]), (8, .p (.bool v6.2)), (9, .p (iV 1))] [] trivial) ?_
     replace h := bs h
     obtain ⟨v12, hv12, h⟩ := h
     refine k_sreg (r_gq [(1, .box [.sl none (a0.map ePt)]), (4, .box [.sl none (v4.1.map ePt)]), (5, .p (.bool v4.2)), (7, .box [.sl (some 71) (v6.1.map ePt)]), (8, .p (.bool v6.2)), (9, .p (iV v12.1))] [(2, {lend := some (none, [.p (iV v12.1)], .ov true [.sl (some 71) (v12.2.map ePt)], true)})] (A3 (show frR [.sl (some 71) (v5.map ePt)] = false from rfl) (wk_laws_markLift hv12) (show (List.all [.p (iV v12.1)] simpleR && wnS (.ov true [.sl (some 71) (v12.2.map ePt)])) = true from (ls_t rfl (wnR1 (wnL_enc (wn_P (wn_P wn_I wn_I) (wn_P wn_I wn_I))) rfl))))) ?_
     refine k_seq ?_
     replace h := bs h
     obtain ⟨w14, hw14, h⟩ := h
     refine k_sreg (l1 := [(1, .box [.sl none (a0.map ePt)]), (4, .box [.sl none (v4.1.map ePt)]), (5, .p (.bool v4.2)), (7, .box [.sl (some 71) (v6.1.map ePt)]), (61, .p (.bool w14))]) ?_ ?_
     ·clear h
      rcases ft (decide (v12.1 < 0)) with ha3 | ha3
      ·replace hw14 := ite_t ha3 hw14
       have hw14 := oi hw14
       subst hw14
       exact (r_gq [(1, .box [.sl none (a0.map ePt)]), (4, .box [.sl none (v4.1.map ePt)]), (5, .p (.bool v4.2)), (7, .box [.sl (some 71) (v6.1.map ePt)]), (61, .p (.bool true))] [(3, gT), (4, gT), (5, gT), (6, gT), (7, bT), (9, gT), (10, gT), (11, gT), (12, bT)] (B6 ha3 ha3 ha3 ha3 ha3 (show true = true from rfl) (A3 (show true = true from rfl) (show true = true from rfl) (show true = true from rfl))))
      ·replace hw14 := ite_f ha3 hw14
       replace hw14 := bs hw14
       obtain ⟨v13, hv13, hw14⟩ := hw14
       rcases ft (!v13) with ha4 | ha4
       ·replace hw14 := ite_t ha4 hw14
        have hw14 := oi hw14
        subst hw14
        exact (r_gq [(1, .box [.sl none (a0.map ePt)]), (4, .box [.sl none (v4.1.map ePt)]), (5, .p (.bool v4.2)), (7, .box [.sl (some 71) (v6.1.map ePt)]), (61, .p (.bool true))] [(3, gF), (4, {g := some false, b := some true}), (5, {g := some false, call := some (some [.d true [.sl none (v6.1.map ePt)], .d true [.sl none (v4.1.map ePt)]], [.p (.bool v13)], true)}), (6, gF), (7, bF), (9, gT), (10, gT), (11, gT), (12, bT)] (B6 ha3 (show frR [.sl (some 71) (v6.1.map ePt)] = false from rfl) ha3 (show frR [.sl none (v4.1.map ePt)] = true from (frR1 (frL_enc (fr_P (fr_P fr_I fr_I) (fr_P fr_I fr_I))) rfl)) ha3 (show ([.d true [.sl none (eraL (v6.1.map ePt))], .d true [.sl none (v4.1.map ePt)]] : List Arg) = [.d true [.sl none (v6.1.map ePt)], .d true [.sl none (v4.1.map ePt)]] from (by simp only [eraL_enc (h := ePt) (era_P (era_P er_I er_I) (era_P er_I er_I))])) (B6 (wk_laws_eqLift hv13) ha3 ha3 ha4 ha4 ha4 (A1 ha4))))
       ·replace hw14 := ite_f ha4 hw14
        have hw14 := oi hw14
        subst hw14
        exact (r_gq [(1, .box [.sl none (a0.map ePt)]), (4, .box [.sl none (v4.1.map ePt)]), (5, .p (.bool v4.2)), (7, .box [.sl (some 71) (v6.1.map ePt)]), (61, .p (.bool (!(v6.2 == v4.2))))] [(3, gF), (4, {g := some false, b := some true}), (5, {g := some false, call := some (some [.d true [.sl none (v6.1.map ePt)], .d true [.sl none (v4.1.map ePt)]], [.p (.bool v13)], true)}), (6, gF), (7, bF), (9, gF), (10, gF), (11, gF), (12, bF)] (B6 ha3 (show frR [.sl (some 71) (v6.1.map ePt)] = false from rfl) ha3 (show frR [.sl none (v4.1.map ePt)] = true from (frR1 (frL_enc (fr_P (fr_P fr_I fr_I) (fr_P fr_I fr_I))) rfl)) ha3 (show ([.d true [.sl none (eraL (v6.1.map ePt))], .d true [.sl none (v4.1.map ePt)]] : List Arg) = [.d true [.sl none (v6.1.map ePt)], .d true [.sl none (v4.1.map ePt)]] from (by simp only [eraL_enc (h := ePt) (era_P (era_P er_I er_I) (era_P er_I er_I))])) (B6 (wk_laws_eqLift hv13) ha3 ha3 ha4 ha4 ha4 (A1 ha4))))
     ·refine kc w14 (fun hc2_14 => ?_) (fun hc2_14 => ?_)
      ·replace h := ite_t hc2_14 h
       refine k_sreg (r_gq [(2, .p (.bool false))] [] trivial) ?_
       refine k_ret ?_
       refine q_r ?_
       obtain rfl := oi h
       exact er [(.p (.bool false), 2)]
      ·replace h := ite_f hc2_14 h
       refine k_skip ?_
       refine q_n ?_
       refine k_sreg (r_gq [(1, .box [.sl none (a0.map ePt)]), (4, .box [.sl none (v4.1.map ePt)]), (5, .p (.bool v4.2)), (7, .box [.sl (some 71) (v6.1.map ePt)]), (10, .p (iV 1))] [] trivial) ?_
       replace h := bs h
       obtain ⟨v16, hv16, h⟩ := h
       refine k_sreg (r_gq [(1, .box [.sl none (a0.map ePt)]), (4, .box [.sl none (v4.1.map ePt)]), (5, .p (.bool v4.2)), (7, .box [.sl (some 71) (v16.2.map ePt)]), (10, .p (iV v16.1))] [(2, {lend := some (none, [.p (iV v16.1)], .ov true [.sl (some 71) (v16.2.map ePt)], true)})] (A3 (show frR [.sl (some 71) (v6.1.map ePt)] = false from rfl) (wk_laws_markLift hv16) (show (List.all [.p (iV v16.1)] simpleR && wnS (.ov true [.sl (some 71) (v16.2.map ePt)])) = true from (ls_t rfl (wnR1 (wnL_enc (wn_P (wn_P wn_I wn_I) (wn_P wn_I wn_I))) rfl))))) ?_
       refine k_sreg (r_gq [(1, .box [.sl none (a0.map ePt)]), (4, .box [.sl none (v4.1.map ePt)]), (5, .p (.bool v4.2)), (7, .box [.sl (some 71) (v16.2.map ePt)]), (10, .p (iV v16.1)), (11, .p (iV 1))] [] trivial) ?_
       replace h := bs h
       obtain ⟨v17, hv17, h⟩ := h
       refine k_sreg (r_gq [(1, .box [.sl none (a0.map ePt)]), (4, .box [.sl none (v4.1.map ePt)]), (5, .p (.bool v4.2)), (7, .box [.sl (some 71) (v16.2.map ePt)]), (10, .p (iV v16.1)), (11, .p (iV v17))] [(2, {call := some (some [.d true [.sl none (v16.2.map ePt)], wI 1], [.p (iV v17)], true)})] (A3 (show frR [.sl (some 71) (v16.2.map ePt)] = false from rfl) (show ([.d true [.sl none (eraL (v16.2.map ePt))], wI 1] : List Arg) = [.d true [.sl none (v16.2.map ePt)], wI 1] from (by simp only [eraL_enc (h := ePt) (era_P (era_P er_I er_I) (era_P er_I er_I))])) (wk_laws_heldLift hv17))) ?_
       refine k_seq ?_
       refine k_sreg (r_gq [(1, .box [.sl none (a0.map ePt)]), (4, .box [.sl none (v4.1.map ePt)]), (5, .p (.bool v4.2)), (7, .box [.sl (some 71) (v16.2.map ePt)]), (10, .p (iV v16.1)), (11, .p (iV v17)), (69, .p (.bool (decide (v17 < 0))))] [] trivial) ?_
       refine kc (decide (v17 < 0)) (fun hc2_17 => ?_) (fun hc2_17 => ?_)
       ·replace h := ite_t hc2_17 h
        refine k_sreg (r_gq [(2, .p (.bool false))] [] trivial) ?_
        refine k_ret ?_
        refine q_r ?_
        obtain rfl := oi h
        exact er [(.p (.bool false), 2)]
       ·replace h := ite_f hc2_17 h
        refine k_skip ?_
        refine q_n ?_
        refine k_seq ?_
        refine k_sreg (r_gq [(1, .box [.sl none (a0.map ePt)]), (4, .box [.sl none (v4.1.map ePt)]), (5, .p (.bool v4.2)), (7, .box [.sl (some 71) (v16.2.map ePt)]), (10, .p (iV v16.1)), (72, .p (.bool (v17 != v16.1)))] [] trivial) ?_
        refine kc (v17 != v16.1) (fun hc2_18 => ?_) (fun hc2_18 => ?_)
        ·replace h := ite_t hc2_18 h
         refine k_sreg (r_gq [(2, .p (.bool false))] [] trivial) ?_
         refine k_ret ?_
         refine q_r ?_
         obtain rfl := oi h
         exact er [(.p (.bool false), 2)]
        ·replace h := ite_f hc2_18 h
         refine k_skip ?_
         refine q_n ?_
         replace h := bs h
         obtain ⟨v20, hv20, h⟩ := h
         replace h := bs h
         obtain ⟨v21, hv21, h⟩ := h
         refine k_sreg (r_gq [(4, .box [.sl none (v4.1.map ePt)]), (5, .p (.bool v4.2)), (7, .box [.sl (some 71) (v16.2.map ePt)]), (10, .p (iV v16.1)), (12, .box [.sl (some 71) (v21.1.map ePt)]), (13, .p (.bool v21.2))] [(0, bT), (1, {call := some (none, [.ov true [.sl (some 71) (v20.map ePt)]], true)}), (2, {call := some (some [.d true [.sl none (v20.map ePt)]], [.ov true [.sl (some 71) (v21.1.map ePt)], .p (.bool v21.2)], true)})] (A6 (show frR [.sl none (a0.map ePt)] = true from (frR1 (frL_enc (fr_P (fr_P fr_I fr_I) (fr_P fr_I fr_I))) rfl)) (wk_laws_toLift hv20) (show List.all [.ov true [.sl (some 71) (v20.map ePt)]] simpleR = true from (sa_o (wnR1 (wnL_enc (wn_P (wn_P wn_I wn_I) (wn_P wn_I wn_I))) rfl) rfl)) (show ([.d true [.sl none (eraL (v20.map ePt))]] : List Arg) = [.d true [.sl none (v20.map ePt)]] from (by simp only [eraL_enc (h := ePt) (era_P (era_P er_I er_I) (era_P er_I er_I))])) (wk_impl_ReverseLift hv21) (show List.all [.ov true [.sl (some 71) (v21.1.map ePt)], .p (.bool v21.2)] simpleR = true from (sa_o (wnR1 (wnL_enc (wn_P (wn_P wn_I wn_I) (wn_P wn_I wn_I))) rfl) (sa_p rfl))))) ?_
         refine k_seq ?_
         replace h := bs h
         obtain ⟨v22, hv22, h⟩ := h
         refine k_sreg (l1 := [(7, .box [.sl (some 71) (v16.2.map ePt)]), (10, .p (iV v16.1)), (87, .p (.bool ((!v22) || (!(v21.2 == v4.2)))))]) ?_ ?_
         ·rcases ft (!v22) with ha6 | ha6
          ·exact RegOk.of_eq (l2 := [(7, .box [.sl (some 71) (v16.2.map ePt)]), (10, .p (iV v16.1)), (87, .p (.bool ((!v22) || (!(v21.2 == v4.2)))))]) (r_gq [(7, .box [.sl (some 71) (v16.2.map ePt)]), (10, .p (iV v16.1)), (87, .p (.bool true))] [(1, bT), (2, {call := some (some [.d true [.sl none (v21.1.map ePt)], .d true [.sl none (v4.1.map ePt)]], [.p (.bool v22)], true)}), (5, gT), (6, gT), (7, gT), (8, bT)] (B6 (show frR [.sl (some 71) (v21.1.map ePt)] = false from rfl) (show frR [.sl none (v4.1.map ePt)] = true from (frR1 (frL_enc (fr_P (fr_P fr_I fr_I) (fr_P fr_I fr_I))) rfl)) (show ([.d true [.sl none (eraL (v21.1.map ePt))], .d true [.sl none (v4.1.map ePt)]] : List Arg) = [.d true [.sl none (v21.1.map ePt)], .d true [.sl none (v4.1.map ePt)]] from (by simp only [eraL_enc (h := ePt) (era_P (era_P er_I er_I) (era_P er_I er_I))])) (wk_laws_eqLift hv22) ha6 ha6 (A2 ha6 ha6))) (by simp [ha6])
          ·exact RegOk.of_eq (l2 := [(7, .box [.sl (some 71) (v16.2.map ePt)]), (10, .p (iV v16.1)), (87, .p (.bool ((!v22) || (!(v21.2 == v4.2)))))]) (r_gq [(7, .box [.sl (some 71) (v16.2.map ePt)]), (10, .p (iV v16.1)), (87, .p (.bool (!(v21.2 == v4.2))))] [(1, bT), (2, {call := some (some [.d true [.sl none (v21.1.map ePt)], .d true [.sl none (v4.1.map ePt)]], [.p (.bool v22)], true)}), (5, gF), (6, gF), (7, gF), (8, bF)] (B6 (show frR [.sl (some 71) (v21.1.map ePt)] = false from rfl) (show frR [.sl none (v4.1.map ePt)] = true from (frR1 (frL_enc (fr_P (fr_P fr_I fr_I) (fr_P fr_I fr_I))) rfl)) (show ([.d true [.sl none (eraL (v21.1.map ePt))], .d true [.sl none (v4.1.map ePt)]] : List Arg) = [.d true [.sl none (v21.1.map ePt)], .d true [.sl none (v4.1.map ePt)]] from (by simp only [eraL_enc (h := ePt) (era_P (era_P er_I er_I) (era_P er_I er_I))])) (wk_laws_eqLift hv22) ha6 ha6 (A2 ha6 ha6))) (by simp [ha6])
         ·refine kc ((!v22) || (!(v21.2 == v4.2))) (fun hc2_22 => ?_) (fun hc2_22 => ?_)
          ·replace h := ite_t hc2_22 h
           refine k_sreg (r_gq [(2, .p (.bool false))] [] trivial) ?_
           refine k_ret ?_
           refine q_r ?_
           obtain rfl := oi h
           exact er [(.p (.bool false), 2)]
          ·replace h := ite_f hc2_22 h
           refine k_skip ?_
           refine q_n ?_
           refine k_sreg (r_gq [(7, .box [.sl (some 71) (v16.2.map ePt)]), (10, .p (iV v16.1)), (11, .p (iV 1))] [] trivial) ?_
           replace h := bs h
           obtain ⟨v24, hv24, h⟩ := h
           refine k_sreg (r_gq [(10, .p (iV v16.1)), (11, .p (iV v24))] [(2, {call := some (some [.d true [.sl none (v16.2.map ePt)], wI 1], [.p (iV v24)], true)})] (A3 (show frR [.sl (some 71) (v16.2.map ePt)] = false from rfl) (show ([.d true [.sl none (eraL (v16.2.map ePt))], wI 1] : List Arg) = [.d true [.sl none (v16.2.map ePt)], wI 1] from (by simp only [eraL_enc (h := ePt) (era_P (era_P er_I er_I) (era_P er_I er_I))])) (wk_laws_heldLift hv24))) ?_
           refine k_seq ?_
           refine k_sreg (r_gq [(10, .p (iV v16.1)), (11, .p (iV v24)), (92, .p (.bool (decide (v24 < 0))))] [] trivial) ?_
           refine kc (decide (v24 < 0)) (fun hc2_24 => ?_) (fun hc2_24 => ?_)
           ·replace h := ite_t hc2_24 h
            refine k_sreg (r_gq [(2, .p (.bool false))] [] trivial) ?_
            refine k_ret ?_
            refine q_r ?_
            obtain rfl := oi h
            exact er [(.p (.bool false), 2)]
           ·replace h := ite_f hc2_24 h
            refine k_skip ?_
            refine q_n ?_
            refine k_seq ?_
            refine k_sreg (r_gq [(95, .p (.bool (v24 != v16.1)))] [] trivial) ?_
            refine kc (v24 != v16.1) (fun hc2_25 => ?_) (fun hc2_25 => ?_)
            ·replace h := ite_t hc2_25 h
             refine k_sreg (r_gq [(2, .p (.bool false))] [] trivial) ?_
             refine k_ret ?_
             refine q_r ?_
             obtain rfl := oi h
             exact er [(.p (.bool false), 2)]
            ·replace h := ite_f hc2_25 h
             refine k_skip ?_
             refine q_n ?_
             refine k_sreg (r_gq [(2, .p (.bool true))] [] trivial) ?_
             refine k_ret ?_
             obtain rfl := oi h
             exact er [(.p (.bool true), 2)]
end Go.PV

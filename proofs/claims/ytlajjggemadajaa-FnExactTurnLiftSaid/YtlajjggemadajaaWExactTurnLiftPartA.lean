/-
  Walks through the functions that the law reaches: each answers as its plain definition does.
  Conditions: none.
-/
import Derived.KernelRfl
import Derived.Test.YtlajjggemadajaaDf
import Derived.Test.YtlajjggemadajaaProg
open Go Go.PV Go.Proofs
set_option linter.all false
namespace Go.PV
attribute [local irreducible] pvC pvL pvD sOp seqQ blockQ Meets MeetsB Ok OkL RegOk agree endQ seqL blockL loopQ endL endLB
theorem Try_mixed : Try.prog.follows .mixedOrders = true := by kernel_rfl
theorem wk_laws_szPointS {a0 : (List Qp)} {a1 : Int}  {r : Int} (h : laws_szPointS a0 a1 = some r) : Meets Try.prog 48 [.d false [.sl none (a0.map ePt)], .v (.int .i64 a1)] { vals := [.p (.int .i64 r)] } := by
 refine Meets_ofL (by kernel_rfl) Try.func48 rfl (by kernel_rfl) (l0 := [(0, .d false [.sl none (a0.map ePt)]), (1, .p (.int .i64 a1))]) (by kernel_rfl) ?_
 unfold laws_szPointS at h
 refine k_sreg (r_go [(0, .d false [.sl none (a0.map ePt)]), (1, .p (.int .i64 a1))] [] [] (by kernel_rfl) trivial) ?_
 refine k_sreg (r_go [(1, .p (.int .i64 (w64 (a1 - (a0.length : Int)))))] [(2, {n := some a0.length})] [(a0.map ePt).length = a0.length] (by kernel_rfl) ⟨(List.length_map ..), trivial⟩) ?_
 refine k_seq ?_
 refine k_sreg (r_go [(1, .p (.int .i64 (w64 (a1 - (a0.length : Int))))), (10, .p (.bool (decide ((w64 (a1 - (a0.length : Int))) < 0))))] [] [] (by kernel_rfl) trivial) ?_
 refine k_cond (b := (decide ((w64 (a1 - (a0.length : Int))) < 0))) (by kernel_rfl) (fun hc2_0 => ?_) (fun hc2_0 => ?_)
 ·replace h := ite_t hc2_0 h
  refine k_sreg (r_go [(4, .p (.int .i64 (-1)))] [] [] (by kernel_rfl) trivial) ?_
  refine k_ret ?_
  refine q_r ?_
  obtain rfl := Option.some.inj h
  exact e_ret (ls := [(.p (.int .i64 (-1)), 4)]) (by kernel_rfl) rfl (by kernel_rfl) rfl
 ·replace h := ite_f hc2_0 h
  refine k_skip ?_
  refine q_n ?_
  refine k_sreg (r_go [(4, .p (.int .i64 (w64 (a1 - (a0.length : Int)))))] [] [] (by kernel_rfl) trivial) ?_
  refine k_ret ?_
  obtain rfl := Option.some.inj h
  exact e_ret (ls := [(.p (.int .i64 (w64 (a1 - (a0.length : Int)))), 4)]) (by kernel_rfl) rfl (by kernel_rfl) rfl
theorem wk_laws_szLift {a0 : (List Qp)} {a1 : Int}  {r : Int} (h : laws_szLift a0 a1 = some r) : Meets Try.prog 13 [.d true [.sl none (a0.map ePt)], .v (.int .i64 a1)] { vals := [.p (.int .i64 r)] } := by
 refine Meets_ofL (by kernel_rfl) Try.func13 rfl (by kernel_rfl) (l0 := [(0, .d true [.sl none (a0.map ePt)]), (1, .p (.int .i64 a1))]) (by kernel_rfl) ?_
 unfold laws_szLift at h
 refine k_sreg (r_go [(1, .p (.int .i64 a1)), (2, .box [.sl none (a0.map ePt)])] [] [] (by kernel_rfl) trivial) ?_
 replace h := bind_some' h
 obtain ⟨v1, hv1, h⟩ := h
 refine k_sreg (r_go [(1, .p (.int .i64 v1))] [(1, {b := some true}), (3, {call := some ([.d false [.sl none (a0.map ePt)], .v (.int .i64 a1)], [.p (.int .i64 v1)], true)})] [frR [.sl none (a0.map ePt)] = true, ([.d false [.sl none (a0.map ePt)], .v (.int .i64 a1)] : List Arg) = [.d false [.sl none (a0.map ePt)], .v (.int .i64 a1)], Meets Try.prog 48 ([.d false [.sl none (a0.map ePt)], .v (.int .i64 a1)] ++ []) { vals := [.p (.int .i64 v1)] }, (!true || List.all [.p (.int .i64 v1)] simpleR) = true] (by kernel_rfl) ⟨(frR1 (frL_enc (fr_P (fr_P fr_I fr_I) (fr_P fr_I fr_I))) rfl), rfl, (wk_laws_szPointS hv1), (bt rfl), trivial⟩) ?_
 refine k_seq ?_
 refine k_sreg (r_go [(1, .p (.int .i64 v1)), (10, .p (.bool (decide (v1 < 0))))] [] [] (by kernel_rfl) trivial) ?_
 refine k_cond (b := (decide (v1 < 0))) (by kernel_rfl) (fun hc2_1 => ?_) (fun hc2_1 => ?_)
 ·replace h := ite_t hc2_1 h
  refine k_sreg (r_go [(4, .p (.int .i64 (-1)))] [] [] (by kernel_rfl) trivial) ?_
  refine k_ret ?_
  refine q_r ?_
  obtain rfl := Option.some.inj h
  exact e_ret (ls := [(.p (.int .i64 (-1)), 4)]) (by kernel_rfl) rfl (by kernel_rfl) rfl
 ·replace h := ite_f hc2_1 h
  refine k_skip ?_
  refine q_n ?_
  refine k_sreg (r_go [(4, .p (.int .i64 v1))] [] [] (by kernel_rfl) trivial) ?_
  refine k_ret ?_
  obtain rfl := Option.some.inj h
  exact e_ret (ls := [(.p (.int .i64 v1), 4)]) (by kernel_rfl) rfl (by kernel_rfl) rfl
theorem wk_laws_toRat {a0 : Qr}  {r : Qr} (h : laws_toRat a0 = some r) : Meets Try.prog 33 [.v (vRt a0)] { vals := [.p (vRt r)] } := by
 refine Meets_ofL (by kernel_rfl) Try.func33 rfl (by kernel_rfl) (l0 := [(0, .p (vRt a0))]) (by kernel_rfl) ?_
 unfold laws_toRat at h
 refine k_sreg (r_go [(1, .box (eRt a0)), (2, .box [.raw (.int .i64 0), .raw (.int .i64 0)])] [] [] (by kernel_rfl) trivial) ?_
 refine k_sreg (r_go [(1, .box (eRt a0)), (2, .box [.raw (.int .i64 0), .raw (.int .i64 0)]), (3, .box [.raw (.int .i64 0), .raw (.int .i64 0)])] [] [] (by kernel_rfl) trivial) ?_
 refine k_sreg (r_go [(1, .box (eRt a0)), (2, .box [.raw (.int .i64 0), .raw (.int .i64 0)]), (3, .box [.raw (.int .i64 a0.1), .raw (.int .i64 0)])] [] [] (by kernel_rfl) trivial) ?_
 refine k_sreg (r_go [(2, .box [.raw (.int .i64 0), .raw (.int .i64 0)]), (3, .box (eRt a0))] [] [] (by kernel_rfl) trivial) ?_
 refine k_sreg (r_go [(2, .box (eRt a0))] [] [] (by kernel_rfl) trivial) ?_
 refine k_ret ?_
 obtain rfl := Option.some.inj h
 exact e_ret (ls := [(.p (vRt a0), 2)]) (by kernel_rfl) rfl (by kernel_rfl) rfl
theorem wk_laws_toPoint {a0 : Qp}  {r : Qp} (h : laws_toPoint a0 = some r) : Meets Try.prog 91 [.v (vPt a0)] { vals := [.p (vPt r)] } := by
 refine Meets_ofL (by kernel_rfl) Try.func91 rfl (by kernel_rfl) (l0 := [(0, .p (vPt a0))]) (by kernel_rfl) ?_
 unfold laws_toPoint at h
 refine k_sreg (r_go [(1, .box (ePt a0)), (2, .box [.raw (.int .i64 0), .raw (.int .i64 0), .raw (.int .i64 0), .raw (.int .i64 0)])] [] [] (by kernel_rfl) trivial) ?_
 refine k_sreg (r_go [(1, .box (ePt a0)), (2, .box [.raw (.int .i64 0), .raw (.int .i64 0), .raw (.int .i64 0), .raw (.int .i64 0)]), (3, .box [.raw (.int .i64 0), .raw (.int .i64 0), .raw (.int .i64 0), .raw (.int .i64 0)])] [] [] (by kernel_rfl) trivial) ?_
 replace h := bind_some' h
 obtain ⟨v1, hv1, h⟩ := h
 refine k_sreg (r_go [(1, .box (ePt a0)), (2, .box [.raw (.int .i64 0), .raw (.int .i64 0), .raw (.int .i64 0), .raw (.int .i64 0)]), (3, .box [.raw (.int .i64 v1.1), .raw (.int .i64 v1.2), .raw (.int .i64 0), .raw (.int .i64 0)])] [(2, {call := some ([.v (vRt a0.1)], [.p (vRt v1)], true)})] [([.v (vRt a0.1)] : List Arg) = [.v (vRt a0.1)], Meets Try.prog 33 ([.v (vRt a0.1)] ++ []) { vals := [.p (vRt v1)] }, (!true || List.all [.p (vRt v1)] simpleR) = true] (by kernel_rfl) ⟨rfl, (wk_laws_toRat hv1), (bt rfl), trivial⟩) ?_
 replace h := bind_some' h
 obtain ⟨v2, hv2, h⟩ := h
 refine k_sreg (r_go [(2, .box [.raw (.int .i64 0), .raw (.int .i64 0), .raw (.int .i64 0), .raw (.int .i64 0)]), (3, .box [.raw (.int .i64 v1.1), .raw (.int .i64 v1.2), .raw (.int .i64 v2.1), .raw (.int .i64 v2.2)])] [(2, {call := some ([.v (vRt a0.2)], [.p (vRt v2)], true)})] [([.v (vRt a0.2)] : List Arg) = [.v (vRt a0.2)], Meets Try.prog 33 ([.v (vRt a0.2)] ++ []) { vals := [.p (vRt v2)] }, (!true || List.all [.p (vRt v2)] simpleR) = true] (by kernel_rfl) ⟨rfl, (wk_laws_toRat hv2), (bt rfl), trivial⟩) ?_
 refine k_sreg (r_go [(2, .box [.raw (.int .i64 v1.1), .raw (.int .i64 v1.2), .raw (.int .i64 v2.1), .raw (.int .i64 v2.2)])] [] [] (by kernel_rfl) trivial) ?_
 refine k_ret ?_
 obtain rfl := Option.some.inj h
 exact e_ret (ls := [(.p (.agg #[.int .i64 v1.1, .int .i64 v1.2, .int .i64 v2.1, .int .i64 v2.2]), 2)]) (by kernel_rfl) rfl (by kernel_rfl) rfl
theorem wk_laws_toPointS {a0 : (List Qp)}  {r : (List Qp)} (h : laws_toPointS a0 = some r) : Meets Try.prog 50 [.d false [.sl none (a0.map ePt)]] { vals := [.ov false [.sl (some 71) (r.map ePt)]] } := by
 refine Meets_ofL (by kernel_rfl) Try.func50 rfl (by kernel_rfl) (l0 := [(0, .d false [.sl none (a0.map ePt)])]) (by kernel_rfl) ?_
 unfold laws_toPointS at h
 refine k_sreg (r_go [(0, .d false [.sl none (a0.map ePt)])] [] [] (by kernel_rfl) trivial) ?_
 replace h := bind_some' h
 obtain ⟨u1, hu1, h⟩ := h
 refine k_sreg (r_go [(0, .d false [.sl none (a0.map ePt)]), (3, .ov false [.sl (some 71) ((List.replicate (Int.toNat (a0.length : Int)) ((0, 0), (0, 0))).map ePt)])] [(1, {n := some a0.length}), (2, {fix := some (7, .ov false [.sl (some 71) ((List.replicate (Int.toNat (a0.length : Int)) ((0, 0), (0, 0))).map ePt)])})] [(a0.map ePt).length = a0.length, (a0.length : Int) = (a0.length : Int), 0 ≤ (a0.length : Int), (a0.length : Int) ≤ 1099511627776, (SV.ov false [.sl (some 71) (List.replicate (Int.toNat (a0.length : Int)) [.raw (.int .i64 0), .raw (.int .i64 0), .raw (.int .i64 0), .raw (.int .i64 0)])] : SV) = .ov false [.sl (some 71) ((List.replicate (Int.toNat (a0.length : Int)) ((0, 0), (0, 0))).map ePt)]] (by kernel_rfl) ⟨(List.length_map ..), rfl, (guardO_some hu1).1, (guardO_some hu1).2, (congrArg (fun z => SV.ov false [.sl (some 71) z]) (rep_fix ePt ((0, 0), (0, 0)))), trivial⟩) ?_
 refine k_join (J := fun (x : (List Qp)) => [(3, .ov false [.sl (some 71) (x.map ePt)])]) (K := fun x => laws_toPointS_k1 x = some r) (fun x2 h => ?_) ?_
 ·unfold laws_toPointS_k1 at h
  refine k_sreg (r_go [(2, .ov false [.sl (some 71) (x2.map ePt)])] [] [] (by kernel_rfl) trivial) ?_
  refine k_ret ?_
  obtain rfl := Option.some.inj h
  exact e_ret (ls := [(.ov false [.sl (some 71) (x2.map ePt)], 2)]) (by kernel_rfl) rfl (by kernel_rfl) rfl
 ·refine k_sreg (r_go [(0, .d false [.sl none (a0.map ePt)]), (3, .ov false [.sl (some 71) ((List.replicate (Int.toNat (a0.length : Int)) ((0, 0), (0, 0))).map ePt)]), (4, .p (.int .i64 0))] [] [] (by kernel_rfl) trivial) ?_
  refine k_block ?_
  obtain ⟨y4, hl_x3, hk_x3⟩ := bind_some' h
  clear h
  refine k_loop (J := fun (x : ((List Qp) × Int)) => [(0, .d false [.sl none (a0.map ePt)]), (3, .ov false [.sl (some 71) (x.1.map ePt)]), (4, .p (.int .i64 x.2))]) hl_x3 (wk_of (by kernel_rfl) (by kernel_rfl)) (fun x3 o_x3 h hy_x3 => ?_)
  unfold laws_toPointS_b1 at h
  refine k_seq ?_
  refine k_sreg (r_go [(0, .d false [.sl none (a0.map ePt)]), (3, .ov false [.sl (some 71) (x3.1.map ePt)]), (4, .p (.int .i64 x3.2)), (11, .p (.bool (decide (x3.2 < (a0.length : Int)))))] [(2, {n := some a0.length})] [(a0.map ePt).length = a0.length] (by kernel_rfl) ⟨(List.length_map ..), trivial⟩) ?_
  refine k_cond (b := (decide (x3.2 < (a0.length : Int)))) (by kernel_rfl) (fun hc5_4 => ?_) (fun hc5_4 => ?_)
  ·replace h := ite_t hc5_4 h
   refine k_skip ?_
   refine q_n ?_
   refine k_seq ?_
   refine k_block ?_
   replace h := bind_some' h
   obtain ⟨v6, hv6, h⟩ := h
   replace h := bind_some' h
   obtain ⟨v7, hv7, h⟩ := h
   replace h := bind_some' h
   obtain ⟨v8, hv8, h⟩ := h
   refine k_reg (r_go [(0, .d false [.sl none (a0.map ePt)]), (3, .ov false [.sl (some 71) ((x3.1.set (Int.toNat x3.2) v7).map ePt)]), (4, .p (.int .i64 x3.2))] [(4, {row := some (ePt v6)}), (6, {call := some ([.v (vPt v6)], [.p (vPt v7)], true)}), (7, {row := some (ePt v8)}), (8, {row := some (ePt v8), fix := some (3, .ov false [.sl (some 71) ((x3.1.set (Int.toNat x3.2) v7).map ePt)])})] [0 ≤ x3.2, (a0.map ePt)[(Int.toNat x3.2)]? = some (ePt v6), ([.v (vPt v6)] : List Arg) = [.v (vPt v6)], Meets Try.prog 91 ([.v (vPt v6)] ++ []) { vals := [.p (vPt v7)] }, (!true || List.all [.p (vPt v7)] simpleR) = true, 0 ≤ x3.2, (x3.1.map ePt)[(Int.toNat x3.2)]? = some (ePt v8), getRow [[.sl (some 71) (x3.1.map ePt)]] [(0, 0), ((Int.toNat x3.2), 0)] = some (ePt v8), (SV.ov false [.sl (some 71) (setL (x3.1.map ePt) [((Int.toNat x3.2), 0)] (ePt v7))] : SV) = .ov false [.sl (some 71) ((x3.1.set (Int.toNat x3.2) v7).map ePt)]] (by kernel_rfl) ⟨(idxO_some hv6).1, (map_get ePt (idxO_some hv6).2), rfl, (wk_laws_toPoint hv7), (bt rfl), (idxO_some hv8).1, (map_get ePt (idxO_some hv8).2), ((gr0 rfl).trans (gre (map_get ePt (idxO_some hv8).2))), (congrArg (fun z => SV.ov false [.sl (some 71) z]) (set1 (f := ePt) (y := v7) (idxO_some hv8).2 rfl)), trivial⟩) ?_
   refine b_n ?_
   refine q_n ?_
   refine k_reg (r_go [(0, .d false [.sl none (a0.map ePt)]), (3, .ov false [.sl (some 71) ((x3.1.set (Int.toNat x3.2) v7).map ePt)]), (4, .p (.int .i64 (w64 (x3.2 + 1))))] [] [] (by kernel_rfl) trivial) ?_
   exact lq_n ((x3.1.set (Int.toNat x3.2) v7), (w64 (x3.2 + 1))) (Option.some.inj h).symm (wk_of (by kernel_rfl) (by kernel_rfl))
  ·replace h := ite_f hc5_4 h
   refine k_exit ?_
   refine q_x ?_
   refine lq_x ?_
   refine b_x ?_
   have hyy := hy_x3 _ (Option.some.inj h).symm
   subst hyy
   have h := hk_x3
   refine q_n ?_
   exact ⟨x3.1, h, (wk_of (by kernel_rfl) (by kernel_rfl))⟩
theorem wk_laws_toLift {a0 : (List Qp)}  {r : (List Qp)} (h : laws_toLift a0 = some r) : Meets Try.prog 15 [.d true [.sl none (a0.map ePt)]] { vals := [.ov true [.sl (some 71) (r.map ePt)]] } := by
 refine Meets_ofL (by kernel_rfl) Try.func15 rfl (by kernel_rfl) (l0 := [(0, .d true [.sl none (a0.map ePt)])]) (by kernel_rfl) ?_
 unfold laws_toLift at h
 refine k_sreg (r_go [(1, .box [.sl none (a0.map ePt)]), (2, .box [.sl (some 71) []])] [] [] (by kernel_rfl) trivial) ?_
 refine k_sreg (r_go [(1, .box [.sl none (a0.map ePt)]), (2, .box [.sl (some 71) []]), (3, .box [.sl (some 71) []])] [] [] (by kernel_rfl) trivial) ?_
 replace h := bind_some' h
 obtain ⟨v1, hv1, h⟩ := h
 refine k_sreg (r_go [(2, .box [.sl (some 71) []]), (3, .box [.sl (some 71) (v1.map ePt)])] [(1, {b := some true}), (2, {call := some ([.d false [.sl none (a0.map ePt)]], [.ov false [.sl (some 71) (v1.map ePt)]], true)})] [frR [.sl none (a0.map ePt)] = true, ([.d false [.sl none (a0.map ePt)]] : List Arg) = [.d false [.sl none (a0.map ePt)]], Meets Try.prog 50 ([.d false [.sl none (a0.map ePt)]] ++ []) { vals := [.ov false [.sl (some 71) (v1.map ePt)]] }, (!true || List.all [.ov false [.sl (some 71) (v1.map ePt)]] simpleR) = true] (by kernel_rfl) ⟨(frR1 (frL_enc (fr_P (fr_P fr_I fr_I) (fr_P fr_I fr_I))) rfl), rfl, (wk_laws_toPointS hv1), (bt (sa_o (wnR1 (wnL_enc (wn_P (wn_P wn_I wn_I) (wn_P wn_I wn_I))) rfl) rfl)), trivial⟩) ?_
 refine k_sreg (r_go [(2, .box [.sl (some 71) (v1.map ePt)])] [] [frR [.sl (some 71) (v1.map ePt)] = false] (by kernel_rfl) ⟨rfl, trivial⟩) ?_
 refine k_ret ?_
 obtain rfl := Option.some.inj h
 exact e_ret (ls := [(.ov true [.sl (some 71) (v1.map ePt)], 2)]) (by kernel_rfl) rfl (by kernel_rfl) rfl
theorem wk_spec_l1In {a0 : Int} {a1 : Int} {a2 : Int}  {r : Bool} (h : spec_l1In a0 a1 a2 = some r) : Meets Try.prog 87 [.v (.int .i64 a0), .v (.int .i64 a1), .v (.int .i64 a2)] { vals := [.p (.bool r)] } := by
 refine Meets_ofL (by kernel_rfl) Try.func87 rfl (by kernel_rfl) (l0 := [(0, .p (.int .i64 a0)), (1, .p (.int .i64 a1)), (2, .p (.int .i64 a2))]) (by kernel_rfl) ?_
 unfold spec_l1In at h
 refine k_sreg (r_go [(0, .p (.int .i64 a0)), (1, .p (.int .i64 a1)), (2, .p (.int .i64 a2))] [] [] (by kernel_rfl) trivial) ?_
 refine k_sreg (l1 := [(6, .p (.bool ((decide (a0 ≥ a1)) && (decide (a0 ≤ a2)))))]) ?_ ?_
 ·rcases Bool.eq_false_or_eq_true (decide (a0 ≥ a1)) with ha0 | ha0
  ·exact RegOk.of_eq (l2 := [(6, .p (.bool ((decide (a0 ≥ a1)) && (decide (a0 ≤ a2)))))]) (r_go [(6, .p (.bool (decide (a0 ≤ a2))))] [(4, {g := some true}), (5, {g := some true}), (6, {g := some true}), (7, {b := some true})] [(decide (a0 ≥ a1)) = true, (decide (a0 ≥ a1)) = true, (decide (a0 ≥ a1)) = true, (decide (a0 ≥ a1)) = true] (by kernel_rfl) ⟨ha0, ha0, ha0, ha0, trivial⟩) (by simp [ha0])
  ·exact RegOk.of_eq (l2 := [(6, .p (.bool ((decide (a0 ≥ a1)) && (decide (a0 ≤ a2)))))]) (r_go [(6, .p (.bool false))] [(4, {g := some false}), (5, {g := some false}), (6, {g := some false}), (7, {b := some false})] [(decide (a0 ≥ a1)) = false, (decide (a0 ≥ a1)) = false, (decide (a0 ≥ a1)) = false, (decide (a0 ≥ a1)) = false] (by kernel_rfl) ⟨ha0, ha0, ha0, ha0, trivial⟩) (by simp [ha0])
 ·refine k_ret ?_
  obtain rfl := Option.some.inj h
  exact e_ret (ls := [(.p (.bool ((decide (a0 ≥ a1)) && (decide (a0 ≤ a2)))), 6)]) (by kernel_rfl) rfl (by kernel_rfl) rfl
theorem wk_spec_l1Most {a0 : Int} {a1 : Int}  {r : Int} (h : spec_l1Most a0 a1 = some r) : Meets Try.prog 130 [.v (.int .i64 a0), .v (.int .i64 a1)] { vals := [.p (.int .i64 r)] } := by
 refine Meets_ofL (by kernel_rfl) Try.func130 rfl (by kernel_rfl) (l0 := [(0, .p (.int .i64 a0)), (1, .p (.int .i64 a1))]) (by kernel_rfl) ?_
 unfold spec_l1Most at h
 refine k_sreg (r_go [(0, .p (.int .i64 a0)), (1, .p (.int .i64 a1))] [] [] (by kernel_rfl) trivial) ?_
 refine k_seq ?_
 refine k_sreg (r_go [(0, .p (.int .i64 a0)), (1, .p (.int .i64 a1)), (7, .p (.bool (decide (a0 > a1))))] [] [] (by kernel_rfl) trivial) ?_
 refine k_cond (b := (decide (a0 > a1))) (by kernel_rfl) (fun hc2_0 => ?_) (fun hc2_0 => ?_)
 ·replace h := ite_t hc2_0 h
  refine k_sreg (r_go [(4, .p (.int .i64 a0))] [] [] (by kernel_rfl) trivial) ?_
  refine k_ret ?_
  refine q_r ?_
  obtain rfl := Option.some.inj h
  exact e_ret (ls := [(.p (.int .i64 a0), 4)]) (by kernel_rfl) rfl (by kernel_rfl) rfl
 ·replace h := ite_f hc2_0 h
  refine k_skip ?_
  refine q_n ?_
  refine k_sreg (r_go [(4, .p (.int .i64 a1))] [] [] (by kernel_rfl) trivial) ?_
  refine k_ret ?_
  obtain rfl := Option.some.inj h
  exact e_ret (ls := [(.p (.int .i64 a1), 4)]) (by kernel_rfl) rfl (by kernel_rfl) rfl
theorem wk_spec_l1Abs {a0 : Int}  {r : Int} (h : spec_l1Abs a0 = some r) : Meets Try.prog 112 [.v (.int .i64 a0)] { vals := [.p (.int .i64 r)] } := by
 refine Meets_ofL (by kernel_rfl) Try.func112 rfl (by kernel_rfl) (l0 := [(0, .p (.int .i64 a0))]) (by kernel_rfl) ?_
 unfold spec_l1Abs at h
 refine k_sreg (r_go [(0, .p (.int .i64 a0))] [] [] (by kernel_rfl) trivial) ?_
 replace h := bind_some' h
 obtain ⟨v1, hv1, h⟩ := h
 refine k_sreg (r_go [(2, .p (.int .i64 v1))] [(3, {call := some ([.v (.int .i64 a0), .v (.int .i64 (w64 (0 - a0)))], [.p (.int .i64 v1)], true)})] [([.v (.int .i64 a0), .v (.int .i64 (w64 (0 - a0)))] : List Arg) = [.v (.int .i64 a0), .v (.int .i64 (w64 (0 - a0)))], Meets Try.prog 130 ([.v (.int .i64 a0), .v (.int .i64 (w64 (0 - a0)))] ++ []) { vals := [.p (.int .i64 v1)] }, (!true || List.all [.p (.int .i64 v1)] simpleR) = true] (by kernel_rfl) ⟨rfl, (wk_spec_l1Most hv1), (bt rfl), trivial⟩) ?_
 refine k_ret ?_
 obtain rfl := Option.some.inj h
 exact e_ret (ls := [(.p (.int .i64 v1), 2)]) (by kernel_rfl) rfl (by kernel_rfl) rfl
theorem wk_spec_raCommon {a0 : Int} {a1 : Int}  {r : Int} (h : spec_raCommon a0 a1 = some r) : Meets Try.prog 111 [.v (.int .i64 a0), .v (.int .i64 a1)] { vals := [.p (.int .i64 r)] } := by
 refine Meets_ofL (by kernel_rfl) Try.func111 rfl (by kernel_rfl) (l0 := [(0, .p (.int .i64 a0)), (1, .p (.int .i64 a1))]) (by kernel_rfl) ?_
 unfold spec_raCommon at h
 refine k_sreg (r_go [(0, .p (.int .i64 a0)), (1, .p (.int .i64 a1))] [] [] (by kernel_rfl) trivial) ?_
 refine k_join (J := fun (x : Int) => [(0, .p (.int .i64 x))]) (K := fun x => spec_raCommon_k1 x = some r) (fun x1 h => ?_) ?_
 ·unfold spec_raCommon_k1 at h
  refine k_sreg (r_go [(4, .p (.int .i64 x1))] [] [] (by kernel_rfl) trivial) ?_
  refine k_ret ?_
  obtain rfl := Option.some.inj h
  exact e_ret (ls := [(.p (.int .i64 x1), 4)]) (by kernel_rfl) rfl (by kernel_rfl) rfl
 ·refine k_block ?_
  obtain ⟨y3, hl_x2, hk_x2⟩ := bind_some' h
  clear h
  refine k_loop (J := fun (x : Qr) => [(0, .p (.int .i64 x.1)), (1, .p (.int .i64 x.2))]) hl_x2 (wk_of (by kernel_rfl) (by kernel_rfl)) (fun x2 o_x2 h hy_x2 => ?_)
  unfold spec_raCommon_b1 at h
  refine k_seq ?_
  refine k_sreg (r_go [(0, .p (.int .i64 x2.1)), (1, .p (.int .i64 x2.2)), (7, .p (.bool (decide (x2.2 > 0))))] [] [] (by kernel_rfl) trivial) ?_
  refine k_cond (b := (decide (x2.2 > 0))) (by kernel_rfl) (fun hc5_3 => ?_) (fun hc5_3 => ?_)
  ·replace h := ite_t hc5_3 h
   refine k_skip ?_
   refine q_n ?_
   refine k_block ?_
   replace h := bind_some' h
   obtain ⟨u5, hu5, h⟩ := h
   refine k_sreg (r_go [(1, .p (.int .i64 x2.2)), (5, .p (.int .i64 (Int.tmod x2.1 x2.2)))] [] [x2.2 ≠ (0 : Int)] (by kernel_rfl) ⟨(guardO_some hu5), trivial⟩) ?_
   refine k_sreg (r_go [(0, .p (.int .i64 x2.2)), (5, .p (.int .i64 (Int.tmod x2.1 x2.2)))] [] [] (by kernel_rfl) trivial) ?_
   refine k_reg (r_go [(0, .p (.int .i64 x2.2)), (1, .p (.int .i64 (Int.tmod x2.1 x2.2)))] [] [] (by kernel_rfl) trivial) ?_
   refine b_n ?_
   exact lq_n (x2.2, (Int.tmod x2.1 x2.2)) (Option.some.inj h).symm (wk_of (by kernel_rfl) (by kernel_rfl))
  ·replace h := ite_f hc5_3 h
   refine k_exit ?_
   refine q_x ?_
   refine lq_x ?_
   refine b_x ?_
   have hyy := hy_x2 _ (Option.some.inj h).symm
   subst hyy
   have h := hk_x2
   refine q_n ?_
   exact ⟨x2.1, h, (wk_of (by kernel_rfl) (by kernel_rfl))⟩
theorem wk_spec_raGood {a0 : Qr}  {r : Bool} (h : spec_raGood a0 = some r) : Meets Try.prog 71 [.v (vRt a0)] { vals := [.p (.bool r)] } := by
 refine Meets_ofL (by kernel_rfl) Try.func71 rfl (by kernel_rfl) (l0 := [(0, .p (vRt a0))]) (by kernel_rfl) ?_
 unfold spec_raGood at h
 refine k_sreg (r_go [(1, .box (eRt a0))] [] [] (by kernel_rfl) trivial) ?_
 replace h := bind_some' h
 obtain ⟨v1, hv1, h⟩ := h
 replace h := bind_some' h
 obtain ⟨w5, hw5, h⟩ := h
 refine k_sreg (l1 := [(2, .p (.bool w5))]) ?_ ?_
 ·clear h
  rcases Bool.eq_false_or_eq_true v1 with ha0 | ha0
  ·replace hw5 := ite_t ha0 hw5
   replace hw5 := bind_some' hw5
   obtain ⟨v2, hv2, hw5⟩ := hw5
   rcases Bool.eq_false_or_eq_true v2 with ha1 | ha1
   ·replace hw5 := ite_t ha1 hw5
    replace hw5 := bind_some' hw5
    obtain ⟨v3, hv3, hw5⟩ := hw5
    replace hw5 := bind_some' hw5
    obtain ⟨v4, hv4, hw5⟩ := hw5
    have hw5 := Option.some.inj hw5
    subst hw5
    exact (r_draw Try_mixed 14 [] [(2, .p (.bool (v4 == 1)))] [(2, {call := some ([.v (.int .i64 a0.2), .v (.int .i64 1), .v (.int .i64 1000000000)], [.p (.bool v1)], true)}), (4, {g := some true}), (5, {g := some true}), (6, {g := some true, call := some ([.v (.int .i64 a0.1), .v (.int .i64 (-1000000000)), .v (.int .i64 1000000000)], [.p (.bool v2)], true)}), (7, {b := some true}), (9, {g := some true}), (10, {g := some true}), (11, {g := some true, call := some ([.v (.int .i64 a0.1)], [.p (.int .i64 v3)], true)}), (12, {g := some true}), (13, {g := some true}), (14, {g := some true, call := some ([.v (.int .i64 v3), .v (.int .i64 a0.2)], [.p (.int .i64 v4)], true)}), (15, {g := some true}), (16, {b := some true})] [([.v (.int .i64 a0.2), .v (.int .i64 1), .v (.int .i64 1000000000)] : List Arg) = [.v (.int .i64 a0.2), .v (.int .i64 1), .v (.int .i64 1000000000)], Meets Try.prog 87 ([.v (.int .i64 a0.2), .v (.int .i64 1), .v (.int .i64 1000000000)] ++ []) { vals := [.p (.bool v1)] }, (!true || List.all [.p (.bool v1)] simpleR) = true, v1 = true, v1 = true, v1 = true, ([.v (.int .i64 a0.1), .v (.int .i64 (-1000000000)), .v (.int .i64 1000000000)] : List Arg) = [.v (.int .i64 a0.1), .v (.int .i64 (-1000000000)), .v (.int .i64 1000000000)], Meets Try.prog 87 ([.v (.int .i64 a0.1), .v (.int .i64 (-1000000000)), .v (.int .i64 1000000000)] ++ []) { vals := [.p (.bool v2)] }, (!true || List.all [.p (.bool v2)] simpleR) = true, v1 = true, v2 = true, v2 = true, v2 = true, ([.v (.int .i64 a0.1)] : List Arg) = [.v (.int .i64 a0.1)], Meets Try.prog 112 ([.v (.int .i64 a0.1)] ++ []) { vals := [.p (.int .i64 v3)] }, (!true || List.all [.p (.int .i64 v3)] simpleR) = true, v2 = true, v2 = true, v2 = true, ([.v (.int .i64 v3), .v (.int .i64 a0.2)] : List Arg) = [.v (.int .i64 v3), .v (.int .i64 a0.2)], Meets Try.prog 111 ([.v (.int .i64 v3), .v (.int .i64 a0.2)] ++ []) { vals := [.p (.int .i64 v4)] }, (!true || List.all [.p (.int .i64 v4)] simpleR) = true, v2 = true, v2 = true] (by kernel_rfl) ⟨rfl, (wk_spec_l1In hv1), (bt rfl), ha0, ha0, ha0, rfl, (wk_spec_l1In hv2), (bt rfl), ha0, ha1, ha1, ha1, rfl, (wk_spec_l1Abs hv3), (bt rfl), ha1, ha1, ha1, rfl, (wk_spec_raCommon hv4), (bt rfl), ha1, ha1, trivial⟩)
   ·replace hw5 := ite_f ha1 hw5
    have hw5 := Option.some.inj hw5
    subst hw5
    exact (r_draw Try_mixed 14 [] [(2, .p (.bool false))] [(2, {call := some ([.v (.int .i64 a0.2), .v (.int .i64 1), .v (.int .i64 1000000000)], [.p (.bool v1)], true)}), (4, {g := some true}), (5, {g := some true}), (6, {g := some true, call := some ([.v (.int .i64 a0.1), .v (.int .i64 (-1000000000)), .v (.int .i64 1000000000)], [.p (.bool v2)], true)}), (7, {b := some true}), (9, {g := some false}), (10, {g := some false}), (11, {g := some false}), (12, {g := some false}), (13, {g := some false}), (14, {g := some false}), (15, {g := some false}), (16, {b := some false})] [([.v (.int .i64 a0.2), .v (.int .i64 1), .v (.int .i64 1000000000)] : List Arg) = [.v (.int .i64 a0.2), .v (.int .i64 1), .v (.int .i64 1000000000)], Meets Try.prog 87 ([.v (.int .i64 a0.2), .v (.int .i64 1), .v (.int .i64 1000000000)] ++ []) { vals := [.p (.bool v1)] }, (!true || List.all [.p (.bool v1)] simpleR) = true, v1 = true, v1 = true, v1 = true, ([.v (.int .i64 a0.1), .v (.int .i64 (-1000000000)), .v (.int .i64 1000000000)] : List Arg) = [.v (.int .i64 a0.1), .v (.int .i64 (-1000000000)), .v (.int .i64 1000000000)], Meets Try.prog 87 ([.v (.int .i64 a0.1), .v (.int .i64 (-1000000000)), .v (.int .i64 1000000000)] ++ []) { vals := [.p (.bool v2)] }, (!true || List.all [.p (.bool v2)] simpleR) = true, v1 = true, v2 = false, v2 = false, v2 = false, v2 = false, v2 = false, v2 = false, v2 = false, v2 = false] (by kernel_rfl) ⟨rfl, (wk_spec_l1In hv1), (bt rfl), ha0, ha0, ha0, rfl, (wk_spec_l1In hv2), (bt rfl), ha0, ha1, ha1, ha1, ha1, ha1, ha1, ha1, ha1, trivial⟩)
  ·replace hw5 := ite_f ha0 hw5
   have hw5 := Option.some.inj hw5
   subst hw5
   exact (r_draw Try_mixed 14 [] [(2, .p (.bool false))] [(2, {call := some ([.v (.int .i64 a0.2), .v (.int .i64 1), .v (.int .i64 1000000000)], [.p (.bool v1)], true)}), (4, {g := some false}), (5, {g := some false}), (6, {g := some false}), (7, {b := some false}), (9, {g := some false}), (10, {g := some false}), (11, {g := some false}), (12, {g := some false}), (13, {g := some false}), (14, {g := some false}), (15, {g := some false}), (16, {b := some false})] [([.v (.int .i64 a0.2), .v (.int .i64 1), .v (.int .i64 1000000000)] : List Arg) = [.v (.int .i64 a0.2), .v (.int .i64 1), .v (.int .i64 1000000000)], Meets Try.prog 87 ([.v (.int .i64 a0.2), .v (.int .i64 1), .v (.int .i64 1000000000)] ++ []) { vals := [.p (.bool v1)] }, (!true || List.all [.p (.bool v1)] simpleR) = true, v1 = false, v1 = false, v1 = false, v1 = false, false = false, false = false, false = false, false = false, false = false, false = false, false = false, false = false] (by kernel_rfl) ⟨rfl, (wk_spec_l1In hv1), (bt rfl), ha0, ha0, ha0, ha0, rfl, rfl, rfl, rfl, rfl, rfl, rfl, rfl, trivial⟩)
 ·refine k_ret ?_
  obtain rfl := Option.some.inj h
  exact e_ret (ls := [(.p (.bool w5), 2)]) (by kernel_rfl) rfl (by kernel_rfl) rfl
theorem wk_spec_raUnit {a0 : Qr}  {r : Bool} (h : spec_raUnit a0 = some r) : Meets Try.prog 125 [.v (vRt a0)] { vals := [.p (.bool r)] } := by
 refine Meets_ofL (by kernel_rfl) Try.func125 rfl (by kernel_rfl) (l0 := [(0, .p (vRt a0))]) (by kernel_rfl) ?_
 unfold spec_raUnit at h
 refine k_sreg (r_go [(1, .box (eRt a0))] [] [] (by kernel_rfl) trivial) ?_
 replace h := bind_some' h
 obtain ⟨v1, hv1, h⟩ := h
 replace h := bind_some' h
 obtain ⟨w3, hw3, h⟩ := h
 refine k_sreg (l1 := [(2, .p (.bool w3))]) ?_ ?_
 ·clear h
  rcases Bool.eq_false_or_eq_true v1 with ha0 | ha0
  ·replace hw3 := ite_t ha0 hw3
   replace hw3 := bind_some' hw3
   obtain ⟨v2, hv2, hw3⟩ := hw3
   have hw3 := Option.some.inj hw3
   subst hw3
   exact (r_go [(2, .p (.bool v2))] [(1, {call := some ([.v (vRt a0)], [.p (.bool v1)], true)}), (3, {g := some true}), (4, {g := some true}), (5, {g := some true}), (6, {g := some true}), (7, {g := some true, call := some ([.v (.int .i64 a0.1), .v (.int .i64 0), .v (.int .i64 a0.2)], [.p (.bool v2)], true)}), (8, {b := some true})] [([.v (vRt a0)] : List Arg) = [.v (vRt a0)], Meets Try.prog 71 ([.v (vRt a0)] ++ []) { vals := [.p (.bool v1)] }, (!true || List.all [.p (.bool v1)] simpleR) = true, v1 = true, v1 = true, v1 = true, v1 = true, v1 = true, ([.v (.int .i64 a0.1), .v (.int .i64 0), .v (.int .i64 a0.2)] : List Arg) = [.v (.int .i64 a0.1), .v (.int .i64 0), .v (.int .i64 a0.2)], Meets Try.prog 87 ([.v (.int .i64 a0.1), .v (.int .i64 0), .v (.int .i64 a0.2)] ++ []) { vals := [.p (.bool v2)] }, (!true || List.all [.p (.bool v2)] simpleR) = true, v1 = true] (by kernel_rfl) ⟨rfl, (wk_spec_raGood hv1), (bt rfl), ha0, ha0, ha0, ha0, ha0, rfl, (wk_spec_l1In hv2), (bt rfl), ha0, trivial⟩)
  ·replace hw3 := ite_f ha0 hw3
   have hw3 := Option.some.inj hw3
   subst hw3
   exact (r_go [(2, .p (.bool false))] [(1, {call := some ([.v (vRt a0)], [.p (.bool v1)], true)}), (3, {g := some false}), (4, {g := some false}), (5, {g := some false}), (6, {g := some false}), (7, {g := some false}), (8, {b := some false})] [([.v (vRt a0)] : List Arg) = [.v (vRt a0)], Meets Try.prog 71 ([.v (vRt a0)] ++ []) { vals := [.p (.bool v1)] }, (!true || List.all [.p (.bool v1)] simpleR) = true, v1 = false, v1 = false, v1 = false, v1 = false, v1 = false, v1 = false] (by kernel_rfl) ⟨rfl, (wk_spec_raGood hv1), (bt rfl), ha0, ha0, ha0, ha0, ha0, ha0, trivial⟩)
 ·refine k_ret ?_
  obtain rfl := Option.some.inj h
  exact e_ret (ls := [(.p (.bool w3), 2)]) (by kernel_rfl) rfl (by kernel_rfl) rfl
theorem wk_spec_imCoord {a0 : Qr}  {r : Bool} (h : spec_imCoord a0 = some r) : Meets Try.prog 88 [.v (vRt a0)] { vals := [.p (.bool r)] } := by
 refine Meets_ofL (by kernel_rfl) Try.func88 rfl (by kernel_rfl) (l0 := [(0, .p (vRt a0))]) (by kernel_rfl) ?_
 unfold spec_imCoord at h
 refine k_sreg (r_go [(1, .box (eRt a0))] [] [] (by kernel_rfl) trivial) ?_
 replace h := bind_some' h
 obtain ⟨v1, hv1, h⟩ := h
 refine k_sreg (l1 := [(2, .p (.bool (v1 && (decide (a0.2 ≤ 100)))))]) ?_ ?_
 ·rcases Bool.eq_false_or_eq_true v1 with ha0 | ha0
  ·exact RegOk.of_eq (l2 := [(2, .p (.bool (v1 && (decide (a0.2 ≤ 100)))))]) (r_go [(2, .p (.bool (decide (a0.2 ≤ 100))))] [(1, {call := some ([.v (vRt a0)], [.p (.bool v1)], true)}), (3, {g := some true}), (4, {g := some true}), (5, {g := some true}), (6, {b := some true})] [([.v (vRt a0)] : List Arg) = [.v (vRt a0)], Meets Try.prog 125 ([.v (vRt a0)] ++ []) { vals := [.p (.bool v1)] }, (!true || List.all [.p (.bool v1)] simpleR) = true, v1 = true, v1 = true, v1 = true, v1 = true] (by kernel_rfl) ⟨rfl, (wk_spec_raUnit hv1), (bt rfl), ha0, ha0, ha0, ha0, trivial⟩) (by simp [ha0])
  ·exact RegOk.of_eq (l2 := [(2, .p (.bool (v1 && (decide (a0.2 ≤ 100)))))]) (r_go [(2, .p (.bool false))] [(1, {call := some ([.v (vRt a0)], [.p (.bool v1)], true)}), (3, {g := some false}), (4, {g := some false}), (5, {g := some false}), (6, {b := some false})] [([.v (vRt a0)] : List Arg) = [.v (vRt a0)], Meets Try.prog 125 ([.v (vRt a0)] ++ []) { vals := [.p (.bool v1)] }, (!true || List.all [.p (.bool v1)] simpleR) = true, v1 = false, v1 = false, v1 = false, v1 = false] (by kernel_rfl) ⟨rfl, (wk_spec_raUnit hv1), (bt rfl), ha0, ha0, ha0, ha0, trivial⟩) (by simp [ha0])
 ·refine k_ret ?_
  obtain rfl := Option.some.inj h
  exact e_ret (ls := [(.p (.bool (v1 && (decide (a0.2 ≤ 100)))), 2)]) (by kernel_rfl) rfl (by kernel_rfl) rfl
theorem wk_spec_l1Sign {a0 : Int}  {r : Int} (h : spec_l1Sign a0 = some r) : Meets Try.prog 122 [.v (.int .i64 a0)] { vals := [.p (.int .i64 r)] } := by
 refine Meets_ofL (by kernel_rfl) Try.func122 rfl (by kernel_rfl) (l0 := [(0, .p (.int .i64 a0))]) (by kernel_rfl) ?_
 unfold spec_l1Sign at h
 refine k_sreg (r_go [(0, .p (.int .i64 a0))] [] [] (by kernel_rfl) trivial) ?_
 refine k_seq ?_
 refine k_block ?_
 refine k_sreg (r_go [(0, .p (.int .i64 a0)), (3, .p (.bool (decide (a0 > 0))))] [] [] (by kernel_rfl) trivial) ?_
 refine k_cond (b := (decide (a0 > 0))) (by kernel_rfl) (fun hc3_0 => ?_) (fun hc3_0 => ?_)
 ·replace h := ite_t hc3_0 h
  refine k_sreg (r_go [(2, .p (.int .i64 1))] [] [] (by kernel_rfl) trivial) ?_
  refine k_ret ?_
  refine b_r ?_
  refine q_r ?_
  obtain rfl := Option.some.inj h
  exact e_ret (ls := [(.p (.int .i64 1), 2)]) (by kernel_rfl) rfl (by kernel_rfl) rfl
 ·replace h := ite_f hc3_0 h
  refine k_sreg (r_go [(6, .p (.bool (decide (a0 < 0))))] [] [] (by kernel_rfl) trivial) ?_
  refine k_cond (b := (decide (a0 < 0))) (by kernel_rfl) (fun hc3_1 => ?_) (fun hc3_1 => ?_)
  ·replace h := ite_t hc3_1 h
   refine k_sreg (r_go [(2, .p (.int .i64 (-1)))] [] [] (by kernel_rfl) trivial) ?_
   refine k_ret ?_
   refine b_r ?_
   refine q_r ?_
   obtain rfl := Option.some.inj h
   exact e_ret (ls := [(.p (.int .i64 (-1)), 2)]) (by kernel_rfl) rfl (by kernel_rfl) rfl
  ·replace h := ite_f hc3_1 h
   refine k_skip ?_
   refine b_n ?_
   refine q_n ?_
   refine k_sreg (r_go [(2, .p (.int .i64 0))] [] [] (by kernel_rfl) trivial) ?_
   refine k_ret ?_
   obtain rfl := Option.some.inj h
   exact e_ret (ls := [(.p (.int .i64 0), 2)]) (by kernel_rfl) rfl (by kernel_rfl) rfl
theorem wk_spec_raCmp {a0 : Qr} {a1 : Qr}  {r : Int} (h : spec_raCmp a0 a1 = some r) : Meets Try.prog 81 [.v (vRt a0), .v (vRt a1)] { vals := [.p (.int .i64 r)] } := by
 refine Meets_ofL (by kernel_rfl) Try.func81 rfl (by kernel_rfl) (l0 := [(0, .p (vRt a0)), (1, .p (vRt a1))]) (by kernel_rfl) ?_
 unfold spec_raCmp at h
 refine k_sreg (r_go [(2, .box (eRt a0)), (3, .box (eRt a1))] [] [] (by kernel_rfl) trivial) ?_
 replace h := bind_some' h
 obtain ⟨v1, hv1, h⟩ := h
 refine k_sreg (r_go [(4, .p (.int .i64 v1))] [(11, {call := some ([.v (.int .i64 (w64 ((w64 (a0.1 * a1.2)) - (w64 (a1.1 * a0.2)))))], [.p (.int .i64 v1)], true)})] [([.v (.int .i64 (w64 ((w64 (a0.1 * a1.2)) - (w64 (a1.1 * a0.2)))))] : List Arg) = [.v (.int .i64 (w64 ((w64 (a0.1 * a1.2)) - (w64 (a1.1 * a0.2)))))], Meets Try.prog 122 ([.v (.int .i64 (w64 ((w64 (a0.1 * a1.2)) - (w64 (a1.1 * a0.2)))))] ++ []) { vals := [.p (.int .i64 v1)] }, (!true || List.all [.p (.int .i64 v1)] simpleR) = true] (by kernel_rfl) ⟨rfl, (wk_spec_l1Sign hv1), (bt rfl), trivial⟩) ?_
 refine k_ret ?_
 obtain rfl := Option.some.inj h
 exact e_ret (ls := [(.p (.int .i64 v1), 4)]) (by kernel_rfl) rfl (by kernel_rfl) rfl
theorem wk_spec_raInt {a0 : Int}  {r : Qr} (h : spec_raInt a0 = some r) : Meets Try.prog 89 [.v (.int .i64 a0)] { vals := [.p (vRt r)] } := by
 refine Meets_ofL (by kernel_rfl) Try.func89 rfl (by kernel_rfl) (l0 := [(0, .p (.int .i64 a0))]) (by kernel_rfl) ?_
 unfold spec_raInt at h
 refine k_sreg (r_go [(0, .p (.int .i64 a0)), (2, .box [.raw (.int .i64 0), .raw (.int .i64 0)])] [] [] (by kernel_rfl) trivial) ?_
 refine k_sreg (r_go [(2, .box [.raw (.int .i64 a0), .raw (.int .i64 1)])] [] [] (by kernel_rfl) trivial) ?_
 refine k_ret ?_
 obtain rfl := Option.some.inj h
 exact e_ret (ls := [(.p (.agg #[.int .i64 a0, .int .i64 1]), 2)]) (by kernel_rfl) rfl (by kernel_rfl) rfl
theorem wk_spec_liPlus {a0 : Qr} {a1 : Int}  {r : Qr} (h : spec_liPlus a0 a1 = some r) : Meets Try.prog 90 [.v (vRt a0), .v (.int .i64 a1)] { vals := [.p (vRt r)] } := by
 refine Meets_ofL (by kernel_rfl) Try.func90 rfl (by kernel_rfl) (l0 := [(0, .p (vRt a0)), (1, .p (.int .i64 a1))]) (by kernel_rfl) ?_
 unfold spec_liPlus at h
 refine k_sreg (r_go [(1, .p (.int .i64 a1)), (2, .box (eRt a0)), (4, .box [.raw (.int .i64 0), .raw (.int .i64 0)])] [] [] (by kernel_rfl) trivial) ?_
 refine k_sreg (r_go [(4, .box [.raw (.int .i64 (w64 (a0.1 + (w64 (a1 * a0.2))))), .raw (.int .i64 a0.2)])] [] [] (by kernel_rfl) trivial) ?_
 refine k_ret ?_
 obtain rfl := Option.some.inj h
 exact e_ret (ls := [(.p (.agg #[.int .i64 (w64 (a0.1 + (w64 (a1 * a0.2)))), .int .i64 a0.2]), 4)]) (by kernel_rfl) rfl (by kernel_rfl) rfl
theorem wk_spec_liGood {a0 : (List Qp)}  {r : Bool} (h : spec_liGood a0 = some r) : Meets Try.prog 49 [.d true [.sl none (a0.map ePt)]] { vals := [.p (.bool r)] } := by
 refine Meets_ofL (by kernel_rfl) Try.func49 rfl (by kernel_rfl) (l0 := [(0, .d true [.sl none (a0.map ePt)])]) (by kernel_rfl) ?_
 unfold spec_liGood at h
 refine k_sreg (r_go [(1, .box [.sl none (a0.map ePt)])] [] [] (by kernel_rfl) trivial) ?_
 refine k_sreg (r_go [(1, .box [.sl none (a0.map ePt)]), (3, .p (.int .i64 (a0.length : Int)))] [(1, {b := some true}), (2, {n := some a0.length})] [frR [.sl none (a0.map ePt)] = true, (a0.map ePt).length = a0.length] (by kernel_rfl) ⟨(frR1 (frL_enc (fr_P (fr_P fr_I fr_I) (fr_P fr_I fr_I))) rfl), (List.length_map ..), trivial⟩) ?_
 refine k_seq ?_
 replace h := bind_some' h
 obtain ⟨v1, hv1, h⟩ := h
 refine k_sreg (r_go [(1, .box [.sl none (a0.map ePt)]), (3, .p (.int .i64 (a0.length : Int))), (13, .p (.bool (!v1)))] [(1, {call := some ([.v (.int .i64 (a0.length : Int)), .v (.int .i64 2), .v (.int .i64 12)], [.p (.bool v1)], true)})] [([.v (.int .i64 (a0.length : Int)), .v (.int .i64 2), .v (.int .i64 12)] : List Arg) = [.v (.int .i64 (a0.length : Int)), .v (.int .i64 2), .v (.int .i64 12)], Meets Try.prog 87 ([.v (.int .i64 (a0.length : Int)), .v (.int .i64 2), .v (.int .i64 12)] ++ []) { vals := [.p (.bool v1)] }, (!true || List.all [.p (.bool v1)] simpleR) = true] (by kernel_rfl) ⟨rfl, (wk_spec_l1In hv1), (bt rfl), trivial⟩) ?_
 refine k_cond (b := (!v1)) (by kernel_rfl) (fun hc2_1 => ?_) (fun hc2_1 => ?_)
 ·replace h := ite_t hc2_1 h
  refine k_sreg (r_go [(2, .p (.bool false))] [] [] (by kernel_rfl) trivial) ?_
  refine k_ret ?_
  refine q_r ?_
  obtain rfl := Option.some.inj h
  exact e_ret (ls := [(.p (.bool false), 2)]) (by kernel_rfl) rfl (by kernel_rfl) rfl
 ·replace h := ite_f hc2_1 h
  refine k_skip ?_
  refine q_n ?_
  refine k_join (J := fun (x : Unit) => [(1, .box [.sl none (a0.map ePt)]), (3, .p (.int .i64 (a0.length : Int)))]) (K := fun x => spec_liGood_k1 a0 x = some r) (fun x3 h => ?_) ?_
  ·unfold spec_liGood_k1 at h
   replace h := bind_some' h
   obtain ⟨v4, hv4, h⟩ := h
   replace h := bind_some' h
   obtain ⟨v5, hv5, h⟩ := h
   refine k_sreg (r_draw Try_mixed 13 [(12, 6)] [(6, .box (ePt v4)), (7, .box (ePt v5))] [(1, {b := some true}), (2, {row := some (ePt v4)}), (5, {b := some true}), (8, {row := some (ePt v5)})] [frR [.sl none (a0.map ePt)] = true, 0 ≤ 0, (a0.map ePt)[(Int.toNat 0)]? = some (ePt v4), frR [.sl none (a0.map ePt)] = true, 0 ≤ (w64 ((a0.length : Int) - 1)), (a0.map ePt)[(Int.toNat (w64 ((a0.length : Int) - 1)))]? = some (ePt v5)] (by kernel_rfl) ⟨(frR1 (frL_enc (fr_P (fr_P fr_I fr_I) (fr_P fr_I fr_I))) rfl), (idxO_some hv4).1, (map_get ePt (idxO_some hv4).2), (frR1 (frL_enc (fr_P (fr_P fr_I fr_I) (fr_P fr_I fr_I))) rfl), (idxO_some hv5).1, (map_get ePt (idxO_some hv5).2), trivial⟩) ?_
   replace h := bind_some' h
   obtain ⟨v6, hv6, h⟩ := h
   replace h := bind_some' h
   obtain ⟨v7, hv7, h⟩ := h
   replace h := bind_some' h
   obtain ⟨w11, hw11, h⟩ := h
   refine k_sreg (l1 := [(2, .p (.bool w11))]) ?_ ?_
   ·clear h
    rcases Bool.eq_false_or_eq_true (v7 == 0) with ha1 | ha1
    ·replace hw11 := ite_t ha1 hw11
     replace hw11 := bind_some' hw11
     obtain ⟨v8, hv8, hw11⟩ := hw11
     replace hw11 := bind_some' hw11
     obtain ⟨v9, hv9, hw11⟩ := hw11
     rcases Bool.eq_false_or_eq_true (v9 == 0) with ha2 | ha2
     ·replace hw11 := ite_t ha2 hw11
      replace hw11 := bind_some' hw11
      obtain ⟨v10, hv10, hw11⟩ := hw11
      have hw11 := Option.some.inj hw11
      subst hw11
      exact (r_draw Try_mixed 18 [] [(2, .p (.bool ((v5.2.1 == v10.1) && (v5.2.2 == v10.2))))] [(2, {call := some ([.v (.int .i64 0)], [.p (vRt v6)], true)}), (3, {call := some ([.v (vRt v4.1), .v (vRt v6)], [.p (.int .i64 v7)], true)}), (6, {g := some true}), (7, {g := some true}), (8, {g := some true, call := some ([.v (.int .i64 1)], [.p (vRt v8)], true)}), (9, {g := some true, call := some ([.v (vRt v5.1), .v (vRt v8)], [.p (.int .i64 v9)], true)}), (10, {g := some true}), (11, {b := some true}), (13, {g := some true}), (14, {g := some true}), (15, {g := some true}), (16, {g := some true}), (17, {g := some true, call := some ([.v (vRt v4.2), .v (.int .i64 1)], [.p (vRt v10)], true)}), (18, {g := some true, pv := some (.bool ((v5.2.1 == v10.1) && (v5.2.2 == v10.2)))}), (19, {b := some true})] [([.v (.int .i64 0)] : List Arg) = [.v (.int .i64 0)], Meets Try.prog 89 ([.v (.int .i64 0)] ++ []) { vals := [.p (vRt v6)] }, (!true || List.all [.p (vRt v6)] simpleR) = true, ([.v (vRt v4.1), .v (vRt v6)] : List Arg) = [.v (vRt v4.1), .v (vRt v6)], Meets Try.prog 81 ([.v (vRt v4.1), .v (vRt v6)] ++ []) { vals := [.p (.int .i64 v7)] }, (!true || List.all [.p (.int .i64 v7)] simpleR) = true, (v7 == 0) = true, (v7 == 0) = true, (v7 == 0) = true, ([.v (.int .i64 1)] : List Arg) = [.v (.int .i64 1)], Meets Try.prog 89 ([.v (.int .i64 1)] ++ []) { vals := [.p (vRt v8)] }, (!true || List.all [.p (vRt v8)] simpleR) = true, (v7 == 0) = true, ([.v (vRt v5.1), .v (vRt v8)] : List Arg) = [.v (vRt v5.1), .v (vRt v8)], Meets Try.prog 81 ([.v (vRt v5.1), .v (vRt v8)] ++ []) { vals := [.p (.int .i64 v9)] }, (!true || List.all [.p (.int .i64 v9)] simpleR) = true, (v7 == 0) = true, (v7 == 0) = true, (v9 == 0) = true, (v9 == 0) = true, (v9 == 0) = true, (v9 == 0) = true, (v9 == 0) = true, ([.v (vRt v4.2), .v (.int .i64 1)] : List Arg) = [.v (vRt v4.2), .v (.int .i64 1)], Meets Try.prog 90 ([.v (vRt v4.2), .v (.int .i64 1)] ++ []) { vals := [.p (vRt v10)] }, (!true || List.all [.p (vRt v10)] simpleR) = true, (v9 == 0) = true, PureAt Try.prog (.binOp .eql 44 (.tmp 106) (.tmp 109) 44) [vRt v5.2, vRt v10] (.bool ((v5.2.1 == v10.1) && (v5.2.2 == v10.2))), (v9 == 0) = true] (by kernel_rfl) ⟨rfl, (wk_spec_raInt hv6), (bt rfl), rfl, (wk_spec_raCmp hv7), (bt rfl), ha1, ha1, ha1, rfl, (wk_spec_raInt hv8), (bt rfl), ha1, rfl, (wk_spec_raCmp hv9), (bt rfl), ha1, ha1, ha2, ha2, ha2, ha2, ha2, rfl, (wk_spec_liPlus hv10), (bt rfl), ha2, (pure_eql2 (by kernel_rfl)), ha2, trivial⟩)
     ·replace hw11 := ite_f ha2 hw11
      have hw11 := Option.some.inj hw11
      subst hw11
      exact (r_draw Try_mixed 18 [] [(2, .p (.bool false))] [(2, {call := some ([.v (.int .i64 0)], [.p (vRt v6)], true)}), (3, {call := some ([.v (vRt v4.1), .v (vRt v6)], [.p (.int .i64 v7)], true)}), (6, {g := some true}), (7, {g := some true}), (8, {g := some true, call := some ([.v (.int .i64 1)], [.p (vRt v8)], true)}), (9, {g := some true, call := some ([.v (vRt v5.1), .v (vRt v8)], [.p (.int .i64 v9)], true)}), (10, {g := some true}), (11, {b := some true}), (13, {g := some false}), (14, {g := some false}), (15, {g := some false}), (16, {g := some false}), (17, {g := some false}), (18, {g := some false}), (19, {b := some false})] [([.v (.int .i64 0)] : List Arg) = [.v (.int .i64 0)], Meets Try.prog 89 ([.v (.int .i64 0)] ++ []) { vals := [.p (vRt v6)] }, (!true || List.all [.p (vRt v6)] simpleR) = true, ([.v (vRt v4.1), .v (vRt v6)] : List Arg) = [.v (vRt v4.1), .v (vRt v6)], Meets Try.prog 81 ([.v (vRt v4.1), .v (vRt v6)] ++ []) { vals := [.p (.int .i64 v7)] }, (!true || List.all [.p (.int .i64 v7)] simpleR) = true, (v7 == 0) = true, (v7 == 0) = true, (v7 == 0) = true, ([.v (.int .i64 1)] : List Arg) = [.v (.int .i64 1)], Meets Try.prog 89 ([.v (.int .i64 1)] ++ []) { vals := [.p (vRt v8)] }, (!true || List.all [.p (vRt v8)] simpleR) = true, (v7 == 0) = true, ([.v (vRt v5.1), .v (vRt v8)] : List Arg) = [.v (vRt v5.1), .v (vRt v8)], Meets Try.prog 81 ([.v (vRt v5.1), .v (vRt v8)] ++ []) { vals := [.p (.int .i64 v9)] }, (!true || List.all [.p (.int .i64 v9)] simpleR) = true, (v7 == 0) = true, (v7 == 0) = true, (v9 == 0) = false, (v9 == 0) = false, (v9 == 0) = false, (v9 == 0) = false, (v9 == 0) = false, (v9 == 0) = false, (v9 == 0) = false] (by kernel_rfl) ⟨rfl, (wk_spec_raInt hv6), (bt rfl), rfl, (wk_spec_raCmp hv7), (bt rfl), ha1, ha1, ha1, rfl, (wk_spec_raInt hv8), (bt rfl), ha1, rfl, (wk_spec_raCmp hv9), (bt rfl), ha1, ha1, ha2, ha2, ha2, ha2, ha2, ha2, ha2, trivial⟩)
    ·replace hw11 := ite_f ha1 hw11
     have hw11 := Option.some.inj hw11
     subst hw11
     exact (r_draw Try_mixed 18 [] [(2, .p (.bool false))] [(2, {call := some ([.v (.int .i64 0)], [.p (vRt v6)], true)}), (3, {call := some ([.v (vRt v4.1), .v (vRt v6)], [.p (.int .i64 v7)], true)}), (6, {g := some false}), (7, {g := some false}), (8, {g := some false}), (9, {g := some false}), (10, {g := some false}), (11, {b := some false}), (13, {g := some false}), (14, {g := some false}), (15, {g := some false}), (16, {g := some false}), (17, {g := some false}), (18, {g := some false}), (19, {b := some false})] [([.v (.int .i64 0)] : List Arg) = [.v (.int .i64 0)], Meets Try.prog 89 ([.v (.int .i64 0)] ++ []) { vals := [.p (vRt v6)] }, (!true || List.all [.p (vRt v6)] simpleR) = true, ([.v (vRt v4.1), .v (vRt v6)] : List Arg) = [.v (vRt v4.1), .v (vRt v6)], Meets Try.prog 81 ([.v (vRt v4.1), .v (vRt v6)] ++ []) { vals := [.p (.int .i64 v7)] }, (!true || List.all [.p (.int .i64 v7)] simpleR) = true, (v7 == 0) = false, (v7 == 0) = false, (v7 == 0) = false, (v7 == 0) = false, (v7 == 0) = false, (v7 == 0) = false, false = false, false = false, false = false, false = false, false = false, false = false, false = false] (by kernel_rfl) ⟨rfl, (wk_spec_raInt hv6), (bt rfl), rfl, (wk_spec_raCmp hv7), (bt rfl), ha1, ha1, ha1, ha1, ha1, ha1, rfl, rfl, rfl, rfl, rfl, rfl, rfl, trivial⟩)
   ·refine k_ret ?_
    obtain rfl := Option.some.inj h
    exact e_ret (ls := [(.p (.bool w11), 2)]) (by kernel_rfl) rfl (by kernel_rfl) rfl
  ·refine k_sreg (r_go [(1, .box [.sl none (a0.map ePt)]), (3, .p (.int .i64 (a0.length : Int))), (15, .d false [.sl none (a0.map ePt)]), (16, .p (.int .i64 (a0.length : Int))), (17, .p (.int .i64 0))] [(1, {b := some true}), (2, {n := some a0.length})] [frR [.sl none (a0.map ePt)] = true, (a0.map ePt).length = a0.length] (by kernel_rfl) ⟨(frR1 (frL_enc (fr_P (fr_P fr_I fr_I) (fr_P fr_I fr_I))) rfl), (List.length_map ..), trivial⟩) ?_
   refine k_block ?_
   obtain ⟨y13, hl_x12, hk_x12⟩ := bind_some' h
   clear h
   refine k_loop (J := fun (x : Int) => [(1, .box [.sl none (a0.map ePt)]), (3, .p (.int .i64 (a0.length : Int))), (15, .d false [.sl none (a0.map ePt)]), (16, .p (.int .i64 (a0.length : Int))), (17, .p (.int .i64 x))]) hl_x12 (wk_of (by kernel_rfl) (by kernel_rfl)) (fun x12 o_x12 h hy_x12 => ?_)
   unfold spec_liGood_b1 at h
   refine k_sreg (r_go [(1, .box [.sl none (a0.map ePt)]), (3, .p (.int .i64 (a0.length : Int))), (15, .d false [.sl none (a0.map ePt)]), (16, .p (.int .i64 (a0.length : Int))), (17, .p (.int .i64 x12)), (18, .p (.bool (decide (x12 < (a0.length : Int)))))] [] [] (by kernel_rfl) trivial) ?_
   refine k_seq ?_
   refine k_cond (b := (decide (x12 < (a0.length : Int)))) (by kernel_rfl) (fun hc5_13 => ?_) (fun hc5_13 => ?_)
   ·replace h := ite_t hc5_13 h
    refine k_skip ?_
    refine q_n ?_
    refine k_seq ?_
    refine k_block ?_
    replace h := bind_some' h
    obtain ⟨v15, hv15, h⟩ := h
    refine k_sreg (r_go [(1, .box [.sl none (a0.map ePt)]), (3, .p (.int .i64 (a0.length : Int))), (4, .p (.int .i64 x12)), (5, .box (ePt v15)), (15, .d false [.sl none (a0.map ePt)]), (16, .p (.int .i64 (a0.length : Int))), (17, .p (.int .i64 x12))] [(1, {row := some (ePt v15)})] [0 ≤ x12, (a0.map ePt)[(Int.toNat x12)]? = some (ePt v15)] (by kernel_rfl) ⟨(idxO_some hv15).1, (map_get ePt (idxO_some hv15).2), trivial⟩) ?_
    refine k_seq ?_
    replace h := bind_some' h
    obtain ⟨v16, hv16, h⟩ := h
    replace h := bind_some' h
    obtain ⟨w19, hw19, h⟩ := h
    refine k_sreg (l1 := [(1, .box [.sl none (a0.map ePt)]), (3, .p (.int .i64 (a0.length : Int))), (4, .p (.int .i64 x12)), (5, .box (ePt v15)), (15, .d false [.sl none (a0.map ePt)]), (16, .p (.int .i64 (a0.length : Int))), (17, .p (.int .i64 x12)), (52, .p (.bool w19))]) ?_ ?_
    ·clear h
     rcases Bool.eq_false_or_eq_true (!v16) with ha2 | ha2
     ·replace hw19 := ite_t ha2 hw19
      have hw19 := Option.some.inj hw19
      subst hw19
      exact (r_go [(1, .box [.sl none (a0.map ePt)]), (3, .p (.int .i64 (a0.length : Int))), (4, .p (.int .i64 x12)), (5, .box (ePt v15)), (15, .d false [.sl none (a0.map ePt)]), (16, .p (.int .i64 (a0.length : Int))), (17, .p (.int .i64 x12)), (52, .p (.bool true))] [(2, {call := some ([.v (vRt v15.1)], [.p (.bool v16)], true)}), (5, {g := some true}), (6, {g := some true}), (7, {g := some true}), (8, {g := some true}), (9, {b := some true}), (11, {g := some true}), (12, {g := some true}), (13, {g := some true}), (14, {g := some true}), (15, {b := some true}), (17, {g := some true}), (18, {g := some true}), (19, {g := some true}), (20, {g := some true}), (21, {g := some true}), (22, {g := some true}), (23, {g := some true}), (24, {g := some true}), (25, {g := some true}), (26, {g := some true}), (27, {g := some true}), (28, {g := some true}), (29, {g := some true}), (30, {b := some true})] [([.v (vRt v15.1)] : List Arg) = [.v (vRt v15.1)], Meets Try.prog 88 ([.v (vRt v15.1)] ++ []) { vals := [.p (.bool v16)] }, (!true || List.all [.p (.bool v16)] simpleR) = true, (!v16) = true, (!v16) = true, (!v16) = true, (!v16) = true, (!v16) = true, true = true, true = true, true = true, true = true, true = true, true = true, true = true, true = true, true = true, true = true, true = true, true = true, true = true, true = true, true = true, true = true, true = true, true = true, true = true] (by kernel_rfl) ⟨rfl, (wk_spec_imCoord hv16), (bt rfl), ha2, ha2, ha2, ha2, ha2, rfl, rfl, rfl, rfl, rfl, rfl, rfl, rfl, rfl, rfl, rfl, rfl, rfl, rfl, rfl, rfl, rfl, rfl, rfl, trivial⟩)
     ·replace hw19 := ite_f ha2 hw19
      replace hw19 := bind_some' hw19
      obtain ⟨v17, hv17, hw19⟩ := hw19
      rcases Bool.eq_false_or_eq_true (!v17) with ha3 | ha3
      ·replace hw19 := ite_t ha3 hw19
       have hw19 := Option.some.inj hw19
       subst hw19
       exact (r_go [(1, .box [.sl none (a0.map ePt)]), (3, .p (.int .i64 (a0.length : Int))), (4, .p (.int .i64 x12)), (5, .box (ePt v15)), (15, .d false [.sl none (a0.map ePt)]), (16, .p (.int .i64 (a0.length : Int))), (17, .p (.int .i64 x12)), (52, .p (.bool true))] [(2, {call := some ([.v (vRt v15.1)], [.p (.bool v16)], true)}), (5, {g := some false}), (6, {g := some false}), (7, {g := some false, call := some ([.v (vRt v15.2)], [.p (.bool v17)], true)}), (8, {g := some false}), (9, {b := some false}), (11, {g := some true}), (12, {g := some true}), (13, {g := some true}), (14, {g := some true}), (15, {b := some true}), (17, {g := some true}), (18, {g := some true}), (19, {g := some true}), (20, {g := some true}), (21, {g := some true}), (22, {g := some true}), (23, {g := some true}), (24, {g := some true}), (25, {g := some true}), (26, {g := some true}), (27, {g := some true}), (28, {g := some true}), (29, {g := some true}), (30, {b := some true})] [([.v (vRt v15.1)] : List Arg) = [.v (vRt v15.1)], Meets Try.prog 88 ([.v (vRt v15.1)] ++ []) { vals := [.p (.bool v16)] }, (!true || List.all [.p (.bool v16)] simpleR) = true, (!v16) = false, (!v16) = false, (!v16) = false, ([.v (vRt v15.2)] : List Arg) = [.v (vRt v15.2)], Meets Try.prog 71 ([.v (vRt v15.2)] ++ []) { vals := [.p (.bool v17)] }, (!true || List.all [.p (.bool v17)] simpleR) = true, (!v16) = false, (!v16) = false, (!v17) = true, (!v17) = true, (!v17) = true, (!v17) = true, (!v17) = true, true = true, true = true, true = true, true = true, true = true, true = true, true = true, true = true, true = true, true = true, true = true, true = true, true = true, true = true] (by kernel_rfl) ⟨rfl, (wk_spec_imCoord hv16), (bt rfl), ha2, ha2, ha2, rfl, (wk_spec_raGood hv17), (bt rfl), ha2, ha2, ha3, ha3, ha3, ha3, ha3, rfl, rfl, rfl, rfl, rfl, rfl, rfl, rfl, rfl, rfl, rfl, rfl, rfl, rfl, trivial⟩)
      ·replace hw19 := ite_f ha3 hw19
       rcases Bool.eq_false_or_eq_true (decide (v15.2.2 > 100)) with ha4 | ha4
       ·replace hw19 := ite_t ha4 hw19
        have hw19 := Option.some.inj hw19
        subst hw19
        exact (r_go [(1, .box [.sl none (a0.map ePt)]), (3, .p (.int .i64 (a0.length : Int))), (4, .p (.int .i64 x12)), (5, .box (ePt v15)), (15, .d false [.sl none (a0.map ePt)]), (16, .p (.int .i64 (a0.length : Int))), (17, .p (.int .i64 x12)), (52, .p (.bool true))] [(2, {call := some ([.v (vRt v15.1)], [.p (.bool v16)], true)}), (5, {g := some false}), (6, {g := some false}), (7, {g := some false, call := some ([.v (vRt v15.2)], [.p (.bool v17)], true)}), (8, {g := some false}), (9, {b := some false}), (11, {g := some false}), (12, {g := some false}), (13, {g := some false}), (14, {g := some false}), (15, {b := some false}), (17, {g := some true}), (18, {g := some true}), (19, {g := some true}), (20, {g := some true}), (21, {g := some true}), (22, {g := some true}), (23, {g := some true}), (24, {g := some true}), (25, {g := some true}), (26, {g := some true}), (27, {g := some true}), (28, {g := some true}), (29, {g := some true}), (30, {b := some true})] [([.v (vRt v15.1)] : List Arg) = [.v (vRt v15.1)], Meets Try.prog 88 ([.v (vRt v15.1)] ++ []) { vals := [.p (.bool v16)] }, (!true || List.all [.p (.bool v16)] simpleR) = true, (!v16) = false, (!v16) = false, (!v16) = false, ([.v (vRt v15.2)] : List Arg) = [.v (vRt v15.2)], Meets Try.prog 71 ([.v (vRt v15.2)] ++ []) { vals := [.p (.bool v17)] }, (!true || List.all [.p (.bool v17)] simpleR) = true, (!v16) = false, (!v16) = false, (!v17) = false, (!v17) = false, (!v17) = false, (!v17) = false, (!v17) = false, (decide (v15.2.2 > 100)) = true, (decide (v15.2.2 > 100)) = true, (decide (v15.2.2 > 100)) = true, (decide (v15.2.2 > 100)) = true, (decide (v15.2.2 > 100)) = true, (decide (v15.2.2 > 100)) = true, (decide (v15.2.2 > 100)) = true, (decide (v15.2.2 > 100)) = true, (decide (v15.2.2 > 100)) = true, (decide (v15.2.2 > 100)) = true, (decide (v15.2.2 > 100)) = true, (decide (v15.2.2 > 100)) = true, (decide (v15.2.2 > 100)) = true, (decide (v15.2.2 > 100)) = true] (by kernel_rfl) ⟨rfl, (wk_spec_imCoord hv16), (bt rfl), ha2, ha2, ha2, rfl, (wk_spec_raGood hv17), (bt rfl), ha2, ha2, ha3, ha3, ha3, ha3, ha3, ha4, ha4, ha4, ha4, ha4, ha4, ha4, ha4, ha4, ha4, ha4, ha4, ha4, ha4, trivial⟩)
       ·replace hw19 := ite_f ha4 hw19
        replace hw19 := bind_some' hw19
        obtain ⟨v18, hv18, hw19⟩ := hw19
        have hw19 := Option.some.inj hw19
        subst hw19
        exact (r_go [(1, .box [.sl none (a0.map ePt)]), (3, .p (.int .i64 (a0.length : Int))), (4, .p (.int .i64 x12)), (5, .box (ePt v15)), (15, .d false [.sl none (a0.map ePt)]), (16, .p (.int .i64 (a0.length : Int))), (17, .p (.int .i64 x12)), (52, .p (.bool (!v18)))] [(2, {call := some ([.v (vRt v15.1)], [.p (.bool v16)], true)}), (5, {g := some false}), (6, {g := some false}), (7, {g := some false, call := some ([.v (vRt v15.2)], [.p (.bool v17)], true)}), (8, {g := some false}), (9, {b := some false}), (11, {g := some false}), (12, {g := some false}), (13, {g := some false}), (14, {g := some false}), (15, {b := some false}), (17, {g := some false}), (18, {g := some false}), (19, {g := some false}), (20, {g := some false}), (21, {g := some false}), (22, {g := some false}), (23, {g := some false}), (24, {g := some false}), (25, {g := some false}), (26, {g := some false}), (27, {g := some false}), (28, {g := some false, call := some ([.v (.int .i64 v15.2.1), .v (.int .i64 (w64 ((-5) * v15.2.2))), .v (.int .i64 (w64 (5 * v15.2.2)))], [.p (.bool v18)], true)}), (29, {g := some false}), (30, {b := some false})] [([.v (vRt v15.1)] : List Arg) = [.v (vRt v15.1)], Meets Try.prog 88 ([.v (vRt v15.1)] ++ []) { vals := [.p (.bool v16)] }, (!true || List.all [.p (.bool v16)] simpleR) = true, (!v16) = false, (!v16) = false, (!v16) = false, ([.v (vRt v15.2)] : List Arg) = [.v (vRt v15.2)], Meets Try.prog 71 ([.v (vRt v15.2)] ++ []) { vals := [.p (.bool v17)] }, (!true || List.all [.p (.bool v17)] simpleR) = true, (!v16) = false, (!v16) = false, (!v17) = false, (!v17) = false, (!v17) = false, (!v17) = false, (!v17) = false, (decide (v15.2.2 > 100)) = false, (decide (v15.2.2 > 100)) = false, (decide (v15.2.2 > 100)) = false, (decide (v15.2.2 > 100)) = false, (decide (v15.2.2 > 100)) = false, (decide (v15.2.2 > 100)) = false, (decide (v15.2.2 > 100)) = false, (decide (v15.2.2 > 100)) = false, (decide (v15.2.2 > 100)) = false, (decide (v15.2.2 > 100)) = false, (decide (v15.2.2 > 100)) = false, (decide (v15.2.2 > 100)) = false, ([.v (.int .i64 v15.2.1), .v (.int .i64 (w64 ((-5) * v15.2.2))), .v (.int .i64 (w64 (5 * v15.2.2)))] : List Arg) = [.v (.int .i64 v15.2.1), .v (.int .i64 (w64 ((-5) * v15.2.2))), .v (.int .i64 (w64 (5 * v15.2.2)))], Meets Try.prog 87 ([.v (.int .i64 v15.2.1), .v (.int .i64 (w64 ((-5) * v15.2.2))), .v (.int .i64 (w64 (5 * v15.2.2)))] ++ []) { vals := [.p (.bool v18)] }, (!true || List.all [.p (.bool v18)] simpleR) = true, (decide (v15.2.2 > 100)) = false, (decide (v15.2.2 > 100)) = false] (by kernel_rfl) ⟨rfl, (wk_spec_imCoord hv16), (bt rfl), ha2, ha2, ha2, rfl, (wk_spec_raGood hv17), (bt rfl), ha2, ha2, ha3, ha3, ha3, ha3, ha3, ha4, ha4, ha4, ha4, ha4, ha4, ha4, ha4, ha4, ha4, ha4, ha4, rfl, (wk_spec_l1In hv18), (bt rfl), ha4, ha4, trivial⟩)
    ·refine k_cond (b := w19) (by kernel_rfl) (fun hc7_19 => ?_) (fun hc7_19 => ?_)
     ·replace h := ite_t hc7_19 h
      refine k_sreg (r_go [(2, .p (.bool false))] [] [] (by kernel_rfl) trivial) ?_
      refine k_ret ?_
      refine q_r ?_
      refine b_r ?_
      refine q_r ?_
      refine lq_r ?_
      refine b_r ?_
      refine q_r ?_
      have hyy := hy_x12 _ (Option.some.inj h).symm
      subst hyy
      have h := hk_x12
      dsimp only [Sum.elim] at h
      obtain rfl := Option.some.inj h
      exact e_ret (ls := [(.p (.bool false), 2)]) (by kernel_rfl) rfl (by kernel_rfl) rfl
     ·replace h := ite_f hc7_19 h
      refine k_skip ?_
      refine q_n ?_
      replace h := bind_some' h
      obtain ⟨w24, hw24, h⟩ := h
      refine k_sreg (l1 := [(1, .box [.sl none (a0.map ePt)]), (3, .p (.int .i64 (a0.length : Int))), (15, .d false [.sl none (a0.map ePt)]), (16, .p (.int .i64 (a0.length : Int))), (17, .p (.int .i64 x12)), (80, .p (.bool w24))]) ?_ ?_
      ·clear h
       rcases Bool.eq_false_or_eq_true (decide (x12 > 0)) with ha3 | ha3
       ·replace hw24 := ite_t ha3 hw24
        replace hw24 := bind_some' hw24
        obtain ⟨v21, hv21, hw24⟩ := hw24
        replace hw24 := bind_some' hw24
        obtain ⟨v22, hv22, hw24⟩ := hw24
        rcases Bool.eq_false_or_eq_true (decide (v22 ≥ 0)) with ha4 | ha4
        ·replace hw24 := ite_t ha4 hw24
         have hw24 := Option.some.inj hw24
         subst hw24
         exact (r_draw Try_mixed 24 [] [(1, .box [.sl none (a0.map ePt)]), (3, .p (.int .i64 (a0.length : Int))), (15, .d false [.sl none (a0.map ePt)]), (16, .p (.int .i64 (a0.length : Int))), (17, .p (.int .i64 x12)), (80, .p (.bool true))] [(3, {g := some true}), (4, {g := some true, b := some true}), (5, {g := some true}), (6, {g := some true}), (7, {g := some true, row := some (ePt v21)}), (8, {g := some true}), (9, {g := some true}), (10, {g := some true}), (11, {g := some true}), (12, {g := some true, call := some ([.v (vRt v21.1), .v (vRt v15.1)], [.p (.int .i64 v22)], true)}), (13, {g := some true}), (14, {g := some true}), (15, {g := some true}), (16, {g := some true}), (17, {g := some true}), (18, {g := some true}), (19, {g := some true}), (20, {g := some true}), (21, {g := some true}), (22, {g := some true}), (23, {g := some true}), (24, {g := some true}), (25, {g := some true}), (26, {g := some true, b := some true}), (27, {b := some true})] [(decide (x12 > 0)) = true, (decide (x12 > 0)) = true, frR [.sl none (a0.map ePt)] = true, (decide (x12 > 0)) = true, (decide (x12 > 0)) = true, (decide (x12 > 0)) = true, 0 ≤ (w64 (x12 - 1)), (a0.map ePt)[(Int.toNat (w64 (x12 - 1)))]? = some (ePt v21), (decide (x12 > 0)) = true, (decide (x12 > 0)) = true, (decide (x12 > 0)) = true, (decide (x12 > 0)) = true, (decide (x12 > 0)) = true, ([.v (vRt v21.1), .v (vRt v15.1)] : List Arg) = [.v (vRt v21.1), .v (vRt v15.1)], Meets Try.prog 81 ([.v (vRt v21.1), .v (vRt v15.1)] ++ []) { vals := [.p (.int .i64 v22)] }, (!true || List.all [.p (.int .i64 v22)] simpleR) = true, (decide (x12 > 0)) = true, (decide (x12 > 0)) = true, (decide (v22 ≥ 0)) = true, (decide (v22 ≥ 0)) = true, (decide (v22 ≥ 0)) = true, (decide (v22 ≥ 0)) = true, (decide (v22 ≥ 0)) = true, (decide (v22 ≥ 0)) = true, (decide (v22 ≥ 0)) = true, (decide (v22 ≥ 0)) = true, (decide (v22 ≥ 0)) = true, (decide (v22 ≥ 0)) = true, (decide (v22 ≥ 0)) = true, (decide (x12 > 0)) = true, (decide (v22 ≥ 0)) = true, (decide (x12 > 0)) = true] (by kernel_rfl) ⟨ha3, ha3, (frR1 (frL_enc (fr_P (fr_P fr_I fr_I) (fr_P fr_I fr_I))) rfl), ha3, ha3, ha3, (idxO_some hv21).1, (map_get ePt (idxO_some hv21).2), ha3, ha3, ha3, ha3, ha3, rfl, (wk_spec_raCmp hv22), (bt rfl), ha3, ha3, ha4, ha4, ha4, ha4, ha4, ha4, ha4, ha4, ha4, ha4, ha4, ha3, ha4, ha3, trivial⟩)
        ·replace hw24 := ite_f ha4 hw24
         replace hw24 := bind_some' hw24
         obtain ⟨v23, hv23, hw24⟩ := hw24
         have hw24 := Option.some.inj hw24
         subst hw24
         exact (r_draw Try_mixed 24 [] [(1, .box [.sl none (a0.map ePt)]), (3, .p (.int .i64 (a0.length : Int))), (15, .d false [.sl none (a0.map ePt)]), (16, .p (.int .i64 (a0.length : Int))), (17, .p (.int .i64 x12)), (80, .p (.bool (decide (v23 > 0))))] [(3, {g := some true}), (4, {g := some true, b := some true}), (5, {g := some true}), (6, {g := some true}), (7, {g := some true, row := some (ePt v21)}), (8, {g := some true}), (9, {g := some true}), (10, {g := some true}), (11, {g := some true}), (12, {g := some true, call := some ([.v (vRt v21.1), .v (vRt v15.1)], [.p (.int .i64 v22)], true)}), (13, {g := some true}), (14, {g := some true}), (15, {g := some false}), (16, {g := some false, b := some true}), (17, {g := some false}), (18, {g := some false}), (19, {g := some false, row := some (ePt v21)}), (20, {g := some false}), (21, {g := some false}), (22, {g := some false}), (23, {g := some false}), (24, {g := some false, call := some ([.v (vRt v21.2), .v (vRt v15.2)], [.p (.int .i64 v23)], true)}), (25, {g := some false}), (26, {g := some true, b := some false}), (27, {b := some true})] [(decide (x12 > 0)) = true, (decide (x12 > 0)) = true, frR [.sl none (a0.map ePt)] = true, (decide (x12 > 0)) = true, (decide (x12 > 0)) = true, (decide (x12 > 0)) = true, 0 ≤ (w64 (x12 - 1)), (a0.map ePt)[(Int.toNat (w64 (x12 - 1)))]? = some (ePt v21), (decide (x12 > 0)) = true, (decide (x12 > 0)) = true, (decide (x12 > 0)) = true, (decide (x12 > 0)) = true, (decide (x12 > 0)) = true, ([.v (vRt v21.1), .v (vRt v15.1)] : List Arg) = [.v (vRt v21.1), .v (vRt v15.1)], Meets Try.prog 81 ([.v (vRt v21.1), .v (vRt v15.1)] ++ []) { vals := [.p (.int .i64 v22)] }, (!true || List.all [.p (.int .i64 v22)] simpleR) = true, (decide (x12 > 0)) = true, (decide (x12 > 0)) = true, (decide (v22 ≥ 0)) = false, (decide (v22 ≥ 0)) = false, frR [.sl none (a0.map ePt)] = true, (decide (v22 ≥ 0)) = false, (decide (v22 ≥ 0)) = false, (decide (v22 ≥ 0)) = false, 0 ≤ (w64 (x12 - 1)), (a0.map ePt)[(Int.toNat (w64 (x12 - 1)))]? = some (ePt v21), (decide (v22 ≥ 0)) = false, (decide (v22 ≥ 0)) = false, (decide (v22 ≥ 0)) = false, (decide (v22 ≥ 0)) = false, (decide (v22 ≥ 0)) = false, ([.v (vRt v21.2), .v (vRt v15.2)] : List Arg) = [.v (vRt v21.2), .v (vRt v15.2)], Meets Try.prog 81 ([.v (vRt v21.2), .v (vRt v15.2)] ++ []) { vals := [.p (.int .i64 v23)] }, (!true || List.all [.p (.int .i64 v23)] simpleR) = true, (decide (v22 ≥ 0)) = false, (decide (x12 > 0)) = true, (decide (v22 ≥ 0)) = false, (decide (x12 > 0)) = true] (by kernel_rfl) ⟨ha3, ha3, (frR1 (frL_enc (fr_P (fr_P fr_I fr_I) (fr_P fr_I fr_I))) rfl), ha3, ha3, ha3, (idxO_some hv21).1, (map_get ePt (idxO_some hv21).2), ha3, ha3, ha3, ha3, ha3, rfl, (wk_spec_raCmp hv22), (bt rfl), ha3, ha3, ha4, ha4, (frR1 (frL_enc (fr_P (fr_P fr_I fr_I) (fr_P fr_I fr_I))) rfl), ha4, ha4, ha4, (idxO_some hv21).1, (map_get ePt (idxO_some hv21).2), ha4, ha4, ha4, ha4, ha4, rfl, (wk_spec_raCmp hv23), (bt rfl), ha4, ha3, ha4, ha3, trivial⟩)
       ·replace hw24 := ite_f ha3 hw24
        have hw24 := Option.some.inj hw24
        subst hw24
        exact (r_draw Try_mixed 24 [] [(1, .box [.sl none (a0.map ePt)]), (3, .p (.int .i64 (a0.length : Int))), (15, .d false [.sl none (a0.map ePt)]), (16, .p (.int .i64 (a0.length : Int))), (17, .p (.int .i64 x12)), (80, .p (.bool false))] [(3, {g := some false}), (4, {g := some false}), (5, {g := some false}), (6, {g := some false}), (7, {g := some false}), (8, {g := some false}), (9, {g := some false}), (10, {g := some false}), (11, {g := some false}), (12, {g := some false}), (13, {g := some false}), (14, {g := some false}), (26, {g := some false}), (27, {b := some false})] [(decide (x12 > 0)) = false, (decide (x12 > 0)) = false, (decide (x12 > 0)) = false, (decide (x12 > 0)) = false, (decide (x12 > 0)) = false, (decide (x12 > 0)) = false, (decide (x12 > 0)) = false, (decide (x12 > 0)) = false, (decide (x12 > 0)) = false, (decide (x12 > 0)) = false, (decide (x12 > 0)) = false, (decide (x12 > 0)) = false, (decide (x12 > 0)) = false, (decide (x12 > 0)) = false] (by kernel_rfl) ⟨ha3, ha3, ha3, ha3, ha3, ha3, ha3, ha3, ha3, ha3, ha3, ha3, ha3, ha3, trivial⟩)
      ·refine k_cond (b := w24) (by kernel_rfl) (fun hc6_24 => ?_) (fun hc6_24 => ?_)
       ·replace h := ite_t hc6_24 h
        refine k_sreg (r_go [(2, .p (.bool false))] [] [] (by kernel_rfl) trivial) ?_
        refine k_ret ?_
        refine b_r ?_
        refine q_r ?_
        refine lq_r ?_
        refine b_r ?_
        refine q_r ?_
        have hyy := hy_x12 _ (Option.some.inj h).symm
        subst hyy
        have h := hk_x12
        dsimp only [Sum.elim] at h
        obtain rfl := Option.some.inj h
        exact e_ret (ls := [(.p (.bool false), 2)]) (by kernel_rfl) rfl (by kernel_rfl) rfl
       ·replace h := ite_f hc6_24 h
        refine k_skip ?_
        refine b_n ?_
        refine q_n ?_
        refine k_reg (r_go [(1, .box [.sl none (a0.map ePt)]), (3, .p (.int .i64 (a0.length : Int))), (15, .d false [.sl none (a0.map ePt)]), (16, .p (.int .i64 (a0.length : Int))), (17, .p (.int .i64 (w64 (x12 + 1))))] [] [] (by kernel_rfl) trivial) ?_
        exact lq_n (w64 (x12 + 1)) (Option.some.inj h).symm (wk_of (by kernel_rfl) (by kernel_rfl))
   ·replace h := ite_f hc5_13 h
    refine k_exit ?_
    refine q_x ?_
    refine lq_x ?_
    refine b_x ?_
    have hyy := hy_x12 _ (Option.some.inj h).symm
    subst hyy
    have h := hk_x12
    dsimp only [Sum.elim] at h
    refine q_n ?_
    exact ⟨(), h, (wk_of (by kernel_rfl) (by kernel_rfl))⟩
theorem wk_spec_liNear {a0 : Qr}  {r : Bool} (h : spec_liNear a0 = some r) : Meets Try.prog 65 [.v (vRt a0)] { vals := [.p (.bool r)] } := by
 refine Meets_ofL (by kernel_rfl) Try.func65 rfl (by kernel_rfl) (l0 := [(0, .p (vRt a0))]) (by kernel_rfl) ?_
 unfold spec_liNear at h
 refine k_sreg (r_go [(1, .box (eRt a0))] [] [] (by kernel_rfl) trivial) ?_
 replace h := bind_some' h
 obtain ⟨v1, hv1, h⟩ := h
 replace h := bind_some' h
 obtain ⟨w3, hw3, h⟩ := h
 refine k_sreg (l1 := [(2, .p (.bool w3))]) ?_ ?_
 ·clear h
  rcases Bool.eq_false_or_eq_true v1 with ha0 | ha0
  ·replace hw3 := ite_t ha0 hw3
   replace hw3 := bind_some' hw3
   obtain ⟨v2, hv2, hw3⟩ := hw3
   have hw3 := Option.some.inj hw3
   subst hw3
   exact (r_go [(2, .p (.bool v2))] [(1, {call := some ([.v (vRt a0)], [.p (.bool v1)], true)}), (3, {g := some true}), (4, {g := some true}), (5, {g := some true}), (6, {g := some true}), (7, {g := some true}), (8, {g := some true}), (9, {g := some true}), (10, {g := some true}), (11, {g := some true, call := some ([.v (.int .i64 a0.1), .v (.int .i64 (w64 ((-1000) * a0.2))), .v (.int .i64 (w64 (1000 * a0.2)))], [.p (.bool v2)], true)}), (12, {b := some true})] [([.v (vRt a0)] : List Arg) = [.v (vRt a0)], Meets Try.prog 71 ([.v (vRt a0)] ++ []) { vals := [.p (.bool v1)] }, (!true || List.all [.p (.bool v1)] simpleR) = true, v1 = true, v1 = true, v1 = true, v1 = true, v1 = true, v1 = true, v1 = true, v1 = true, v1 = true, ([.v (.int .i64 a0.1), .v (.int .i64 (w64 ((-1000) * a0.2))), .v (.int .i64 (w64 (1000 * a0.2)))] : List Arg) = [.v (.int .i64 a0.1), .v (.int .i64 (w64 ((-1000) * a0.2))), .v (.int .i64 (w64 (1000 * a0.2)))], Meets Try.prog 87 ([.v (.int .i64 a0.1), .v (.int .i64 (w64 ((-1000) * a0.2))), .v (.int .i64 (w64 (1000 * a0.2)))] ++ []) { vals := [.p (.bool v2)] }, (!true || List.all [.p (.bool v2)] simpleR) = true, v1 = true] (by kernel_rfl) ⟨rfl, (wk_spec_raGood hv1), (bt rfl), ha0, ha0, ha0, ha0, ha0, ha0, ha0, ha0, ha0, rfl, (wk_spec_l1In hv2), (bt rfl), ha0, trivial⟩)
  ·replace hw3 := ite_f ha0 hw3
   have hw3 := Option.some.inj hw3
   subst hw3
   exact (r_go [(2, .p (.bool false))] [(1, {call := some ([.v (vRt a0)], [.p (.bool v1)], true)}), (3, {g := some false}), (4, {g := some false}), (5, {g := some false}), (6, {g := some false}), (7, {g := some false}), (8, {g := some false}), (9, {g := some false}), (10, {g := some false}), (11, {g := some false}), (12, {b := some false})] [([.v (vRt a0)] : List Arg) = [.v (vRt a0)], Meets Try.prog 71 ([.v (vRt a0)] ++ []) { vals := [.p (.bool v1)] }, (!true || List.all [.p (.bool v1)] simpleR) = true, v1 = false, v1 = false, v1 = false, v1 = false, v1 = false, v1 = false, v1 = false, v1 = false, v1 = false, v1 = false] (by kernel_rfl) ⟨rfl, (wk_spec_raGood hv1), (bt rfl), ha0, ha0, ha0, ha0, ha0, ha0, ha0, ha0, ha0, ha0, trivial⟩)
 ·refine k_ret ?_
  obtain rfl := Option.some.inj h
  exact e_ret (ls := [(.p (.bool w3), 2)]) (by kernel_rfl) rfl (by kernel_rfl) rfl
theorem wk_spec_raMake {a0 : Int} {a1 : Int}  {r : (Qr × Bool)} (h : spec_raMake a0 a1 = some r) : Meets Try.prog 102 [.v (.int .i64 a0), .v (.int .i64 a1)] { vals := [.p (vRt r.1), .p (.bool r.2)] } := by
 refine Meets_ofL (by kernel_rfl) Try.func102 rfl (by kernel_rfl) (l0 := [(0, .p (.int .i64 a0)), (1, .p (.int .i64 a1))]) (by kernel_rfl) ?_
 unfold spec_raMake at h
 refine k_sreg (r_go [(0, .p (.int .i64 a0)), (1, .p (.int .i64 a1)), (4, .box [.raw (.int .i64 0), .raw (.int .i64 0)])] [] [] (by kernel_rfl) trivial) ?_
 refine k_seq ?_
 refine k_sreg (r_go [(0, .p (.int .i64 a0)), (1, .p (.int .i64 a1)), (4, .box [.raw (.int .i64 0), .raw (.int .i64 0)]), (9, .p (.bool (a1 == 0)))] [] [] (by kernel_rfl) trivial) ?_
 refine k_cond (b := (a1 == 0)) (by kernel_rfl) (fun hc2_0 => ?_) (fun hc2_0 => ?_)
 ·replace h := ite_t hc2_0 h
  refine k_sreg (r_go [(4, .box [.raw (.int .i64 0), .raw (.int .i64 0)]), (5, .p (.bool false))] [] [] (by kernel_rfl) trivial) ?_
  refine k_ret ?_
  refine q_r ?_
  obtain rfl := Option.some.inj h
  exact e_ret (ls := [(.p (.agg #[.int .i64 0, .int .i64 0]), 4), (.p (.bool false), 5)]) (by kernel_rfl) rfl (by kernel_rfl) rfl
 ·replace h := ite_f hc2_0 h
  refine k_skip ?_
  refine q_n ?_
  replace h := bind_some' h
  obtain ⟨v2, hv2, h⟩ := h
  replace h := bind_some' h
  obtain ⟨v3, hv3, h⟩ := h
  replace h := bind_some' h
  obtain ⟨v4, hv4, h⟩ := h
  refine k_sreg (r_go [(0, .p (.int .i64 a0)), (1, .p (.int .i64 a1)), (4, .box [.raw (.int .i64 0), .raw (.int .i64 0)]), (6, .p (.int .i64 v4))] [(1, {call := some ([.v (.int .i64 a0)], [.p (.int .i64 v2)], true)}), (3, {call := some ([.v (.int .i64 a1)], [.p (.int .i64 v3)], true)}), (4, {call := some ([.v (.int .i64 v2), .v (.int .i64 v3)], [.p (.int .i64 v4)], true)})] [([.v (.int .i64 a0)] : List Arg) = [.v (.int .i64 a0)], Meets Try.prog 112 ([.v (.int .i64 a0)] ++ []) { vals := [.p (.int .i64 v2)] }, (!true || List.all [.p (.int .i64 v2)] simpleR) = true, ([.v (.int .i64 a1)] : List Arg) = [.v (.int .i64 a1)], Meets Try.prog 112 ([.v (.int .i64 a1)] ++ []) { vals := [.p (.int .i64 v3)] }, (!true || List.all [.p (.int .i64 v3)] simpleR) = true, ([.v (.int .i64 v2), .v (.int .i64 v3)] : List Arg) = [.v (.int .i64 v2), .v (.int .i64 v3)], Meets Try.prog 111 ([.v (.int .i64 v2), .v (.int .i64 v3)] ++ []) { vals := [.p (.int .i64 v4)] }, (!true || List.all [.p (.int .i64 v4)] simpleR) = true] (by kernel_rfl) ⟨rfl, (wk_spec_l1Abs hv2), (bt rfl), rfl, (wk_spec_l1Abs hv3), (bt rfl), rfl, (wk_spec_raCommon hv4), (bt rfl), trivial⟩) ?_
  refine k_join (J := fun (x : Int) => [(0, .p (.int .i64 a0)), (1, .p (.int .i64 a1)), (4, .box [.raw (.int .i64 0), .raw (.int .i64 0)]), (6, .p (.int .i64 x))]) (K := fun x => spec_raMake_k1 a0 a1 x = some r) (fun x5 h => ?_) ?_
  ·unfold spec_raMake_k1 at h
   replace h := bind_some' h
   obtain ⟨u6, hu6, h⟩ := h
   refine k_sreg (r_draw Try_mixed 8 [] [(4, .box [.raw (.int .i64 0), .raw (.int .i64 0)]), (7, .box [.raw (.int .i64 (w64 (Int.tdiv a0 x5))), .raw (.int .i64 (w64 (Int.tdiv a1 x5)))])] [] [x5 ≠ (0 : Int), x5 ≠ (0 : Int)] (by kernel_rfl) ⟨(guardO_some hu6), (guardO_some hu6), trivial⟩) ?_
   refine k_seq ?_
   replace h := bind_some' h
   obtain ⟨v7, hv7, h⟩ := h
   refine k_sreg (r_go [(4, .box [.raw (.int .i64 0), .raw (.int .i64 0)]), (7, .box [.raw (.int .i64 (w64 (Int.tdiv a0 x5))), .raw (.int .i64 (w64 (Int.tdiv a1 x5)))]), (29, .p (.bool (!v7)))] [(1, {call := some ([.v (.agg #[.int .i64 (w64 (Int.tdiv a0 x5)), .int .i64 (w64 (Int.tdiv a1 x5))])], [.p (.bool v7)], true)})] [([.v (.agg #[.int .i64 (w64 (Int.tdiv a0 x5)), .int .i64 (w64 (Int.tdiv a1 x5))])] : List Arg) = [.v (.agg #[.int .i64 (w64 (Int.tdiv a0 x5)), .int .i64 (w64 (Int.tdiv a1 x5))])], Meets Try.prog 71 ([.v (.agg #[.int .i64 (w64 (Int.tdiv a0 x5)), .int .i64 (w64 (Int.tdiv a1 x5))])] ++ []) { vals := [.p (.bool v7)] }, (!true || List.all [.p (.bool v7)] simpleR) = true] (by kernel_rfl) ⟨rfl, (wk_spec_raGood hv7), (bt rfl), trivial⟩) ?_
   refine k_cond (b := (!v7)) (by kernel_rfl) (fun hc2_7 => ?_) (fun hc2_7 => ?_)
   ·replace h := ite_t hc2_7 h
    refine k_sreg (r_go [(4, .box [.raw (.int .i64 0), .raw (.int .i64 0)]), (5, .p (.bool false))] [] [] (by kernel_rfl) trivial) ?_
    refine k_ret ?_
    refine q_r ?_
    obtain rfl := Option.some.inj h
    exact e_ret (ls := [(.p (.agg #[.int .i64 0, .int .i64 0]), 4), (.p (.bool false), 5)]) (by kernel_rfl) rfl (by kernel_rfl) rfl
   ·replace h := ite_f hc2_7 h
    refine k_skip ?_
    refine q_n ?_
    refine k_sreg (r_go [(4, .box [.raw (.int .i64 (w64 (Int.tdiv a0 x5))), .raw (.int .i64 (w64 (Int.tdiv a1 x5)))]), (5, .p (.bool true))] [] [] (by kernel_rfl) trivial) ?_
    refine k_ret ?_
    obtain rfl := Option.some.inj h
    exact e_ret (ls := [(.p (.agg #[.int .i64 (w64 (Int.tdiv a0 x5)), .int .i64 (w64 (Int.tdiv a1 x5))]), 4), (.p (.bool true), 5)]) (by kernel_rfl) rfl (by kernel_rfl) rfl
  ·refine k_sreg (r_go [(0, .p (.int .i64 a0)), (1, .p (.int .i64 a1)), (4, .box [.raw (.int .i64 0), .raw (.int .i64 0)]), (6, .p (.int .i64 v4)), (17, .p (.bool (decide (a1 < 0))))] [] [] (by kernel_rfl) trivial) ?_
   refine k_cond (b := (decide (a1 < 0))) (by kernel_rfl) (fun hc2_8 => ?_) (fun hc2_8 => ?_)
   ·replace h := ite_t hc2_8 h
    refine k_reg (r_go [(0, .p (.int .i64 a0)), (1, .p (.int .i64 a1)), (4, .box [.raw (.int .i64 0), .raw (.int .i64 0)]), (6, .p (.int .i64 (w64 (0 - v4))))] [] [] (by kernel_rfl) trivial) ?_
    refine q_n ?_
    exact ⟨(w64 (0 - v4)), h, (wk_of (by kernel_rfl) (by kernel_rfl))⟩
   ·replace h := ite_f hc2_8 h
    refine k_skip ?_
    refine q_n ?_
    exact ⟨v4, h, (wk_of (by kernel_rfl) (by kernel_rfl))⟩
theorem wk_spec_raAdd {a0 : Qr} {a1 : Qr}  {r : (Qr × Bool)} (h : spec_raAdd a0 a1 = some r) : Meets Try.prog 107 [.v (vRt a0), .v (vRt a1)] { vals := [.p (vRt r.1), .p (.bool r.2)] } := by
 refine Meets_ofL (by kernel_rfl) Try.func107 rfl (by kernel_rfl) (l0 := [(0, .p (vRt a0)), (1, .p (vRt a1))]) (by kernel_rfl) ?_
 unfold spec_raAdd at h
 refine k_sreg (r_go [(2, .box (eRt a0)), (3, .box (eRt a1)), (4, .box [.raw (.int .i64 0), .raw (.int .i64 0)])] [] [] (by kernel_rfl) trivial) ?_
 replace h := bind_some' h
 obtain ⟨v1, hv1, h⟩ := h
 refine k_sreg (r_go [(4, .box (eRt v1.1)), (5, .p (.bool v1.2))] [(16, {call := some ([.v (.int .i64 (w64 ((w64 (a0.1 * a1.2)) + (w64 (a1.1 * a0.2))))), .v (.int .i64 (w64 (a0.2 * a1.2)))], [.p (vRt v1.1), .p (.bool v1.2)], true)})] [([.v (.int .i64 (w64 ((w64 (a0.1 * a1.2)) + (w64 (a1.1 * a0.2))))), .v (.int .i64 (w64 (a0.2 * a1.2)))] : List Arg) = [.v (.int .i64 (w64 ((w64 (a0.1 * a1.2)) + (w64 (a1.1 * a0.2))))), .v (.int .i64 (w64 (a0.2 * a1.2)))], Meets Try.prog 102 ([.v (.int .i64 (w64 ((w64 (a0.1 * a1.2)) + (w64 (a1.1 * a0.2))))), .v (.int .i64 (w64 (a0.2 * a1.2)))] ++ []) { vals := [.p (vRt v1.1), .p (.bool v1.2)] }, (!true || List.all [.p (vRt v1.1), .p (.bool v1.2)] simpleR) = true] (by kernel_rfl) ⟨rfl, (wk_spec_raMake hv1), (bt rfl), trivial⟩) ?_
 refine k_ret ?_
 obtain rfl := Option.some.inj h
 exact e_ret (ls := [(.p (vRt v1.1), 4), (.p (.bool v1.2), 5)]) (by kernel_rfl) rfl (by kernel_rfl) rfl
theorem wk_spec_liIf {a0 : (List Qp)}  {r : ((List Qp) × Bool)} (h : spec_liIf a0 = some r) : Meets Try.prog 55 [.d false [.sl none (a0.map ePt)]] { vals := [.ov true [.sl none (r.1.map ePt)], .p (.bool r.2)] } := by
 refine Meets_ofL (by kernel_rfl) Try.func55 rfl (by kernel_rfl) (l0 := [(0, .d false [.sl none (a0.map ePt)])]) (by kernel_rfl) ?_
 unfold spec_liIf at h
 refine k_sreg (r_go [(0, .d false [.sl none (a0.map ePt)]), (2, .box [.sl (some 71) []])] [] [] (by kernel_rfl) trivial) ?_
 refine k_sreg (r_go [(2, .box [.sl (some 71) []]), (4, .box [.sl none (a0.map ePt)])] [] [] (by kernel_rfl) trivial) ?_
 refine k_seq ?_
 replace h := bind_some' h
 obtain ⟨v1, hv1, h⟩ := h
 refine k_sreg (r_go [(2, .box [.sl (some 71) []]), (4, .box [.sl none (a0.map ePt)]), (9, .p (.bool (!v1)))] [(0, {b := some true}), (1, {call := some ([.d true [.sl none (a0.map ePt)]], [.p (.bool v1)], true)})] [frR [.sl none (a0.map ePt)] = true, ([.d true [.sl none (a0.map ePt)]] : List Arg) = [.d true [.sl none (a0.map ePt)]], Meets Try.prog 49 ([.d true [.sl none (a0.map ePt)]] ++ []) { vals := [.p (.bool v1)] }, (!true || List.all [.p (.bool v1)] simpleR) = true] (by kernel_rfl) ⟨(frR1 (frL_enc (fr_P (fr_P fr_I fr_I) (fr_P fr_I fr_I))) rfl), rfl, (wk_spec_liGood hv1), (bt rfl), trivial⟩) ?_
 refine k_cond (b := (!v1)) (by kernel_rfl) (fun hc2_1 => ?_) (fun hc2_1 => ?_)
 ·replace h := ite_t hc2_1 h
  refine k_sreg (r_go [(2, .box [.sl none []]), (3, .p (.bool false))] [] [] (by kernel_rfl) trivial) ?_
  refine k_ret ?_
  refine q_r ?_
  obtain rfl := Option.some.inj h
  exact e_ret (ls := [(.ov true [.sl none []], 2), (.p (.bool false), 3)]) (by kernel_rfl) rfl (by kernel_rfl) rfl
 ·replace h := ite_f hc2_1 h
  refine k_skip ?_
  refine q_n ?_
  refine k_sreg (r_go [(2, .box [.sl none (a0.map ePt)]), (3, .p (.bool true))] [(0, {b := some true})] [frR [.sl none (a0.map ePt)] = true] (by kernel_rfl) ⟨(frR1 (frL_enc (fr_P (fr_P fr_I fr_I) (fr_P fr_I fr_I))) rfl), trivial⟩) ?_
  refine k_ret ?_
  obtain rfl := Option.some.inj h
  exact e_ret (ls := [(.ov true [.sl none (a0.map ePt)], 2), (.p (.bool true), 3)]) (by kernel_rfl) rfl (by kernel_rfl) rfl
theorem wk_spec_liTurn {a0 : (List Qp)} {a1 : Qr}  {r : ((List Qp) × Bool)} (h : spec_liTurn a0 a1 = some r) : Meets Try.prog 66 [.d true [.sl none (a0.map ePt)], .v (vRt a1)] { vals := [.ov true [.sl none (r.1.map ePt)], .p (.bool r.2)] } := by
 refine Meets_ofL (by kernel_rfl) Try.func66 rfl (by kernel_rfl) (l0 := [(0, .d true [.sl none (a0.map ePt)]), (1, .p (vRt a1))]) (by kernel_rfl) ?_
 unfold spec_liTurn at h
 refine k_sreg (r_go [(2, .box [.sl none (a0.map ePt)]), (3, .box (eRt a1)), (4, .box [.sl (some 71) []])] [] [] (by kernel_rfl) trivial) ?_
 refine k_sreg (r_go [(2, .box [.sl none (a0.map ePt)]), (3, .box (eRt a1)), (4, .box [.sl (some 71) []]), (6, .ov false [.sl (some 71) []])] [] [] (by kernel_rfl) trivial) ?_
 refine k_join (J := fun (x : (List Qp)) => [(4, .box [.sl (some 71) []]), (6, .ov false [.sl (some 71) (x.map ePt)])]) (K := fun x => spec_liTurn_k1 x = some r) (fun x1 h => ?_) ?_
 ·unfold spec_liTurn_k1 at h
  replace h := bind_some' h
  obtain ⟨v2, hv2, h⟩ := h
  refine k_sreg (r_go [(4, .box [.sl none (v2.1.map ePt)]), (5, .p (.bool v2.2))] [(1, {call := some ([.d false [.sl none (x1.map ePt)]], [.ov true [.sl none (v2.1.map ePt)], .p (.bool v2.2)], false), fix := some (6, .d false [.sl none (x1.map ePt)])})] [([.d false [.sl none (eraL (x1.map ePt))]] : List Arg) = [.d false [.sl none (x1.map ePt)]], Meets Try.prog 55 ([.d false [.sl none (x1.map ePt)]] ++ []) { vals := [.ov true [.sl none (v2.1.map ePt)], .p (.bool v2.2)] }, (!false || List.all [.ov true [.sl none (v2.1.map ePt)], .p (.bool v2.2)] simpleR) = true, (SV.d false (eraR [.sl (some 71) (x1.map ePt)]) : SV) = .d false [.sl none (x1.map ePt)]] (by kernel_rfl) ⟨(by simp only [eraL_enc (h := ePt) (era_P (era_P er_I er_I) (era_P er_I er_I))]), (wk_spec_liIf hv2), rfl, (congrArg (fun z => SV.d false z) (erc_sl (eraL_enc (era_P (era_P er_I er_I) (era_P er_I er_I))) rfl)), trivial⟩) ?_
  refine k_ret ?_
  obtain rfl := Option.some.inj h
  exact e_ret (ls := [(.ov true [.sl none (v2.1.map ePt)], 4), (.p (.bool v2.2), 5)]) (by kernel_rfl) rfl (by kernel_rfl) rfl
 ·refine k_sreg (r_go [(3, .box (eRt a1)), (4, .box [.sl (some 71) []]), (6, .ov false [.sl (some 71) []]), (12, .d false [.sl none (a0.map ePt)]), (13, .p (.int .i64 (a0.length : Int))), (14, .p (.int .i64 0))] [(1, {b := some true}), (2, {n := some a0.length})] [frR [.sl none (a0.map ePt)] = true, (a0.map ePt).length = a0.length] (by kernel_rfl) ⟨(frR1 (frL_enc (fr_P (fr_P fr_I fr_I) (fr_P fr_I fr_I))) rfl), (List.length_map ..), trivial⟩) ?_
  refine k_block ?_
  obtain ⟨y4, hl_x3, hk_x3⟩ := bind_some' h
  clear h
  refine k_loop (J := fun (x : ((List Qp) × Int)) => [(3, .box (eRt a1)), (4, .box [.sl (some 71) []]), (6, .ov false [.sl (some 71) (x.1.map ePt)]), (12, .d false [.sl none (a0.map ePt)]), (13, .p (.int .i64 (a0.length : Int))), (14, .p (.int .i64 x.2))]) hl_x3 (wk_of (by kernel_rfl) (by kernel_rfl)) (fun x3 o_x3 h hy_x3 => ?_)
  unfold spec_liTurn_b1 at h
  refine k_sreg (r_go [(3, .box (eRt a1)), (4, .box [.sl (some 71) []]), (6, .ov false [.sl (some 71) (x3.1.map ePt)]), (12, .d false [.sl none (a0.map ePt)]), (13, .p (.int .i64 (a0.length : Int))), (14, .p (.int .i64 x3.2)), (15, .p (.bool (decide (x3.2 < (a0.length : Int)))))] [] [] (by kernel_rfl) trivial) ?_
  refine k_seq ?_
  refine k_cond (b := (decide (x3.2 < (a0.length : Int)))) (by kernel_rfl) (fun hc5_4 => ?_) (fun hc5_4 => ?_)
  ·replace h := ite_t hc5_4 h
   refine k_skip ?_
   refine q_n ?_
   refine k_seq ?_
   refine k_block ?_
   replace h := bind_some' h
   obtain ⟨v6, hv6, h⟩ := h
   refine k_sreg (r_go [(3, .box (eRt a1)), (4, .box [.sl (some 71) []]), (6, .ov false [.sl (some 71) (x3.1.map ePt)]), (8, .box (ePt v6)), (12, .d false [.sl none (a0.map ePt)]), (13, .p (.int .i64 (a0.length : Int))), (14, .p (.int .i64 x3.2))] [(0, {row := some (ePt v6)})] [0 ≤ x3.2, (a0.map ePt)[(Int.toNat x3.2)]? = some (ePt v6)] (by kernel_rfl) ⟨(idxO_some hv6).1, (map_get ePt (idxO_some hv6).2), trivial⟩) ?_
   replace h := bind_some' h
   obtain ⟨v7, hv7, h⟩ := h
   refine k_sreg (r_go [(3, .box (eRt a1)), (4, .box [.sl (some 71) []]), (6, .ov false [.sl (some 71) (x3.1.map ePt)]), (8, .box (ePt v6)), (9, .box (eRt v7.1)), (10, .p (.bool v7.2)), (12, .d false [.sl none (a0.map ePt)]), (13, .p (.int .i64 (a0.length : Int))), (14, .p (.int .i64 x3.2))] [(3, {call := some ([.v (vRt v6.2), .v (vRt a1)], [.p (vRt v7.1), .p (.bool v7.2)], true)})] [([.v (vRt v6.2), .v (vRt a1)] : List Arg) = [.v (vRt v6.2), .v (vRt a1)], Meets Try.prog 107 ([.v (vRt v6.2), .v (vRt a1)] ++ []) { vals := [.p (vRt v7.1), .p (.bool v7.2)] }, (!true || List.all [.p (vRt v7.1), .p (.bool v7.2)] simpleR) = true] (by kernel_rfl) ⟨rfl, (wk_spec_raAdd hv7), (bt rfl), trivial⟩) ?_
   refine k_seq ?_
   refine k_sreg (r_go [(3, .box (eRt a1)), (4, .box [.sl (some 71) []]), (6, .ov false [.sl (some 71) (x3.1.map ePt)]), (8, .box (ePt v6)), (9, .box (eRt v7.1)), (12, .d false [.sl none (a0.map ePt)]), (13, .p (.int .i64 (a0.length : Int))), (14, .p (.int .i64 x3.2)), (26, .p (.bool (!v7.2)))] [] [] (by kernel_rfl) trivial) ?_
   refine k_cond (b := (!v7.2)) (by kernel_rfl) (fun hc7_7 => ?_) (fun hc7_7 => ?_)
   ·replace h := ite_t hc7_7 h
    refine k_sreg (r_go [(4, .box [.sl none []]), (5, .p (.bool false))] [] [] (by kernel_rfl) trivial) ?_
    refine k_ret ?_
    refine q_r ?_
    refine b_r ?_
    refine q_r ?_
    refine lq_r ?_
    refine b_r ?_
    refine q_r ?_
    have hyy := hy_x3 _ (Option.some.inj h).symm
    subst hyy
    have h := hk_x3
    dsimp only [Sum.elim] at h
    obtain rfl := Option.some.inj h
    exact e_ret (ls := [(.ov true [.sl none []], 4), (.p (.bool false), 5)]) (by kernel_rfl) rfl (by kernel_rfl) rfl
   ·replace h := ite_f hc7_7 h
    refine k_skip ?_
    refine q_n ?_
    replace h := bind_some' h
    obtain ⟨u9, hu9, h⟩ := h
    refine k_reg (r_go [(3, .box (eRt a1)), (4, .box [.sl (some 71) []]), (6, .ov false [.sl (some 71) ((x3.1 ++ [(v6.1, v7.1)]).map ePt)]), (12, .d false [.sl none (a0.map ePt)]), (13, .p (.int .i64 (a0.length : Int))), (14, .p (.int .i64 x3.2))] [(6, {fix := some (34, .ov false [.sl (some 71) ((x3.1 ++ [(v6.1, v7.1)]).map ePt)])})] [List.length ((x3.1.map ePt) : List (List C)) + List.length ((([(v6.1, v7.1)]).map ePt) : List (List C)) ≤ 1099511627776, ∀ row ∈ ((([(v6.1, v7.1)]).map ePt) : List (List C)), row.length = 4, (SV.ov false [.sl (some 71) ((x3.1.map ePt) ++ (([(v6.1, v7.1)]).map ePt))] : SV) = .ov false [.sl (some 71) ((x3.1 ++ [(v6.1, v7.1)]).map ePt)]] (by kernel_rfl) ⟨(by have hg := (guardO_some hu9); simpa using hg), (rows_len fun _ => rfl), (congrArg (fun z => SV.ov false [.sl (some 71) z]) (List.map_append ..).symm), trivial⟩) ?_
    refine b_n ?_
    refine q_n ?_
    refine k_reg (r_go [(3, .box (eRt a1)), (4, .box [.sl (some 71) []]), (6, .ov false [.sl (some 71) ((x3.1 ++ [(v6.1, v7.1)]).map ePt)]), (12, .d false [.sl none (a0.map ePt)]), (13, .p (.int .i64 (a0.length : Int))), (14, .p (.int .i64 (w64 (x3.2 + 1))))] [] [] (by kernel_rfl) trivial) ?_
    exact lq_n ((x3.1 ++ [(v6.1, v7.1)]), (w64 (x3.2 + 1))) (Option.some.inj h).symm (wk_of (by kernel_rfl) (by kernel_rfl))
  ·replace h := ite_f hc5_4 h
   refine k_exit ?_
   refine q_x ?_
   refine lq_x ?_
   refine b_x ?_
   have hyy := hy_x3 _ (Option.some.inj h).symm
   subst hyy
   have h := hk_x3
   dsimp only [Sum.elim] at h
   refine q_n ?_
   exact ⟨x3.1, h, (wk_of (by kernel_rfl) (by kernel_rfl))⟩
theorem wk_spec_TurnLift {a0 : (List Qp)} {a1 : Qr}  {r : ((List Qp) × Bool)} (h : spec_TurnLift a0 a1 = some r) : Meets Try.prog 32 [.d true [.sl none (a0.map ePt)], .v (vRt a1)] { vals := [.ov true [.sl none (r.1.map ePt)], .p (.bool r.2)] } := by
 refine Meets_ofL (by kernel_rfl) Try.func32 rfl (by kernel_rfl) (l0 := [(0, .d true [.sl none (a0.map ePt)]), (1, .p (vRt a1))]) (by kernel_rfl) ?_
 unfold spec_TurnLift at h
 refine k_sreg (r_go [(2, .box [.sl none (a0.map ePt)]), (3, .box (eRt a1)), (4, .box [.sl (some 71) []])] [] [] (by kernel_rfl) trivial) ?_
 refine k_seq ?_
 replace h := bind_some' h
 obtain ⟨v1, hv1, h⟩ := h
 replace h := bind_some' h
 obtain ⟨w3, hw3, h⟩ := h
 refine k_sreg (l1 := [(2, .box [.sl none (a0.map ePt)]), (3, .box (eRt a1)), (4, .box [.sl (some 71) []]), (13, .p (.bool w3))]) ?_ ?_
 ·clear h
  rcases Bool.eq_false_or_eq_true (!v1) with ha0 | ha0
  ·replace hw3 := ite_t ha0 hw3
   have hw3 := Option.some.inj hw3
   subst hw3
   exact (r_go [(2, .box [.sl none (a0.map ePt)]), (3, .box (eRt a1)), (4, .box [.sl (some 71) []]), (13, .p (.bool true))] [(0, {b := some true}), (1, {call := some ([.d true [.sl none (a0.map ePt)]], [.p (.bool v1)], true)}), (4, {g := some true}), (5, {g := some true}), (6, {g := some true}), (7, {b := some true})] [frR [.sl none (a0.map ePt)] = true, ([.d true [.sl none (a0.map ePt)]] : List Arg) = [.d true [.sl none (a0.map ePt)]], Meets Try.prog 49 ([.d true [.sl none (a0.map ePt)]] ++ []) { vals := [.p (.bool v1)] }, (!true || List.all [.p (.bool v1)] simpleR) = true, (!v1) = true, (!v1) = true, (!v1) = true, (!v1) = true] (by kernel_rfl) ⟨(frR1 (frL_enc (fr_P (fr_P fr_I fr_I) (fr_P fr_I fr_I))) rfl), rfl, (wk_spec_liGood hv1), (bt rfl), ha0, ha0, ha0, ha0, trivial⟩)
  ·replace hw3 := ite_f ha0 hw3
   replace hw3 := bind_some' hw3
   obtain ⟨v2, hv2, hw3⟩ := hw3
   have hw3 := Option.some.inj hw3
   subst hw3
   exact (r_go [(2, .box [.sl none (a0.map ePt)]), (3, .box (eRt a1)), (4, .box [.sl (some 71) []]), (13, .p (.bool (!v2)))] [(0, {b := some true}), (1, {call := some ([.d true [.sl none (a0.map ePt)]], [.p (.bool v1)], true)}), (4, {g := some false}), (5, {g := some false, call := some ([.v (vRt a1)], [.p (.bool v2)], true)}), (6, {g := some false}), (7, {b := some false})] [frR [.sl none (a0.map ePt)] = true, ([.d true [.sl none (a0.map ePt)]] : List Arg) = [.d true [.sl none (a0.map ePt)]], Meets Try.prog 49 ([.d true [.sl none (a0.map ePt)]] ++ []) { vals := [.p (.bool v1)] }, (!true || List.all [.p (.bool v1)] simpleR) = true, (!v1) = false, (!v1) = false, ([.v (vRt a1)] : List Arg) = [.v (vRt a1)], Meets Try.prog 65 ([.v (vRt a1)] ++ []) { vals := [.p (.bool v2)] }, (!true || List.all [.p (.bool v2)] simpleR) = true, (!v1) = false, (!v1) = false] (by kernel_rfl) ⟨(frR1 (frL_enc (fr_P (fr_P fr_I fr_I) (fr_P fr_I fr_I))) rfl), rfl, (wk_spec_liGood hv1), (bt rfl), ha0, ha0, rfl, (wk_spec_liNear hv2), (bt rfl), ha0, ha0, trivial⟩)
 ·refine k_cond (b := w3) (by kernel_rfl) (fun hc2_3 => ?_) (fun hc2_3 => ?_)
  ·replace h := ite_t hc2_3 h
   refine k_sreg (r_go [(4, .box [.sl none []]), (5, .p (.bool false))] [] [] (by kernel_rfl) trivial) ?_
   refine k_ret ?_
   refine q_r ?_
   obtain rfl := Option.some.inj h
   exact e_ret (ls := [(.ov true [.sl none []], 4), (.p (.bool false), 5)]) (by kernel_rfl) rfl (by kernel_rfl) rfl
  ·replace h := ite_f hc2_3 h
   refine k_skip ?_
   refine q_n ?_
   replace h := bind_some' h
   obtain ⟨v5, hv5, h⟩ := h
   refine k_sreg (r_go [(4, .box [.sl none (v5.1.map ePt)]), (5, .p (.bool v5.2))] [(0, {b := some true}), (2, {call := some ([.d true [.sl none (a0.map ePt)], .v (vRt a1)], [.ov true [.sl none (v5.1.map ePt)], .p (.bool v5.2)], false)})] [frR [.sl none (a0.map ePt)] = true, ([.d true [.sl none (a0.map ePt)], .v (vRt a1)] : List Arg) = [.d true [.sl none (a0.map ePt)], .v (vRt a1)], Meets Try.prog 66 ([.d true [.sl none (a0.map ePt)], .v (vRt a1)] ++ []) { vals := [.ov true [.sl none (v5.1.map ePt)], .p (.bool v5.2)] }, (!false || List.all [.ov true [.sl none (v5.1.map ePt)], .p (.bool v5.2)] simpleR) = true] (by kernel_rfl) ⟨(frR1 (frL_enc (fr_P (fr_P fr_I fr_I) (fr_P fr_I fr_I))) rfl), rfl, (wk_spec_liTurn hv5), rfl, trivial⟩) ?_
   refine k_ret ?_
   obtain rfl := Option.some.inj h
   exact e_ret (ls := [(.ov true [.sl none (v5.1.map ePt)], 4), (.p (.bool v5.2), 5)]) (by kernel_rfl) rfl (by kernel_rfl) rfl
theorem wk_impl_within {a0 : Int} {a1 : Int} {a2 : Int}  {r : Bool} (h : impl_within a0 a1 a2 = some r) : Meets Try.prog 92 [.v (.int .i64 a0), .v (.int .i64 a1), .v (.int .i64 a2)] { vals := [.p (.bool r)] } := by
 refine Meets_ofL (by kernel_rfl) Try.func92 rfl (by kernel_rfl) (l0 := [(0, .p (.int .i64 a0)), (1, .p (.int .i64 a1)), (2, .p (.int .i64 a2))]) (by kernel_rfl) ?_
 unfold impl_within at h
 refine k_sreg (r_go [(0, .p (.int .i64 a0)), (1, .p (.int .i64 a1)), (2, .p (.int .i64 a2))] [] [] (by kernel_rfl) trivial) ?_
 refine k_sreg (l1 := [(6, .p (.bool ((decide (a1 ≤ a0)) && (decide (a0 ≤ a2)))))]) ?_ ?_
 ·rcases Bool.eq_false_or_eq_true (decide (a1 ≤ a0)) with ha0 | ha0
  ·exact RegOk.of_eq (l2 := [(6, .p (.bool ((decide (a1 ≤ a0)) && (decide (a0 ≤ a2)))))]) (r_go [(6, .p (.bool (decide (a0 ≤ a2))))] [(4, {g := some true}), (5, {g := some true}), (6, {g := some true}), (7, {b := some true})] [(decide (a1 ≤ a0)) = true, (decide (a1 ≤ a0)) = true, (decide (a1 ≤ a0)) = true, (decide (a1 ≤ a0)) = true] (by kernel_rfl) ⟨ha0, ha0, ha0, ha0, trivial⟩) (by simp [ha0])
  ·exact RegOk.of_eq (l2 := [(6, .p (.bool ((decide (a1 ≤ a0)) && (decide (a0 ≤ a2)))))]) (r_go [(6, .p (.bool false))] [(4, {g := some false}), (5, {g := some false}), (6, {g := some false}), (7, {b := some false})] [(decide (a1 ≤ a0)) = false, (decide (a1 ≤ a0)) = false, (decide (a1 ≤ a0)) = false, (decide (a1 ≤ a0)) = false] (by kernel_rfl) ⟨ha0, ha0, ha0, ha0, trivial⟩) (by simp [ha0])
 ·refine k_ret ?_
  obtain rfl := Option.some.inj h
  exact e_ret (ls := [(.p (.bool ((decide (a1 ≤ a0)) && (decide (a0 ≤ a2)))), 6)]) (by kernel_rfl) rfl (by kernel_rfl) rfl
theorem wk_slices_IndexFunc_Limpl_Point_impl_Point_v {a0 : (List Qp)} {a1 : (Qp → Option Bool)} {F1 : FuncId} (hp1 : ∀ x0 y, a1 x0 = some y → Meets Try.prog F1 ([.v (vPt x0)] ++ []) { vals := [.p (.bool y)] }) {r : Int} (h : slices_IndexFunc_Limpl_Point_impl_Point a0 a1 = some r) : Meets Try.prog 126 [.d false [.sl none (a0.map ePt)], .v (.func (.func F1) #[] #[])] { vals := [.p (.int .i64 r)] } := by
 refine Meets_ofL (by kernel_rfl) Try.func126 rfl (by kernel_rfl) (l0 := [(0, .d false [.sl none (a0.map ePt)]), (1, .p (.func (.func F1) #[] #[]))]) (by kernel_rfl) ?_
 unfold slices_IndexFunc_Limpl_Point_impl_Point at h
 refine k_sreg (r_go [(0, .d false [.sl none (a0.map ePt)]), (1, .p (.func (.func F1) #[] #[]))] [] [] (by kernel_rfl) trivial) ?_
 refine k_join (J := fun (x : Unit) => []) (K := fun x => slices_IndexFunc_Limpl_Point_impl_Point_k1 x = some r) (fun x1 h => ?_) ?_
 ·unfold slices_IndexFunc_Limpl_Point_impl_Point_k1 at h
  refine k_sreg (r_go [(4, .p (.int .i64 (-1)))] [] [] (by kernel_rfl) trivial) ?_
  refine k_ret ?_
  obtain rfl := Option.some.inj h
  exact e_ret (ls := [(.p (.int .i64 (-1)), 4)]) (by kernel_rfl) rfl (by kernel_rfl) rfl
 ·refine k_sreg (r_go [(0, .d false [.sl none (a0.map ePt)]), (1, .p (.func (.func F1) #[] #[])), (7, .p (.int .i64 (a0.length : Int))), (8, .p (.int .i64 0))] [(1, {n := some a0.length})] [(a0.map ePt).length = a0.length] (by kernel_rfl) ⟨(List.length_map ..), trivial⟩) ?_
  refine k_block ?_
  obtain ⟨y3, hl_x2, hk_x2⟩ := bind_some' h
  clear h
  refine k_loop (J := fun (x : Int) => [(0, .d false [.sl none (a0.map ePt)]), (1, .p (.func (.func F1) #[] #[])), (7, .p (.int .i64 (a0.length : Int))), (8, .p (.int .i64 x))]) hl_x2 (wk_of (by kernel_rfl) (by kernel_rfl)) (fun x2 o_x2 h hy_x2 => ?_)
  unfold slices_IndexFunc_Limpl_Point_impl_Point_b1 at h
  refine k_sreg (r_go [(0, .d false [.sl none (a0.map ePt)]), (1, .p (.func (.func F1) #[] #[])), (7, .p (.int .i64 (a0.length : Int))), (8, .p (.int .i64 x2)), (9, .p (.bool (decide (x2 < (a0.length : Int)))))] [] [] (by kernel_rfl) trivial) ?_
  refine k_seq ?_
  refine k_cond (b := (decide (x2 < (a0.length : Int)))) (by kernel_rfl) (fun hc5_3 => ?_) (fun hc5_3 => ?_)
  ·replace h := ite_t hc5_3 h
   refine k_skip ?_
   refine q_n ?_
   refine k_seq ?_
   refine k_block ?_
   refine k_sreg (r_go [(0, .d false [.sl none (a0.map ePt)]), (1, .p (.func (.func F1) #[] #[])), (5, .p (.int .i64 x2)), (7, .p (.int .i64 (a0.length : Int))), (8, .p (.int .i64 x2))] [] [] (by kernel_rfl) trivial) ?_
   replace h := bind_some' h
   obtain ⟨v5, hv5, h⟩ := h
   replace h := bind_some' h
   obtain ⟨v6, hv6, h⟩ := h
   refine k_sreg (r_go [(0, .d false [.sl none (a0.map ePt)]), (1, .p (.func (.func F1) #[] #[])), (5, .p (.int .i64 x2)), (7, .p (.int .i64 (a0.length : Int))), (8, .p (.int .i64 x2)), (16, .p (.bool v6))] [(3, {row := some (ePt v5)}), (5, {call := some ([.v (vPt v5)], [.p (.bool v6)], true)})] [0 ≤ x2, (a0.map ePt)[(Int.toNat x2)]? = some (ePt v5), ([.v (vPt v5)] : List Arg) = [.v (vPt v5)], Meets Try.prog F1 ([.v (vPt v5)] ++ []) { vals := [.p (.bool v6)] }, List.all [.p (.bool v6)] simpleR = true] (by kernel_rfl) ⟨(idxO_some hv5).1, (map_get ePt (idxO_some hv5).2), rfl, (hp1 _ _ hv6), rfl, trivial⟩) ?_
   refine k_cond (b := v6) (by kernel_rfl) (fun hc6_6 => ?_) (fun hc6_6 => ?_)
   ·replace h := ite_t hc6_6 h
    refine k_sreg (r_go [(4, .p (.int .i64 x2))] [] [] (by kernel_rfl) trivial) ?_
    refine k_ret ?_
    refine b_r ?_
    refine q_r ?_
    refine lq_r ?_
    refine b_r ?_
    refine q_r ?_
    have hyy := hy_x2 _ (Option.some.inj h).symm
    subst hyy
    have h := hk_x2
    dsimp only [Sum.elim] at h
    obtain rfl := Option.some.inj h
    exact e_ret (ls := [(.p (.int .i64 x2), 4)]) (by kernel_rfl) rfl (by kernel_rfl) rfl
   ·replace h := ite_f hc6_6 h
    refine k_skip ?_
    refine b_n ?_
    refine q_n ?_
    refine k_reg (r_go [(0, .d false [.sl none (a0.map ePt)]), (1, .p (.func (.func F1) #[] #[])), (7, .p (.int .i64 (a0.length : Int))), (8, .p (.int .i64 (w64 (x2 + 1))))] [] [] (by kernel_rfl) trivial) ?_
    exact lq_n (w64 (x2 + 1)) (Option.some.inj h).symm (wk_of (by kernel_rfl) (by kernel_rfl))
  ·replace h := ite_f hc5_3 h
   refine k_exit ?_
   refine q_x ?_
   refine lq_x ?_
   refine b_x ?_
   have hyy := hy_x2 _ (Option.some.inj h).symm
   subst hyy
   have h := hk_x2
   dsimp only [Sum.elim] at h
   refine q_n ?_
   exact ⟨(), h, (wk_of (by kernel_rfl) (by kernel_rfl))⟩
theorem wk_slices_ContainsFunc_Limpl_Point_impl_Point_v {a0 : (List Qp)} {a1 : (Qp → Option Bool)} {F1 : FuncId} (hp1 : ∀ x0 y, a1 x0 = some y → Meets Try.prog F1 ([.v (vPt x0)] ++ []) { vals := [.p (.bool y)] }) {r : Bool} (h : slices_ContainsFunc_Limpl_Point_impl_Point a0 a1 = some r) : Meets Try.prog 93 [.d false [.sl none (a0.map ePt)], .v (.func (.func F1) #[] #[])] { vals := [.p (.bool r)] } := by
 refine Meets_ofL (by kernel_rfl) Try.func93 rfl (by kernel_rfl) (l0 := [(0, .d false [.sl none (a0.map ePt)]), (1, .p (.func (.func F1) #[] #[]))]) (by kernel_rfl) ?_
 unfold slices_ContainsFunc_Limpl_Point_impl_Point at h
 refine k_sreg (r_go [(0, .d false [.sl none (a0.map ePt)]), (1, .p (.func (.func F1) #[] #[]))] [] [] (by kernel_rfl) trivial) ?_
 replace h := bind_some' h
 obtain ⟨v1, hv1, h⟩ := h
 refine k_sreg (r_go [(4, .p (.bool (decide (v1 ≥ 0))))] [(2, {call := some ([.d false [.sl none (a0.map ePt)], .v (.func (.func F1) #[] #[])], [.p (.int .i64 v1)], true)})] [([.d false [.sl none (a0.map ePt)], .v (.func (.func F1) #[] #[])] : List Arg) = [.d false [.sl none (a0.map ePt)], .v (.func (.func F1) #[] #[])], Meets Try.prog 126 ([.d false [.sl none (a0.map ePt)], .v (.func (.func F1) #[] #[])] ++ []) { vals := [.p (.int .i64 v1)] }, (!true || List.all [.p (.int .i64 v1)] simpleR) = true] (by kernel_rfl) ⟨rfl, (wk_slices_IndexFunc_Limpl_Point_impl_Point_v hp1 hv1), (bt rfl), trivial⟩) ?_
 refine k_ret ?_
 obtain rfl := Option.some.inj h
 exact e_ret (ls := [(.p (.bool (decide (v1 ≥ 0))), 4)]) (by kernel_rfl) rfl (by kernel_rfl) rfl
theorem wk_impl_abs {a0 : Int}  {r : Int} (h : impl_abs a0 = some r) : Meets Try.prog 135 [.v (.int .i64 a0)] { vals := [.p (.int .i64 r)] } := by
 refine Meets_ofL (by kernel_rfl) Try.func135 rfl (by kernel_rfl) (l0 := [(0, .p (.int .i64 a0))]) (by kernel_rfl) ?_
 unfold impl_abs at h
 refine k_sreg (r_go [(0, .p (.int .i64 a0))] [] [] (by kernel_rfl) trivial) ?_
 refine k_seq ?_
 refine k_sreg (r_go [(0, .p (.int .i64 a0)), (4, .p (.bool (decide (a0 < 0))))] [] [] (by kernel_rfl) trivial) ?_
 refine k_cond (b := (decide (a0 < 0))) (by kernel_rfl) (fun hc2_0 => ?_) (fun hc2_0 => ?_)
 ·replace h := ite_t hc2_0 h
  refine k_sreg (r_go [(2, .p (.int .i64 (w64 (0 - a0))))] [] [] (by kernel_rfl) trivial) ?_
  refine k_ret ?_
  refine q_r ?_
  obtain rfl := Option.some.inj h
  exact e_ret (ls := [(.p (.int .i64 (w64 (0 - a0))), 2)]) (by kernel_rfl) rfl (by kernel_rfl) rfl
 ·replace h := ite_f hc2_0 h
  refine k_skip ?_
  refine q_n ?_
  refine k_sreg (r_go [(2, .p (.int .i64 a0))] [] [] (by kernel_rfl) trivial) ?_
  refine k_ret ?_
  obtain rfl := Option.some.inj h
  exact e_ret (ls := [(.p (.int .i64 a0), 2)]) (by kernel_rfl) rfl (by kernel_rfl) rfl
theorem wk_impl_greatestDivisor {a0 : Int} {a1 : Int}  {r : Int} (h : impl_greatestDivisor a0 a1 = some r) : Meets Try.prog 128 [.v (.int .i64 a0), .v (.int .i64 a1)] { vals := [.p (.int .i64 r)] } := by
 refine Meets_ofL (by kernel_rfl) Try.func128 rfl (by kernel_rfl) (l0 := [(0, .p (.int .i64 a0)), (1, .p (.int .i64 a1))]) (by kernel_rfl) ?_
 unfold impl_greatestDivisor at h
 refine k_sreg (r_go [(0, .p (.int .i64 a0)), (1, .p (.int .i64 a1))] [] [] (by kernel_rfl) trivial) ?_
 replace h := bind_some' h
 obtain ⟨v1, hv1, h⟩ := h
 replace h := bind_some' h
 obtain ⟨v2, hv2, h⟩ := h
 refine k_sreg (r_go [(0, .p (.int .i64 v1)), (1, .p (.int .i64 v2))] [(1, {call := some ([.v (.int .i64 a0)], [.p (.int .i64 v1)], true)}), (3, {call := some ([.v (.int .i64 a1)], [.p (.int .i64 v2)], true)})] [([.v (.int .i64 a0)] : List Arg) = [.v (.int .i64 a0)], Meets Try.prog 135 ([.v (.int .i64 a0)] ++ []) { vals := [.p (.int .i64 v1)] }, (!true || List.all [.p (.int .i64 v1)] simpleR) = true, ([.v (.int .i64 a1)] : List Arg) = [.v (.int .i64 a1)], Meets Try.prog 135 ([.v (.int .i64 a1)] ++ []) { vals := [.p (.int .i64 v2)] }, (!true || List.all [.p (.int .i64 v2)] simpleR) = true] (by kernel_rfl) ⟨rfl, (wk_impl_abs hv1), (bt rfl), rfl, (wk_impl_abs hv2), (bt rfl), trivial⟩) ?_
 refine k_join (J := fun (x : Int) => [(0, .p (.int .i64 x))]) (K := fun x => impl_greatestDivisor_k1 x = some r) (fun x3 h => ?_) ?_
 ·unfold impl_greatestDivisor_k1 at h
  refine k_sreg (r_go [(4, .p (.int .i64 x3))] [] [] (by kernel_rfl) trivial) ?_
  refine k_ret ?_
  obtain rfl := Option.some.inj h
  exact e_ret (ls := [(.p (.int .i64 x3), 4)]) (by kernel_rfl) rfl (by kernel_rfl) rfl
 ·refine k_block ?_
  obtain ⟨y5, hl_x4, hk_x4⟩ := bind_some' h
  clear h
  refine k_loop (J := fun (x : Qr) => [(0, .p (.int .i64 x.1)), (1, .p (.int .i64 x.2))]) hl_x4 (wk_of (by kernel_rfl) (by kernel_rfl)) (fun x4 o_x4 h hy_x4 => ?_)
  unfold impl_greatestDivisor_b1 at h
  refine k_seq ?_
  refine k_sreg (r_go [(0, .p (.int .i64 x4.1)), (1, .p (.int .i64 x4.2)), (10, .p (.bool (x4.2 != 0)))] [] [] (by kernel_rfl) trivial) ?_
  refine k_cond (b := (x4.2 != 0)) (by kernel_rfl) (fun hc5_5 => ?_) (fun hc5_5 => ?_)
  ·replace h := ite_t hc5_5 h
   refine k_skip ?_
   refine q_n ?_
   refine k_block ?_
   replace h := bind_some' h
   obtain ⟨u7, hu7, h⟩ := h
   refine k_reg (r_draw Try_mixed 5 [] [(0, .p (.int .i64 x4.2)), (1, .p (.int .i64 (Int.tmod x4.1 x4.2)))] [] [x4.2 ≠ (0 : Int)] (by kernel_rfl) ⟨(guardO_some hu7), trivial⟩) ?_
   refine b_n ?_
   exact lq_n (x4.2, (Int.tmod x4.1 x4.2)) (Option.some.inj h).symm (wk_of (by kernel_rfl) (by kernel_rfl))
  ·replace h := ite_f hc5_5 h
   refine k_exit ?_
   refine q_x ?_
   refine lq_x ?_
   refine b_x ?_
   have hyy := hy_x4 _ (Option.some.inj h).symm
   subst hyy
   have h := hk_x4
   refine q_n ?_
   exact ⟨x4.1, h, (wk_of (by kernel_rfl) (by kernel_rfl))⟩
theorem wk_impl_isRat {a0 : Qr}  {r : Bool} (h : impl_isRat a0 = some r) : Meets Try.prog 96 [.v (vRt a0)] { vals := [.p (.bool r)] } := by
 refine Meets_ofL (by kernel_rfl) Try.func96 rfl (by kernel_rfl) (l0 := [(0, .p (vRt a0))]) (by kernel_rfl) ?_
 unfold impl_isRat at h
 refine k_sreg (r_go [(1, .box (eRt a0))] [] [] (by kernel_rfl) trivial) ?_
 replace h := bind_some' h
 obtain ⟨v1, hv1, h⟩ := h
 replace h := bind_some' h
 obtain ⟨w4, hw4, h⟩ := h
 refine k_sreg (l1 := [(2, .p (.bool w4))]) ?_ ?_
 ·clear h
  rcases Bool.eq_false_or_eq_true v1 with ha0 | ha0
  ·replace hw4 := ite_t ha0 hw4
   replace hw4 := bind_some' hw4
   obtain ⟨v2, hv2, hw4⟩ := hw4
   rcases Bool.eq_false_or_eq_true v2 with ha1 | ha1
   ·replace hw4 := ite_t ha1 hw4
    replace hw4 := bind_some' hw4
    obtain ⟨v3, hv3, hw4⟩ := hw4
    have hw4 := Option.some.inj hw4
    subst hw4
    exact (r_go [(2, .p (.bool (v3 == 1)))] [(2, {call := some ([.v (.int .i64 a0.2), .v (.int .i64 1), .v (.int .i64 1000000000)], [.p (.bool v1)], true)}), (4, {g := some true}), (5, {g := some true}), (6, {g := some true, call := some ([.v (.int .i64 a0.1), .v (.int .i64 (-1000000000)), .v (.int .i64 1000000000)], [.p (.bool v2)], true)}), (7, {b := some true}), (9, {g := some true}), (10, {g := some true}), (11, {g := some true}), (12, {g := some true}), (13, {g := some true, call := some ([.v (.int .i64 a0.1), .v (.int .i64 a0.2)], [.p (.int .i64 v3)], true)}), (14, {g := some true}), (15, {b := some true})] [([.v (.int .i64 a0.2), .v (.int .i64 1), .v (.int .i64 1000000000)] : List Arg) = [.v (.int .i64 a0.2), .v (.int .i64 1), .v (.int .i64 1000000000)], Meets Try.prog 92 ([.v (.int .i64 a0.2), .v (.int .i64 1), .v (.int .i64 1000000000)] ++ []) { vals := [.p (.bool v1)] }, (!true || List.all [.p (.bool v1)] simpleR) = true, v1 = true, v1 = true, v1 = true, ([.v (.int .i64 a0.1), .v (.int .i64 (-1000000000)), .v (.int .i64 1000000000)] : List Arg) = [.v (.int .i64 a0.1), .v (.int .i64 (-1000000000)), .v (.int .i64 1000000000)], Meets Try.prog 92 ([.v (.int .i64 a0.1), .v (.int .i64 (-1000000000)), .v (.int .i64 1000000000)] ++ []) { vals := [.p (.bool v2)] }, (!true || List.all [.p (.bool v2)] simpleR) = true, v1 = true, v2 = true, v2 = true, v2 = true, v2 = true, v2 = true, ([.v (.int .i64 a0.1), .v (.int .i64 a0.2)] : List Arg) = [.v (.int .i64 a0.1), .v (.int .i64 a0.2)], Meets Try.prog 128 ([.v (.int .i64 a0.1), .v (.int .i64 a0.2)] ++ []) { vals := [.p (.int .i64 v3)] }, (!true || List.all [.p (.int .i64 v3)] simpleR) = true, v2 = true, v2 = true] (by kernel_rfl) ⟨rfl, (wk_impl_within hv1), (bt rfl), ha0, ha0, ha0, rfl, (wk_impl_within hv2), (bt rfl), ha0, ha1, ha1, ha1, ha1, ha1, rfl, (wk_impl_greatestDivisor hv3), (bt rfl), ha1, ha1, trivial⟩)
   ·replace hw4 := ite_f ha1 hw4
    have hw4 := Option.some.inj hw4
    subst hw4
    exact (r_go [(2, .p (.bool false))] [(2, {call := some ([.v (.int .i64 a0.2), .v (.int .i64 1), .v (.int .i64 1000000000)], [.p (.bool v1)], true)}), (4, {g := some true}), (5, {g := some true}), (6, {g := some true, call := some ([.v (.int .i64 a0.1), .v (.int .i64 (-1000000000)), .v (.int .i64 1000000000)], [.p (.bool v2)], true)}), (7, {b := some true}), (9, {g := some false}), (10, {g := some false}), (11, {g := some false}), (12, {g := some false}), (13, {g := some false}), (14, {g := some false}), (15, {b := some false})] [([.v (.int .i64 a0.2), .v (.int .i64 1), .v (.int .i64 1000000000)] : List Arg) = [.v (.int .i64 a0.2), .v (.int .i64 1), .v (.int .i64 1000000000)], Meets Try.prog 92 ([.v (.int .i64 a0.2), .v (.int .i64 1), .v (.int .i64 1000000000)] ++ []) { vals := [.p (.bool v1)] }, (!true || List.all [.p (.bool v1)] simpleR) = true, v1 = true, v1 = true, v1 = true, ([.v (.int .i64 a0.1), .v (.int .i64 (-1000000000)), .v (.int .i64 1000000000)] : List Arg) = [.v (.int .i64 a0.1), .v (.int .i64 (-1000000000)), .v (.int .i64 1000000000)], Meets Try.prog 92 ([.v (.int .i64 a0.1), .v (.int .i64 (-1000000000)), .v (.int .i64 1000000000)] ++ []) { vals := [.p (.bool v2)] }, (!true || List.all [.p (.bool v2)] simpleR) = true, v1 = true, v2 = false, v2 = false, v2 = false, v2 = false, v2 = false, v2 = false, v2 = false] (by kernel_rfl) ⟨rfl, (wk_impl_within hv1), (bt rfl), ha0, ha0, ha0, rfl, (wk_impl_within hv2), (bt rfl), ha0, ha1, ha1, ha1, ha1, ha1, ha1, ha1, trivial⟩)
  ·replace hw4 := ite_f ha0 hw4
   have hw4 := Option.some.inj hw4
   subst hw4
   exact (r_go [(2, .p (.bool false))] [(2, {call := some ([.v (.int .i64 a0.2), .v (.int .i64 1), .v (.int .i64 1000000000)], [.p (.bool v1)], true)}), (4, {g := some false}), (5, {g := some false}), (6, {g := some false}), (7, {b := some false}), (9, {g := some false}), (10, {g := some false}), (11, {g := some false}), (12, {g := some false}), (13, {g := some false}), (14, {g := some false}), (15, {b := some false})] [([.v (.int .i64 a0.2), .v (.int .i64 1), .v (.int .i64 1000000000)] : List Arg) = [.v (.int .i64 a0.2), .v (.int .i64 1), .v (.int .i64 1000000000)], Meets Try.prog 92 ([.v (.int .i64 a0.2), .v (.int .i64 1), .v (.int .i64 1000000000)] ++ []) { vals := [.p (.bool v1)] }, (!true || List.all [.p (.bool v1)] simpleR) = true, v1 = false, v1 = false, v1 = false, v1 = false, false = false, false = false, false = false, false = false, false = false, false = false, false = false] (by kernel_rfl) ⟨rfl, (wk_impl_within hv1), (bt rfl), ha0, ha0, ha0, ha0, rfl, rfl, rfl, rfl, rfl, rfl, rfl, trivial⟩)
 ·refine k_ret ?_
  obtain rfl := Option.some.inj h
  exact e_ret (ls := [(.p (.bool w4), 2)]) (by kernel_rfl) rfl (by kernel_rfl) rfl
theorem wk_impl_isUnit {a0 : Qr}  {r : Bool} (h : impl_isUnit a0 = some r) : Meets Try.prog 127 [.v (vRt a0)] { vals := [.p (.bool r)] } := by
 refine Meets_ofL (by kernel_rfl) Try.func127 rfl (by kernel_rfl) (l0 := [(0, .p (vRt a0))]) (by kernel_rfl) ?_
 unfold impl_isUnit at h
 refine k_sreg (r_go [(1, .box (eRt a0))] [] [] (by kernel_rfl) trivial) ?_
 replace h := bind_some' h
 obtain ⟨v1, hv1, h⟩ := h
 refine k_sreg (l1 := [(2, .p (.bool (v1 && ((decide (a0.1 ≥ 0)) && (decide (a0.1 ≤ a0.2))))))]) ?_ ?_
 ·rcases Bool.eq_false_or_eq_true v1 with ha0 | ha0
  ·rcases Bool.eq_false_or_eq_true (decide (a0.1 ≥ 0)) with ha1 | ha1
   ·exact RegOk.of_eq (l2 := [(2, .p (.bool (v1 && ((decide (a0.1 ≥ 0)) && (decide (a0.1 ≤ a0.2))))))]) (r_go [(2, .p (.bool (decide (a0.1 ≤ a0.2))))] [(1, {call := some ([.v (vRt a0)], [.p (.bool v1)], true)}), (3, {g := some true}), (4, {g := some true}), (5, {g := some true}), (6, {b := some true}), (8, {g := some true}), (9, {g := some true}), (10, {g := some true}), (11, {g := some true}), (12, {g := some true}), (13, {b := some true})] [([.v (vRt a0)] : List Arg) = [.v (vRt a0)], Meets Try.prog 96 ([.v (vRt a0)] ++ []) { vals := [.p (.bool v1)] }, (!true || List.all [.p (.bool v1)] simpleR) = true, v1 = true, v1 = true, v1 = true, v1 = true, (decide (a0.1 ≥ 0)) = true, (decide (a0.1 ≥ 0)) = true, (decide (a0.1 ≥ 0)) = true, (decide (a0.1 ≥ 0)) = true, (decide (a0.1 ≥ 0)) = true, (decide (a0.1 ≥ 0)) = true] (by kernel_rfl) ⟨rfl, (wk_impl_isRat hv1), (bt rfl), ha0, ha0, ha0, ha0, ha1, ha1, ha1, ha1, ha1, ha1, trivial⟩) (by simp [ha0, ha1])
   ·exact RegOk.of_eq (l2 := [(2, .p (.bool (v1 && ((decide (a0.1 ≥ 0)) && (decide (a0.1 ≤ a0.2))))))]) (r_go [(2, .p (.bool false))] [(1, {call := some ([.v (vRt a0)], [.p (.bool v1)], true)}), (3, {g := some true}), (4, {g := some true}), (5, {g := some true}), (6, {b := some true}), (8, {g := some false}), (9, {g := some false}), (10, {g := some false}), (11, {g := some false}), (12, {g := some false}), (13, {b := some false})] [([.v (vRt a0)] : List Arg) = [.v (vRt a0)], Meets Try.prog 96 ([.v (vRt a0)] ++ []) { vals := [.p (.bool v1)] }, (!true || List.all [.p (.bool v1)] simpleR) = true, v1 = true, v1 = true, v1 = true, v1 = true, (decide (a0.1 ≥ 0)) = false, (decide (a0.1 ≥ 0)) = false, (decide (a0.1 ≥ 0)) = false, (decide (a0.1 ≥ 0)) = false, (decide (a0.1 ≥ 0)) = false, (decide (a0.1 ≥ 0)) = false] (by kernel_rfl) ⟨rfl, (wk_impl_isRat hv1), (bt rfl), ha0, ha0, ha0, ha0, ha1, ha1, ha1, ha1, ha1, ha1, trivial⟩) (by simp [ha0, ha1])
  ·exact RegOk.of_eq (l2 := [(2, .p (.bool (v1 && ((decide (a0.1 ≥ 0)) && (decide (a0.1 ≤ a0.2))))))]) (r_go [(2, .p (.bool false))] [(1, {call := some ([.v (vRt a0)], [.p (.bool v1)], true)}), (3, {g := some false}), (4, {g := some false}), (5, {g := some false}), (6, {b := some false}), (8, {g := some false}), (9, {g := some false}), (10, {g := some false}), (11, {g := some false}), (12, {g := some false}), (13, {b := some false})] [([.v (vRt a0)] : List Arg) = [.v (vRt a0)], Meets Try.prog 96 ([.v (vRt a0)] ++ []) { vals := [.p (.bool v1)] }, (!true || List.all [.p (.bool v1)] simpleR) = true, v1 = false, v1 = false, v1 = false, v1 = false, false = false, false = false, false = false, false = false, false = false, false = false] (by kernel_rfl) ⟨rfl, (wk_impl_isRat hv1), (bt rfl), ha0, ha0, ha0, ha0, rfl, rfl, rfl, rfl, rfl, rfl, trivial⟩) (by simp [ha0])
 ·refine k_ret ?_
  obtain rfl := Option.some.inj h
  exact e_ret (ls := [(.p (.bool (v1 && ((decide (a0.1 ≥ 0)) && (decide (a0.1 ≤ a0.2))))), 2)]) (by kernel_rfl) rfl (by kernel_rfl) rfl
theorem wk_impl_isCoord {a0 : Qr}  {r : Bool} (h : impl_isCoord a0 = some r) : Meets Try.prog 95 [.v (vRt a0)] { vals := [.p (.bool r)] } := by
 refine Meets_ofL (by kernel_rfl) Try.func95 rfl (by kernel_rfl) (l0 := [(0, .p (vRt a0))]) (by kernel_rfl) ?_
 unfold impl_isCoord at h
 refine k_sreg (r_go [(1, .box (eRt a0))] [] [] (by kernel_rfl) trivial) ?_
 replace h := bind_some' h
 obtain ⟨v1, hv1, h⟩ := h
 refine k_sreg (l1 := [(2, .p (.bool (v1 && (decide (a0.2 ≤ 100)))))]) ?_ ?_
 ·rcases Bool.eq_false_or_eq_true v1 with ha0 | ha0
  ·exact RegOk.of_eq (l2 := [(2, .p (.bool (v1 && (decide (a0.2 ≤ 100)))))]) (r_go [(2, .p (.bool (decide (a0.2 ≤ 100))))] [(1, {call := some ([.v (vRt a0)], [.p (.bool v1)], true)}), (3, {g := some true}), (4, {g := some true}), (5, {g := some true}), (6, {b := some true})] [([.v (vRt a0)] : List Arg) = [.v (vRt a0)], Meets Try.prog 127 ([.v (vRt a0)] ++ []) { vals := [.p (.bool v1)] }, (!true || List.all [.p (.bool v1)] simpleR) = true, v1 = true, v1 = true, v1 = true, v1 = true] (by kernel_rfl) ⟨rfl, (wk_impl_isUnit hv1), (bt rfl), ha0, ha0, ha0, ha0, trivial⟩) (by simp [ha0])
  ·exact RegOk.of_eq (l2 := [(2, .p (.bool (v1 && (decide (a0.2 ≤ 100)))))]) (r_go [(2, .p (.bool false))] [(1, {call := some ([.v (vRt a0)], [.p (.bool v1)], true)}), (3, {g := some false}), (4, {g := some false}), (5, {g := some false}), (6, {b := some false})] [([.v (vRt a0)] : List Arg) = [.v (vRt a0)], Meets Try.prog 127 ([.v (vRt a0)] ++ []) { vals := [.p (.bool v1)] }, (!true || List.all [.p (.bool v1)] simpleR) = true, v1 = false, v1 = false, v1 = false, v1 = false] (by kernel_rfl) ⟨rfl, (wk_impl_isUnit hv1), (bt rfl), ha0, ha0, ha0, ha0, trivial⟩) (by simp [ha0])
 ·refine k_ret ?_
  obtain rfl := Option.some.inj h
  exact e_ret (ls := [(.p (.bool (v1 && (decide (a0.2 ≤ 100)))), 2)]) (by kernel_rfl) rfl (by kernel_rfl) rfl
theorem wk_impl_whole {a0 : Int}  {r : Qr} (h : impl_whole a0 = some r) : Meets Try.prog 97 [.v (.int .i64 a0)] { vals := [.p (vRt r)] } := by
 refine Meets_ofL (by kernel_rfl) Try.func97 rfl (by kernel_rfl) (l0 := [(0, .p (.int .i64 a0))]) (by kernel_rfl) ?_
 unfold impl_whole at h
 refine k_sreg (r_go [(0, .p (.int .i64 a0)), (2, .box [.raw (.int .i64 0), .raw (.int .i64 0)])] [] [] (by kernel_rfl) trivial) ?_
 refine k_sreg (r_go [(2, .box [.raw (.int .i64 a0), .raw (.int .i64 1)])] [] [] (by kernel_rfl) trivial) ?_
 refine k_ret ?_
 obtain rfl := Option.some.inj h
 exact e_ret (ls := [(.p (.agg #[.int .i64 a0, .int .i64 1]), 2)]) (by kernel_rfl) rfl (by kernel_rfl) rfl
theorem wk_impl_compare {a0 : Qr} {a1 : Qr}  {r : Int} (h : impl_compare a0 a1 = some r) : Meets Try.prog 105 [.v (vRt a0), .v (vRt a1)] { vals := [.p (.int .i64 r)] } := by
 refine Meets_ofL (by kernel_rfl) Try.func105 rfl (by kernel_rfl) (l0 := [(0, .p (vRt a0)), (1, .p (vRt a1))]) (by kernel_rfl) ?_
 unfold impl_compare at h
 refine k_sreg (r_go [(2, .box (eRt a0)), (3, .box (eRt a1))] [] [] (by kernel_rfl) trivial) ?_
 refine k_seq ?_
 refine k_sreg (r_draw Try_mixed 11 [] [(5, .p (.int .i64 (w64 (a0.1 * a1.2)))), (6, .p (.int .i64 (w64 (a1.1 * a0.2))))] [] [] (by kernel_rfl) trivial) ?_
 refine k_block ?_
 refine k_sreg (r_go [(5, .p (.int .i64 (w64 (a0.1 * a1.2)))), (6, .p (.int .i64 (w64 (a1.1 * a0.2)))), (17, .p (.bool (decide ((w64 (a0.1 * a1.2)) < (w64 (a1.1 * a0.2))))))] [] [] (by kernel_rfl) trivial) ?_
 refine k_cond (b := (decide ((w64 (a0.1 * a1.2)) < (w64 (a1.1 * a0.2))))) (by kernel_rfl) (fun hc3_0 => ?_) (fun hc3_0 => ?_)
 ·replace h := ite_t hc3_0 h
  refine k_sreg (r_go [(4, .p (.int .i64 (-1)))] [] [] (by kernel_rfl) trivial) ?_
  refine k_ret ?_
  refine b_r ?_
  refine q_r ?_
  obtain rfl := Option.some.inj h
  exact e_ret (ls := [(.p (.int .i64 (-1)), 4)]) (by kernel_rfl) rfl (by kernel_rfl) rfl
 ·replace h := ite_f hc3_0 h
  refine k_sreg (r_go [(21, .p (.bool (decide ((w64 (a0.1 * a1.2)) > (w64 (a1.1 * a0.2))))))] [] [] (by kernel_rfl) trivial) ?_
  refine k_cond (b := (decide ((w64 (a0.1 * a1.2)) > (w64 (a1.1 * a0.2))))) (by kernel_rfl) (fun hc3_1 => ?_) (fun hc3_1 => ?_)
  ·replace h := ite_t hc3_1 h
   refine k_sreg (r_go [(4, .p (.int .i64 1))] [] [] (by kernel_rfl) trivial) ?_
   refine k_ret ?_
   refine b_r ?_
   refine q_r ?_
   obtain rfl := Option.some.inj h
   exact e_ret (ls := [(.p (.int .i64 1), 4)]) (by kernel_rfl) rfl (by kernel_rfl) rfl
  ·replace h := ite_f hc3_1 h
   refine k_skip ?_
   refine b_n ?_
   refine q_n ?_
   refine k_sreg (r_go [(4, .p (.int .i64 0))] [] [] (by kernel_rfl) trivial) ?_
   refine k_ret ?_
   obtain rfl := Option.some.inj h
   exact e_ret (ls := [(.p (.int .i64 0), 4)]) (by kernel_rfl) rfl (by kernel_rfl) rfl
theorem wk_impl_less {a0 : Qr} {a1 : Qr}  {r : Bool} (h : impl_less a0 a1 = some r) : Meets Try.prog 76 [.v (vRt a0), .v (vRt a1)] { vals := [.p (.bool r)] } := by
 refine Meets_ofL (by kernel_rfl) Try.func76 rfl (by kernel_rfl) (l0 := [(0, .p (vRt a0)), (1, .p (vRt a1))]) (by kernel_rfl) ?_
 unfold impl_less at h
 refine k_sreg (r_go [(2, .box (eRt a0)), (3, .box (eRt a1))] [] [] (by kernel_rfl) trivial) ?_
 replace h := bind_some' h
 obtain ⟨v1, hv1, h⟩ := h
 refine k_sreg (r_go [(4, .p (.bool (decide (v1 < 0))))] [(2, {call := some ([.v (vRt a0), .v (vRt a1)], [.p (.int .i64 v1)], true)})] [([.v (vRt a0), .v (vRt a1)] : List Arg) = [.v (vRt a0), .v (vRt a1)], Meets Try.prog 105 ([.v (vRt a0), .v (vRt a1)] ++ []) { vals := [.p (.int .i64 v1)] }, (!true || List.all [.p (.int .i64 v1)] simpleR) = true] (by kernel_rfl) ⟨rfl, (wk_impl_compare hv1), (bt rfl), trivial⟩) ?_
 refine k_ret ?_
 obtain rfl := Option.some.inj h
 exact e_ret (ls := [(.p (.bool (decide (v1 < 0))), 4)]) (by kernel_rfl) rfl (by kernel_rfl) rfl
theorem wk_impl_isLift_1 {a0 : Qp}  {r : Bool} (h : impl_isLift_1 a0 = some r) : Meets Try.prog 94 [.v (vPt a0)] { vals := [.p (.bool r)] } := by
 refine Meets_ofL (by kernel_rfl) Try.func94 rfl (by kernel_rfl) (l0 := [(0, .p (vPt a0))]) (by kernel_rfl) ?_
 unfold impl_isLift_1 at h
 refine k_sreg (r_go [(1, .box (ePt a0))] [] [] (by kernel_rfl) trivial) ?_
 replace h := bind_some' h
 obtain ⟨v1, hv1, h⟩ := h
 replace h := bind_some' h
 obtain ⟨w7, hw7, h⟩ := h
 refine k_sreg (l1 := [(2, .p (.bool w7))]) ?_ ?_
 ·clear h
  rcases Bool.eq_false_or_eq_true (!v1) with ha0 | ha0
  ·replace hw7 := ite_t ha0 hw7
   have hw7 := Option.some.inj hw7
   subst hw7
   exact (r_draw Try_mixed 26 [] [(2, .p (.bool true))] [(2, {call := some ([.v (vRt a0.1)], [.p (.bool v1)], true)}), (5, {g := some true}), (6, {g := some true}), (7, {g := some true}), (8, {g := some true}), (9, {b := some true}), (11, {g := some true}), (12, {g := some true}), (13, {g := some true}), (14, {g := some true}), (15, {b := some true}), (17, {g := some true}), (18, {g := some true}), (19, {g := some true}), (20, {g := some true}), (21, {b := some true}), (23, {g := some true}), (24, {g := some true}), (25, {g := some true}), (26, {g := some true}), (27, {b := some true})] [([.v (vRt a0.1)] : List Arg) = [.v (vRt a0.1)], Meets Try.prog 95 ([.v (vRt a0.1)] ++ []) { vals := [.p (.bool v1)] }, (!true || List.all [.p (.bool v1)] simpleR) = true, (!v1) = true, (!v1) = true, (!v1) = true, (!v1) = true, (!v1) = true, true = true, true = true, true = true, true = true, true = true, true = true, true = true, true = true, true = true, true = true, true = true, true = true, true = true, true = true, true = true] (by kernel_rfl) ⟨rfl, (wk_impl_isCoord hv1), (bt rfl), ha0, ha0, ha0, ha0, ha0, rfl, rfl, rfl, rfl, rfl, rfl, rfl, rfl, rfl, rfl, rfl, rfl, rfl, rfl, rfl, trivial⟩)
  ·replace hw7 := ite_f ha0 hw7
   replace hw7 := bind_some' hw7
   obtain ⟨v2, hv2, hw7⟩ := hw7
   rcases Bool.eq_false_or_eq_true (!v2) with ha1 | ha1
   ·replace hw7 := ite_t ha1 hw7
    have hw7 := Option.some.inj hw7
    subst hw7
    exact (r_draw Try_mixed 26 [] [(2, .p (.bool true))] [(2, {call := some ([.v (vRt a0.1)], [.p (.bool v1)], true)}), (5, {g := some false}), (6, {g := some false}), (7, {g := some false, call := some ([.v (vRt a0.2)], [.p (.bool v2)], true)}), (8, {g := some false}), (9, {b := some false}), (11, {g := some true}), (12, {g := some true}), (13, {g := some true}), (14, {g := some true}), (15, {b := some true}), (17, {g := some true}), (18, {g := some true}), (19, {g := some true}), (20, {g := some true}), (21, {b := some true}), (23, {g := some true}), (24, {g := some true}), (25, {g := some true}), (26, {g := some true}), (27, {b := some true})] [([.v (vRt a0.1)] : List Arg) = [.v (vRt a0.1)], Meets Try.prog 95 ([.v (vRt a0.1)] ++ []) { vals := [.p (.bool v1)] }, (!true || List.all [.p (.bool v1)] simpleR) = true, (!v1) = false, (!v1) = false, (!v1) = false, ([.v (vRt a0.2)] : List Arg) = [.v (vRt a0.2)], Meets Try.prog 96 ([.v (vRt a0.2)] ++ []) { vals := [.p (.bool v2)] }, (!true || List.all [.p (.bool v2)] simpleR) = true, (!v1) = false, (!v1) = false, (!v2) = true, (!v2) = true, (!v2) = true, (!v2) = true, (!v2) = true, true = true, true = true, true = true, true = true, true = true, true = true, true = true, true = true, true = true, true = true] (by kernel_rfl) ⟨rfl, (wk_impl_isCoord hv1), (bt rfl), ha0, ha0, ha0, rfl, (wk_impl_isRat hv2), (bt rfl), ha0, ha0, ha1, ha1, ha1, ha1, ha1, rfl, rfl, rfl, rfl, rfl, rfl, rfl, rfl, rfl, rfl, trivial⟩)
   ·replace hw7 := ite_f ha1 hw7
    rcases Bool.eq_false_or_eq_true (decide (a0.2.2 > 100)) with ha2 | ha2
    ·replace hw7 := ite_t ha2 hw7
     have hw7 := Option.some.inj hw7
     subst hw7
     exact (r_draw Try_mixed 26 [] [(2, .p (.bool true))] [(2, {call := some ([.v (vRt a0.1)], [.p (.bool v1)], true)}), (5, {g := some false}), (6, {g := some false}), (7, {g := some false, call := some ([.v (vRt a0.2)], [.p (.bool v2)], true)}), (8, {g := some false}), (9, {b := some false}), (11, {g := some false}), (12, {g := some false}), (13, {g := some false}), (14, {g := some false}), (15, {b := some false}), (17, {g := some true}), (18, {g := some true}), (19, {g := some true}), (20, {g := some true}), (21, {b := some true}), (23, {g := some true}), (24, {g := some true}), (25, {g := some true}), (26, {g := some true}), (27, {b := some true})] [([.v (vRt a0.1)] : List Arg) = [.v (vRt a0.1)], Meets Try.prog 95 ([.v (vRt a0.1)] ++ []) { vals := [.p (.bool v1)] }, (!true || List.all [.p (.bool v1)] simpleR) = true, (!v1) = false, (!v1) = false, (!v1) = false, ([.v (vRt a0.2)] : List Arg) = [.v (vRt a0.2)], Meets Try.prog 96 ([.v (vRt a0.2)] ++ []) { vals := [.p (.bool v2)] }, (!true || List.all [.p (.bool v2)] simpleR) = true, (!v1) = false, (!v1) = false, (!v2) = false, (!v2) = false, (!v2) = false, (!v2) = false, (!v2) = false, (decide (a0.2.2 > 100)) = true, (decide (a0.2.2 > 100)) = true, (decide (a0.2.2 > 100)) = true, (decide (a0.2.2 > 100)) = true, (decide (a0.2.2 > 100)) = true, true = true, true = true, true = true, true = true, true = true] (by kernel_rfl) ⟨rfl, (wk_impl_isCoord hv1), (bt rfl), ha0, ha0, ha0, rfl, (wk_impl_isRat hv2), (bt rfl), ha0, ha0, ha1, ha1, ha1, ha1, ha1, ha2, ha2, ha2, ha2, ha2, rfl, rfl, rfl, rfl, rfl, trivial⟩)
    ·replace hw7 := ite_f ha2 hw7
     replace hw7 := bind_some' hw7
     obtain ⟨v3, hv3, hw7⟩ := hw7
     replace hw7 := bind_some' hw7
     obtain ⟨v4, hv4, hw7⟩ := hw7
     rcases Bool.eq_false_or_eq_true v4 with ha3 | ha3
     ·replace hw7 := ite_t ha3 hw7
      have hw7 := Option.some.inj hw7
      subst hw7
      exact (r_draw Try_mixed 26 [] [(2, .p (.bool true))] [(2, {call := some ([.v (vRt a0.1)], [.p (.bool v1)], true)}), (5, {g := some false}), (6, {g := some false}), (7, {g := some false, call := some ([.v (vRt a0.2)], [.p (.bool v2)], true)}), (8, {g := some false}), (9, {b := some false}), (11, {g := some false}), (12, {g := some false}), (13, {g := some false}), (14, {g := some false}), (15, {b := some false}), (17, {g := some false}), (18, {g := some false}), (19, {g := some false, call := some ([.v (.int .i64 (-5))], [.p (vRt v3)], true)}), (20, {g := some false, call := some ([.v (vRt a0.2), .v (vRt v3)], [.p (.bool v4)], true)}), (21, {b := some false}), (23, {g := some true}), (24, {g := some true}), (25, {g := some true}), (26, {g := some true}), (27, {b := some true})] [([.v (vRt a0.1)] : List Arg) = [.v (vRt a0.1)], Meets Try.prog 95 ([.v (vRt a0.1)] ++ []) { vals := [.p (.bool v1)] }, (!true || List.all [.p (.bool v1)] simpleR) = true, (!v1) = false, (!v1) = false, (!v1) = false, ([.v (vRt a0.2)] : List Arg) = [.v (vRt a0.2)], Meets Try.prog 96 ([.v (vRt a0.2)] ++ []) { vals := [.p (.bool v2)] }, (!true || List.all [.p (.bool v2)] simpleR) = true, (!v1) = false, (!v1) = false, (!v2) = false, (!v2) = false, (!v2) = false, (!v2) = false, (!v2) = false, (decide (a0.2.2 > 100)) = false, (decide (a0.2.2 > 100)) = false, (decide (a0.2.2 > 100)) = false, ([.v (.int .i64 (-5))] : List Arg) = [.v (.int .i64 (-5))], Meets Try.prog 97 ([.v (.int .i64 (-5))] ++ []) { vals := [.p (vRt v3)] }, (!true || List.all [.p (vRt v3)] simpleR) = true, (decide (a0.2.2 > 100)) = false, ([.v (vRt a0.2), .v (vRt v3)] : List Arg) = [.v (vRt a0.2), .v (vRt v3)], Meets Try.prog 76 ([.v (vRt a0.2), .v (vRt v3)] ++ []) { vals := [.p (.bool v4)] }, (!true || List.all [.p (.bool v4)] simpleR) = true, (decide (a0.2.2 > 100)) = false, v4 = true, v4 = true, v4 = true, v4 = true, v4 = true] (by kernel_rfl) ⟨rfl, (wk_impl_isCoord hv1), (bt rfl), ha0, ha0, ha0, rfl, (wk_impl_isRat hv2), (bt rfl), ha0, ha0, ha1, ha1, ha1, ha1, ha1, ha2, ha2, ha2, rfl, (wk_impl_whole hv3), (bt rfl), ha2, rfl, (wk_impl_less hv4), (bt rfl), ha2, ha3, ha3, ha3, ha3, ha3, trivial⟩)
     ·replace hw7 := ite_f ha3 hw7
      replace hw7 := bind_some' hw7
      obtain ⟨v5, hv5, hw7⟩ := hw7
      replace hw7 := bind_some' hw7
      obtain ⟨v6, hv6, hw7⟩ := hw7
      have hw7 := Option.some.inj hw7
      subst hw7
      exact (r_draw Try_mixed 26 [] [(2, .p (.bool v6))] [(2, {call := some ([.v (vRt a0.1)], [.p (.bool v1)], true)}), (5, {g := some false}), (6, {g := some false}), (7, {g := some false, call := some ([.v (vRt a0.2)], [.p (.bool v2)], true)}), (8, {g := some false}), (9, {b := some false}), (11, {g := some false}), (12, {g := some false}), (13, {g := some false}), (14, {g := some false}), (15, {b := some false}), (17, {g := some false}), (18, {g := some false}), (19, {g := some false, call := some ([.v (.int .i64 (-5))], [.p (vRt v3)], true)}), (20, {g := some false, call := some ([.v (vRt a0.2), .v (vRt v3)], [.p (.bool v4)], true)}), (21, {b := some false}), (23, {g := some false, call := some ([.v (.int .i64 5)], [.p (vRt v5)], true)}), (24, {g := some false}), (25, {g := some false}), (26, {g := some false, call := some ([.v (vRt v5), .v (vRt a0.2)], [.p (.bool v6)], true)}), (27, {b := some false})] [([.v (vRt a0.1)] : List Arg) = [.v (vRt a0.1)], Meets Try.prog 95 ([.v (vRt a0.1)] ++ []) { vals := [.p (.bool v1)] }, (!true || List.all [.p (.bool v1)] simpleR) = true, (!v1) = false, (!v1) = false, (!v1) = false, ([.v (vRt a0.2)] : List Arg) = [.v (vRt a0.2)], Meets Try.prog 96 ([.v (vRt a0.2)] ++ []) { vals := [.p (.bool v2)] }, (!true || List.all [.p (.bool v2)] simpleR) = true, (!v1) = false, (!v1) = false, (!v2) = false, (!v2) = false, (!v2) = false, (!v2) = false, (!v2) = false, (decide (a0.2.2 > 100)) = false, (decide (a0.2.2 > 100)) = false, (decide (a0.2.2 > 100)) = false, ([.v (.int .i64 (-5))] : List Arg) = [.v (.int .i64 (-5))], Meets Try.prog 97 ([.v (.int .i64 (-5))] ++ []) { vals := [.p (vRt v3)] }, (!true || List.all [.p (vRt v3)] simpleR) = true, (decide (a0.2.2 > 100)) = false, ([.v (vRt a0.2), .v (vRt v3)] : List Arg) = [.v (vRt a0.2), .v (vRt v3)], Meets Try.prog 76 ([.v (vRt a0.2), .v (vRt v3)] ++ []) { vals := [.p (.bool v4)] }, (!true || List.all [.p (.bool v4)] simpleR) = true, (decide (a0.2.2 > 100)) = false, v4 = false, ([.v (.int .i64 5)] : List Arg) = [.v (.int .i64 5)], Meets Try.prog 97 ([.v (.int .i64 5)] ++ []) { vals := [.p (vRt v5)] }, (!true || List.all [.p (vRt v5)] simpleR) = true, v4 = false, v4 = false, v4 = false, ([.v (vRt v5), .v (vRt a0.2)] : List Arg) = [.v (vRt v5), .v (vRt a0.2)], Meets Try.prog 76 ([.v (vRt v5), .v (vRt a0.2)] ++ []) { vals := [.p (.bool v6)] }, (!true || List.all [.p (.bool v6)] simpleR) = true, v4 = false] (by kernel_rfl) ⟨rfl, (wk_impl_isCoord hv1), (bt rfl), ha0, ha0, ha0, rfl, (wk_impl_isRat hv2), (bt rfl), ha0, ha0, ha1, ha1, ha1, ha1, ha1, ha2, ha2, ha2, rfl, (wk_impl_whole hv3), (bt rfl), ha2, rfl, (wk_impl_less hv4), (bt rfl), ha2, ha3, rfl, (wk_impl_whole hv5), (bt rfl), ha3, ha3, ha3, rfl, (wk_impl_less hv6), (bt rfl), ha3, trivial⟩)
 ·refine k_ret ?_
  obtain rfl := Option.some.inj h
  exact e_ret (ls := [(.p (.bool w7), 2)]) (by kernel_rfl) rfl (by kernel_rfl) rfl
theorem wk_impl_zero   {r : Qr} (h : impl_zero  = some r) : Meets Try.prog 98 [] { vals := [.p (vRt r)] } := by
 refine Meets_ofL (by kernel_rfl) Try.func98 rfl (by kernel_rfl) (l0 := []) (by kernel_rfl) ?_
 unfold impl_zero at h
 refine k_sreg (r_go [(0, .box [.raw (.int .i64 0), .raw (.int .i64 0)])] [] [] (by kernel_rfl) trivial) ?_
 refine k_sreg (r_go [(0, .box [.raw (.int .i64 0), .raw (.int .i64 1)])] [] [] (by kernel_rfl) trivial) ?_
 refine k_ret ?_
 obtain rfl := Option.some.inj h
 exact e_ret (ls := [(.p (.agg #[.int .i64 0, .int .i64 1]), 0)]) (by kernel_rfl) rfl (by kernel_rfl) rfl
theorem wk_impl_oneRat   {r : Qr} (h : impl_oneRat  = some r) : Meets Try.prog 99 [] { vals := [.p (vRt r)] } := by
 refine Meets_ofL (by kernel_rfl) Try.func99 rfl (by kernel_rfl) (l0 := []) (by kernel_rfl) ?_
 unfold impl_oneRat at h
 refine k_sreg (r_go [(0, .box [.raw (.int .i64 0), .raw (.int .i64 0)])] [] [] (by kernel_rfl) trivial) ?_
 refine k_sreg (r_go [(0, .box [.raw (.int .i64 1), .raw (.int .i64 1)])] [] [] (by kernel_rfl) trivial) ?_
 refine k_ret ?_
 obtain rfl := Option.some.inj h
 exact e_ret (ls := [(.p (.agg #[.int .i64 1, .int .i64 1]), 0)]) (by kernel_rfl) rfl (by kernel_rfl) rfl
theorem wk_impl_isLift {a0 : (List Qp)}  {r : Bool} (h : impl_isLift a0 = some r) : Meets Try.prog 51 [.d true [.sl none (a0.map ePt)]] { vals := [.p (.bool r)] } := by
 refine Meets_ofL (by kernel_rfl) Try.func51 rfl (by kernel_rfl) (l0 := [(0, .d true [.sl none (a0.map ePt)])]) (by kernel_rfl) ?_
 unfold impl_isLift at h
 refine k_sreg (r_go [(1, .box [.sl none (a0.map ePt)])] [] [] (by kernel_rfl) trivial) ?_
 refine k_sreg (r_go [(3, .d false [.sl none (a0.map ePt)])] [(1, {b := some true})] [frR [.sl none (a0.map ePt)] = true] (by kernel_rfl) ⟨(frR1 (frL_enc (fr_P (fr_P fr_I fr_I) (fr_P fr_I fr_I))) rfl), trivial⟩) ?_
 refine k_seq ?_
 replace h := bind_some' h
 obtain ⟨v1, hv1, h⟩ := h
 replace h := bind_some' h
 obtain ⟨w3, hw3, h⟩ := h
 refine k_sreg (l1 := [(3, .d false [.sl none (a0.map ePt)]), (16, .p (.bool w3))]) ?_ ?_
 ·clear h
  rcases Bool.eq_false_or_eq_true (!v1) with ha0 | ha0
  ·replace hw3 := ite_t ha0 hw3
   have hw3 := Option.some.inj hw3
   subst hw3
   exact (r_go [(3, .d false [.sl none (a0.map ePt)]), (16, .p (.bool true))] [(1, {n := some a0.length}), (2, {call := some ([.v (.int .i64 (a0.length : Int)), .v (.int .i64 2), .v (.int .i64 12)], [.p (.bool v1)], true)}), (5, {g := some true}), (6, {g := some true}), (7, {b := some true})] [(a0.map ePt).length = a0.length, ([.v (.int .i64 (a0.length : Int)), .v (.int .i64 2), .v (.int .i64 12)] : List Arg) = [.v (.int .i64 (a0.length : Int)), .v (.int .i64 2), .v (.int .i64 12)], Meets Try.prog 92 ([.v (.int .i64 (a0.length : Int)), .v (.int .i64 2), .v (.int .i64 12)] ++ []) { vals := [.p (.bool v1)] }, (!true || List.all [.p (.bool v1)] simpleR) = true, (!v1) = true, (!v1) = true, (!v1) = true] (by kernel_rfl) ⟨(List.length_map ..), rfl, (wk_impl_within hv1), (bt rfl), ha0, ha0, ha0, trivial⟩)
  ·replace hw3 := ite_f ha0 hw3
   replace hw3 := bind_some' hw3
   obtain ⟨v2, hv2, hw3⟩ := hw3
   have hw3 := Option.some.inj hw3
   subst hw3
   exact (r_go [(3, .d false [.sl none (a0.map ePt)]), (16, .p (.bool v2))] [(1, {n := some a0.length}), (2, {call := some ([.v (.int .i64 (a0.length : Int)), .v (.int .i64 2), .v (.int .i64 12)], [.p (.bool v1)], true)}), (5, {g := some false}), (6, {g := some false, call := some ([.d false [.sl none (a0.map ePt)], .v (.func (.func 94) #[] #[])], [.p (.bool v2)], true)}), (7, {b := some false})] [(a0.map ePt).length = a0.length, ([.v (.int .i64 (a0.length : Int)), .v (.int .i64 2), .v (.int .i64 12)] : List Arg) = [.v (.int .i64 (a0.length : Int)), .v (.int .i64 2), .v (.int .i64 12)], Meets Try.prog 92 ([.v (.int .i64 (a0.length : Int)), .v (.int .i64 2), .v (.int .i64 12)] ++ []) { vals := [.p (.bool v1)] }, (!true || List.all [.p (.bool v1)] simpleR) = true, (!v1) = false, (!v1) = false, ([.d false [.sl none (a0.map ePt)], .v (.func (.func 94) #[] #[])] : List Arg) = [.d false [.sl none (a0.map ePt)], .v (.func (.func 94) #[] #[])], Meets Try.prog 93 ([.d false [.sl none (a0.map ePt)], .v (.func (.func 94) #[] #[])] ++ []) { vals := [.p (.bool v2)] }, (!true || List.all [.p (.bool v2)] simpleR) = true, (!v1) = false] (by kernel_rfl) ⟨(List.length_map ..), rfl, (wk_impl_within hv1), (bt rfl), ha0, ha0, rfl, (wk_slices_ContainsFunc_Limpl_Point_impl_Point_v (fun x0 y hy => wk_impl_isLift_1 hy) hv2), (bt rfl), ha0, trivial⟩)
 ·refine k_cond (b := w3) (by kernel_rfl) (fun hc2_3 => ?_) (fun hc2_3 => ?_)
  ·replace h := ite_t hc2_3 h
   refine k_sreg (r_go [(2, .p (.bool false))] [] [] (by kernel_rfl) trivial) ?_
   refine k_ret ?_
   refine q_r ?_
   obtain rfl := Option.some.inj h
   exact e_ret (ls := [(.p (.bool false), 2)]) (by kernel_rfl) rfl (by kernel_rfl) rfl
  ·replace h := ite_f hc2_3 h
   refine k_skip ?_
   refine q_n ?_
   refine k_join (J := fun (x : Unit) => [(3, .d false [.sl none (a0.map ePt)])]) (K := fun x => impl_isLift_k1 a0 x = some r) (fun x5 h => ?_) ?_
   ·unfold impl_isLift_k1 at h
    replace h := bind_some' h
    obtain ⟨v6, hv6, h⟩ := h
    replace h := bind_some' h
    obtain ⟨v7, hv7, h⟩ := h
    refine k_sreg (r_draw Try_mixed 12 [(11, 5)] [(5, .box (ePt v6)), (6, .box (ePt v7))] [(1, {row := some (ePt v6)}), (5, {n := some a0.length}), (7, {row := some (ePt v7)})] [0 ≤ 0, (a0.map ePt)[(Int.toNat 0)]? = some (ePt v6), (a0.map ePt).length = a0.length, 0 ≤ (w64 ((a0.length : Int) - 1)), (a0.map ePt)[(Int.toNat (w64 ((a0.length : Int) - 1)))]? = some (ePt v7)] (by kernel_rfl) ⟨(idxO_some hv6).1, (map_get ePt (idxO_some hv6).2), (List.length_map ..), (idxO_some hv7).1, (map_get ePt (idxO_some hv7).2), trivial⟩) ?_
    replace h := bind_some' h
    obtain ⟨v8, hv8, h⟩ := h
    replace h := bind_some' h
    obtain ⟨w10, hw10, h⟩ := h
    refine k_sreg (l1 := [(2, .p (.bool w10))]) ?_ ?_
    ·clear h
     rcases Bool.eq_false_or_eq_true ((v6.1.1 == v8.1) && (v6.1.2 == v8.2)) with ha1 | ha1
     ·replace hw10 := ite_t ha1 hw10
      replace hw10 := bind_some' hw10
      obtain ⟨v9, hv9, hw10⟩ := hw10
      rcases Bool.eq_false_or_eq_true ((v7.1.1 == v9.1) && (v7.1.2 == v9.2)) with ha2 | ha2
      ·replace hw10 := ite_t ha2 hw10
       have hw10 := Option.some.inj hw10
       subst hw10
       exact (r_draw Try_mixed 24 [] [(2, .p (.bool ((v7.2.1 == (w64 (v6.2.1 + v6.2.2))) && (v7.2.2 == v6.2.2))))] [(2, {call := some ([], [.p (vRt v8)], true)}), (3, {pv := some (.bool ((v6.1.1 == v8.1) && (v6.1.2 == v8.2)))}), (5, {g := some true}), (6, {g := some true}), (7, {g := some true, call := some ([], [.p (vRt v9)], true)}), (8, {g := some true, pv := some (.bool ((v7.1.1 == v9.1) && (v7.1.2 == v9.2)))}), (9, {b := some true}), (11, {g := some true}), (12, {g := some true}), (13, {g := some true}), (14, {g := some true}), (15, {g := some true}), (16, {g := some true}), (17, {g := some true}), (18, {g := some true}), (19, {g := some true}), (20, {g := some true}), (21, {g := some true}), (22, {g := some true}), (23, {g := some true}), (24, {g := some true, pv := some (.bool ((v7.2.1 == (w64 (v6.2.1 + v6.2.2))) && (v7.2.2 == v6.2.2)))}), (25, {b := some true})] [([] : List Arg) = [], Meets Try.prog 98 ([] ++ []) { vals := [.p (vRt v8)] }, (!true || List.all [.p (vRt v8)] simpleR) = true, PureAt Try.prog (.binOp .eql 44 (.tmp 60) (.tmp 61) 44) [vRt v6.1, vRt v8] (.bool ((v6.1.1 == v8.1) && (v6.1.2 == v8.2))), ((v6.1.1 == v8.1) && (v6.1.2 == v8.2)) = true, ((v6.1.1 == v8.1) && (v6.1.2 == v8.2)) = true, ((v6.1.1 == v8.1) && (v6.1.2 == v8.2)) = true, ([] : List Arg) = [], Meets Try.prog 99 ([] ++ []) { vals := [.p (vRt v9)] }, (!true || List.all [.p (vRt v9)] simpleR) = true, ((v6.1.1 == v8.1) && (v6.1.2 == v8.2)) = true, PureAt Try.prog (.binOp .eql 44 (.tmp 65) (.tmp 66) 44) [vRt v7.1, vRt v9] (.bool ((v7.1.1 == v9.1) && (v7.1.2 == v9.2))), ((v6.1.1 == v8.1) && (v6.1.2 == v8.2)) = true, ((v7.1.1 == v9.1) && (v7.1.2 == v9.2)) = true, ((v7.1.1 == v9.1) && (v7.1.2 == v9.2)) = true, ((v7.1.1 == v9.1) && (v7.1.2 == v9.2)) = true, ((v7.1.1 == v9.1) && (v7.1.2 == v9.2)) = true, ((v7.1.1 == v9.1) && (v7.1.2 == v9.2)) = true, ((v7.1.1 == v9.1) && (v7.1.2 == v9.2)) = true, ((v7.1.1 == v9.1) && (v7.1.2 == v9.2)) = true, ((v7.1.1 == v9.1) && (v7.1.2 == v9.2)) = true, ((v7.1.1 == v9.1) && (v7.1.2 == v9.2)) = true, ((v7.1.1 == v9.1) && (v7.1.2 == v9.2)) = true, ((v7.1.1 == v9.1) && (v7.1.2 == v9.2)) = true, ((v7.1.1 == v9.1) && (v7.1.2 == v9.2)) = true, ((v7.1.1 == v9.1) && (v7.1.2 == v9.2)) = true, ((v7.1.1 == v9.1) && (v7.1.2 == v9.2)) = true, PureAt Try.prog (.binOp .eql 44 (.tmp 71) (.tmp 82) 44) [vRt v7.2, .agg #[.int .i64 (w64 (v6.2.1 + v6.2.2)), .int .i64 v6.2.2]] (.bool ((v7.2.1 == (w64 (v6.2.1 + v6.2.2))) && (v7.2.2 == v6.2.2))), ((v7.1.1 == v9.1) && (v7.1.2 == v9.2)) = true] (by kernel_rfl) ⟨rfl, (wk_impl_zero hv8), (bt rfl), (pure_eql2 (by kernel_rfl)), ha1, ha1, ha1, rfl, (wk_impl_oneRat hv9), (bt rfl), ha1, (pure_eql2 (by kernel_rfl)), ha1, ha2, ha2, ha2, ha2, ha2, ha2, ha2, ha2, ha2, ha2, ha2, ha2, ha2, ha2, (pure_eql2 (by kernel_rfl)), ha2, trivial⟩)
      ·replace hw10 := ite_f ha2 hw10
       have hw10 := Option.some.inj hw10
       subst hw10
       exact (r_draw Try_mixed 24 [] [(2, .p (.bool false))] [(2, {call := some ([], [.p (vRt v8)], true)}), (3, {pv := some (.bool ((v6.1.1 == v8.1) && (v6.1.2 == v8.2)))}), (5, {g := some true}), (6, {g := some true}), (7, {g := some true, call := some ([], [.p (vRt v9)], true)}), (8, {g := some true, pv := some (.bool ((v7.1.1 == v9.1) && (v7.1.2 == v9.2)))}), (9, {b := some true}), (11, {g := some false}), (12, {g := some false}), (13, {g := some false}), (14, {g := some false}), (15, {g := some false}), (16, {g := some false}), (17, {g := some false}), (18, {g := some false}), (19, {g := some false}), (20, {g := some false}), (21, {g := some false}), (22, {g := some false}), (23, {g := some false}), (24, {g := some false}), (25, {b := some false})] [([] : List Arg) = [], Meets Try.prog 98 ([] ++ []) { vals := [.p (vRt v8)] }, (!true || List.all [.p (vRt v8)] simpleR) = true, PureAt Try.prog (.binOp .eql 44 (.tmp 60) (.tmp 61) 44) [vRt v6.1, vRt v8] (.bool ((v6.1.1 == v8.1) && (v6.1.2 == v8.2))), ((v6.1.1 == v8.1) && (v6.1.2 == v8.2)) = true, ((v6.1.1 == v8.1) && (v6.1.2 == v8.2)) = true, ((v6.1.1 == v8.1) && (v6.1.2 == v8.2)) = true, ([] : List Arg) = [], Meets Try.prog 99 ([] ++ []) { vals := [.p (vRt v9)] }, (!true || List.all [.p (vRt v9)] simpleR) = true, ((v6.1.1 == v8.1) && (v6.1.2 == v8.2)) = true, PureAt Try.prog (.binOp .eql 44 (.tmp 65) (.tmp 66) 44) [vRt v7.1, vRt v9] (.bool ((v7.1.1 == v9.1) && (v7.1.2 == v9.2))), ((v6.1.1 == v8.1) && (v6.1.2 == v8.2)) = true, ((v7.1.1 == v9.1) && (v7.1.2 == v9.2)) = false, ((v7.1.1 == v9.1) && (v7.1.2 == v9.2)) = false, ((v7.1.1 == v9.1) && (v7.1.2 == v9.2)) = false, ((v7.1.1 == v9.1) && (v7.1.2 == v9.2)) = false, ((v7.1.1 == v9.1) && (v7.1.2 == v9.2)) = false, ((v7.1.1 == v9.1) && (v7.1.2 == v9.2)) = false, ((v7.1.1 == v9.1) && (v7.1.2 == v9.2)) = false, ((v7.1.1 == v9.1) && (v7.1.2 == v9.2)) = false, ((v7.1.1 == v9.1) && (v7.1.2 == v9.2)) = false, ((v7.1.1 == v9.1) && (v7.1.2 == v9.2)) = false, ((v7.1.1 == v9.1) && (v7.1.2 == v9.2)) = false, ((v7.1.1 == v9.1) && (v7.1.2 == v9.2)) = false, ((v7.1.1 == v9.1) && (v7.1.2 == v9.2)) = false, ((v7.1.1 == v9.1) && (v7.1.2 == v9.2)) = false, ((v7.1.1 == v9.1) && (v7.1.2 == v9.2)) = false] (by kernel_rfl) ⟨rfl, (wk_impl_zero hv8), (bt rfl), (pure_eql2 (by kernel_rfl)), ha1, ha1, ha1, rfl, (wk_impl_oneRat hv9), (bt rfl), ha1, (pure_eql2 (by kernel_rfl)), ha1, ha2, ha2, ha2, ha2, ha2, ha2, ha2, ha2, ha2, ha2, ha2, ha2, ha2, ha2, ha2, trivial⟩)
     ·replace hw10 := ite_f ha1 hw10
      have hw10 := Option.some.inj hw10
      subst hw10
      exact (r_draw Try_mixed 24 [] [(2, .p (.bool false))] [(2, {call := some ([], [.p (vRt v8)], true)}), (3, {pv := some (.bool ((v6.1.1 == v8.1) && (v6.1.2 == v8.2)))}), (5, {g := some false}), (6, {g := some false}), (7, {g := some false}), (8, {g := some false}), (9, {b := some false}), (11, {g := some false}), (12, {g := some false}), (13, {g := some false}), (14, {g := some false}), (15, {g := some false}), (16, {g := some false}), (17, {g := some false}), (18, {g := some false}), (19, {g := some false}), (20, {g := some false}), (21, {g := some false}), (22, {g := some false}), (23, {g := some false}), (24, {g := some false}), (25, {b := some false})] [([] : List Arg) = [], Meets Try.prog 98 ([] ++ []) { vals := [.p (vRt v8)] }, (!true || List.all [.p (vRt v8)] simpleR) = true, PureAt Try.prog (.binOp .eql 44 (.tmp 60) (.tmp 61) 44) [vRt v6.1, vRt v8] (.bool ((v6.1.1 == v8.1) && (v6.1.2 == v8.2))), ((v6.1.1 == v8.1) && (v6.1.2 == v8.2)) = false, ((v6.1.1 == v8.1) && (v6.1.2 == v8.2)) = false, ((v6.1.1 == v8.1) && (v6.1.2 == v8.2)) = false, ((v6.1.1 == v8.1) && (v6.1.2 == v8.2)) = false, ((v6.1.1 == v8.1) && (v6.1.2 == v8.2)) = false, false = false, false = false, false = false, false = false, false = false, false = false, false = false, false = false, false = false, false = false, false = false, false = false, false = false, false = false, false = false] (by kernel_rfl) ⟨rfl, (wk_impl_zero hv8), (bt rfl), (pure_eql2 (by kernel_rfl)), ha1, ha1, ha1, ha1, ha1, rfl, rfl, rfl, rfl, rfl, rfl, rfl, rfl, rfl, rfl, rfl, rfl, rfl, rfl, rfl, trivial⟩)
    ·refine k_ret ?_
     obtain rfl := Option.some.inj h
     exact e_ret (ls := [(.p (.bool w10), 2)]) (by kernel_rfl) rfl (by kernel_rfl) rfl
   ·refine k_sreg (r_go [(3, .d false [.sl none (a0.map ePt)]), (4, .p (.int .i64 1))] [] [] (by kernel_rfl) trivial) ?_
    refine k_block ?_
    obtain ⟨y12, hl_x11, hk_x11⟩ := bind_some' h
    clear h
    refine k_loop (J := fun (x : Int) => [(3, .d false [.sl none (a0.map ePt)]), (4, .p (.int .i64 x))]) hl_x11 (wk_of (by kernel_rfl) (by kernel_rfl)) (fun x11 o_x11 h hy_x11 => ?_)
    unfold impl_isLift_b1 at h
    refine k_seq ?_
    refine k_sreg (r_go [(3, .d false [.sl none (a0.map ePt)]), (4, .p (.int .i64 x11)), (20, .p (.bool (decide (x11 < (a0.length : Int)))))] [(2, {n := some a0.length})] [(a0.map ePt).length = a0.length] (by kernel_rfl) ⟨(List.length_map ..), trivial⟩) ?_
    refine k_cond (b := (decide (x11 < (a0.length : Int)))) (by kernel_rfl) (fun hc5_12 => ?_) (fun hc5_12 => ?_)
    ·replace h := ite_t hc5_12 h
     refine k_skip ?_
     refine q_n ?_
     refine k_seq ?_
     refine k_block ?_
     replace h := bind_some' h
     obtain ⟨v14, hv14, h⟩ := h
     replace h := bind_some' h
     obtain ⟨v15, hv15, h⟩ := h
     replace h := bind_some' h
     obtain ⟨v16, hv16, h⟩ := h
     replace h := bind_some' h
     obtain ⟨w18, hw18, h⟩ := h
     refine k_sreg (l1 := [(3, .d false [.sl none (a0.map ePt)]), (4, .p (.int .i64 x11)), (49, .p (.bool w18))]) ?_ ?_
     ·clear h
      rcases Bool.eq_false_or_eq_true (!v16) with ha2 | ha2
      ·replace hw18 := ite_t ha2 hw18
       have hw18 := Option.some.inj hw18
       subst hw18
       exact (r_draw Try_mixed 25 [] [(3, .d false [.sl none (a0.map ePt)]), (4, .p (.int .i64 x11)), (49, .p (.bool true))] [(3, {row := some (ePt v14)}), (8, {row := some (ePt v15)}), (11, {call := some ([.v (vRt v14.1), .v (vRt v15.1)], [.p (.bool v16)], true)}), (14, {g := some true}), (15, {g := some true}), (16, {g := some true}), (17, {g := some true}), (18, {g := some true}), (19, {g := some true}), (20, {g := some true}), (21, {g := some true}), (22, {g := some true}), (23, {g := some true}), (24, {g := some true}), (25, {g := some true}), (26, {b := some true})] [0 ≤ (w64 (x11 - 1)), (a0.map ePt)[(Int.toNat (w64 (x11 - 1)))]? = some (ePt v14), 0 ≤ x11, (a0.map ePt)[(Int.toNat x11)]? = some (ePt v15), ([.v (vRt v14.1), .v (vRt v15.1)] : List Arg) = [.v (vRt v14.1), .v (vRt v15.1)], Meets Try.prog 76 ([.v (vRt v14.1), .v (vRt v15.1)] ++ []) { vals := [.p (.bool v16)] }, (!true || List.all [.p (.bool v16)] simpleR) = true, (!v16) = true, (!v16) = true, (!v16) = true, (!v16) = true, (!v16) = true, (!v16) = true, (!v16) = true, (!v16) = true, (!v16) = true, (!v16) = true, (!v16) = true, (!v16) = true, (!v16) = true] (by kernel_rfl) ⟨(idxO_some hv14).1, (map_get ePt (idxO_some hv14).2), (idxO_some hv15).1, (map_get ePt (idxO_some hv15).2), rfl, (wk_impl_less hv16), (bt rfl), ha2, ha2, ha2, ha2, ha2, ha2, ha2, ha2, ha2, ha2, ha2, ha2, ha2, trivial⟩)
      ·replace hw18 := ite_f ha2 hw18
       replace hw18 := bind_some' hw18
       obtain ⟨v17, hv17, hw18⟩ := hw18
       have hw18 := Option.some.inj hw18
       subst hw18
       exact (r_draw Try_mixed 25 [] [(3, .d false [.sl none (a0.map ePt)]), (4, .p (.int .i64 x11)), (49, .p (.bool v17))] [(3, {row := some (ePt v14)}), (8, {row := some (ePt v15)}), (11, {call := some ([.v (vRt v14.1), .v (vRt v15.1)], [.p (.bool v16)], true)}), (14, {g := some false}), (15, {g := some false}), (16, {g := some false, row := some (ePt v15)}), (17, {g := some false}), (18, {g := some false}), (19, {g := some false}), (20, {g := some false}), (21, {g := some false}), (22, {g := some false, row := some (ePt v14)}), (23, {g := some false}), (24, {g := some false}), (25, {g := some false, call := some ([.v (vRt v15.2), .v (vRt v14.2)], [.p (.bool v17)], true)}), (26, {b := some false})] [0 ≤ (w64 (x11 - 1)), (a0.map ePt)[(Int.toNat (w64 (x11 - 1)))]? = some (ePt v14), 0 ≤ x11, (a0.map ePt)[(Int.toNat x11)]? = some (ePt v15), ([.v (vRt v14.1), .v (vRt v15.1)] : List Arg) = [.v (vRt v14.1), .v (vRt v15.1)], Meets Try.prog 76 ([.v (vRt v14.1), .v (vRt v15.1)] ++ []) { vals := [.p (.bool v16)] }, (!true || List.all [.p (.bool v16)] simpleR) = true, (!v16) = false, (!v16) = false, (!v16) = false, 0 ≤ x11, (a0.map ePt)[(Int.toNat x11)]? = some (ePt v15), (!v16) = false, (!v16) = false, (!v16) = false, (!v16) = false, (!v16) = false, (!v16) = false, 0 ≤ (w64 (x11 - 1)), (a0.map ePt)[(Int.toNat (w64 (x11 - 1)))]? = some (ePt v14), (!v16) = false, (!v16) = false, (!v16) = false, ([.v (vRt v15.2), .v (vRt v14.2)] : List Arg) = [.v (vRt v15.2), .v (vRt v14.2)], Meets Try.prog 76 ([.v (vRt v15.2), .v (vRt v14.2)] ++ []) { vals := [.p (.bool v17)] }, (!true || List.all [.p (.bool v17)] simpleR) = true, (!v16) = false] (by kernel_rfl) ⟨(idxO_some hv14).1, (map_get ePt (idxO_some hv14).2), (idxO_some hv15).1, (map_get ePt (idxO_some hv15).2), rfl, (wk_impl_less hv16), (bt rfl), ha2, ha2, ha2, (idxO_some hv15).1, (map_get ePt (idxO_some hv15).2), ha2, ha2, ha2, ha2, ha2, ha2, (idxO_some hv14).1, (map_get ePt (idxO_some hv14).2), ha2, ha2, ha2, rfl, (wk_impl_less hv17), (bt rfl), ha2, trivial⟩)
     ·refine k_cond (b := w18) (by kernel_rfl) (fun hc6_18 => ?_) (fun hc6_18 => ?_)
      ·replace h := ite_t hc6_18 h
       refine k_sreg (r_go [(2, .p (.bool false))] [] [] (by kernel_rfl) trivial) ?_
       refine k_ret ?_
       refine b_r ?_
       refine q_r ?_
       refine lq_r ?_
       refine b_r ?_
       refine q_r ?_
       have hyy := hy_x11 _ (Option.some.inj h).symm
       subst hyy
       have h := hk_x11
       dsimp only [Sum.elim] at h
       obtain rfl := Option.some.inj h
       exact e_ret (ls := [(.p (.bool false), 2)]) (by kernel_rfl) rfl (by kernel_rfl) rfl
      ·replace h := ite_f hc6_18 h
       refine k_skip ?_
       refine b_n ?_
       refine q_n ?_
       refine k_reg (r_go [(3, .d false [.sl none (a0.map ePt)]), (4, .p (.int .i64 (w64 (x11 + 1))))] [] [] (by kernel_rfl) trivial) ?_
       exact lq_n (w64 (x11 + 1)) (Option.some.inj h).symm (wk_of (by kernel_rfl) (by kernel_rfl))
    ·replace h := ite_f hc5_12 h
     refine k_exit ?_
     refine q_x ?_
     refine lq_x ?_
     refine b_x ?_
     have hyy := hy_x11 _ (Option.some.inj h).symm
     subst hyy
     have h := hk_x11
     dsimp only [Sum.elim] at h
     refine q_n ?_
     exact ⟨(), h, (wk_of (by kernel_rfl) (by kernel_rfl))⟩
theorem wk_impl_isFar {a0 : Qr}  {r : Bool} (h : impl_isFar a0 = some r) : Meets Try.prog 67 [.v (vRt a0)] { vals := [.p (.bool r)] } := by
 refine Meets_ofL (by kernel_rfl) Try.func67 rfl (by kernel_rfl) (l0 := [(0, .p (vRt a0))]) (by kernel_rfl) ?_
 unfold impl_isFar at h
 refine k_sreg (r_go [(1, .box (eRt a0))] [] [] (by kernel_rfl) trivial) ?_
 replace h := bind_some' h
 obtain ⟨v1, hv1, h⟩ := h
 replace h := bind_some' h
 obtain ⟨w6, hw6, h⟩ := h
 refine k_sreg (l1 := [(2, .p (.bool w6))]) ?_ ?_
 ·clear h
  rcases Bool.eq_false_or_eq_true v1 with ha0 | ha0
  ·replace hw6 := ite_t ha0 hw6
   replace hw6 := bind_some' hw6
   obtain ⟨v2, hv2, hw6⟩ := hw6
   replace hw6 := bind_some' hw6
   obtain ⟨v3, hv3, hw6⟩ := hw6
   rcases Bool.eq_false_or_eq_true (!v3) with ha1 | ha1
   ·replace hw6 := ite_t ha1 hw6
    replace hw6 := bind_some' hw6
    obtain ⟨v4, hv4, hw6⟩ := hw6
    replace hw6 := bind_some' hw6
    obtain ⟨v5, hv5, hw6⟩ := hw6
    have hw6 := Option.some.inj hw6
    subst hw6
    exact (r_draw Try_mixed 11 [] [(2, .p (.bool (!v5)))] [(1, {call := some ([.v (vRt a0)], [.p (.bool v1)], true)}), (3, {g := some true}), (4, {g := some true, call := some ([.v (.int .i64 (-1000))], [.p (vRt v2)], true)}), (5, {g := some true, call := some ([.v (vRt a0), .v (vRt v2)], [.p (.bool v3)], true)}), (6, {g := some true}), (7, {b := some true}), (9, {g := some true, call := some ([.v (.int .i64 1000)], [.p (vRt v4)], true)}), (10, {g := some true}), (11, {g := some true, call := some ([.v (vRt v4), .v (vRt a0)], [.p (.bool v5)], true)}), (12, {g := some true}), (13, {b := some true})] [([.v (vRt a0)] : List Arg) = [.v (vRt a0)], Meets Try.prog 96 ([.v (vRt a0)] ++ []) { vals := [.p (.bool v1)] }, (!true || List.all [.p (.bool v1)] simpleR) = true, v1 = true, v1 = true, ([.v (.int .i64 (-1000))] : List Arg) = [.v (.int .i64 (-1000))], Meets Try.prog 97 ([.v (.int .i64 (-1000))] ++ []) { vals := [.p (vRt v2)] }, (!true || List.all [.p (vRt v2)] simpleR) = true, v1 = true, ([.v (vRt a0), .v (vRt v2)] : List Arg) = [.v (vRt a0), .v (vRt v2)], Meets Try.prog 76 ([.v (vRt a0), .v (vRt v2)] ++ []) { vals := [.p (.bool v3)] }, (!true || List.all [.p (.bool v3)] simpleR) = true, v1 = true, v1 = true, (!v3) = true, ([.v (.int .i64 1000)] : List Arg) = [.v (.int .i64 1000)], Meets Try.prog 97 ([.v (.int .i64 1000)] ++ []) { vals := [.p (vRt v4)] }, (!true || List.all [.p (vRt v4)] simpleR) = true, (!v3) = true, (!v3) = true, ([.v (vRt v4), .v (vRt a0)] : List Arg) = [.v (vRt v4), .v (vRt a0)], Meets Try.prog 76 ([.v (vRt v4), .v (vRt a0)] ++ []) { vals := [.p (.bool v5)] }, (!true || List.all [.p (.bool v5)] simpleR) = true, (!v3) = true, (!v3) = true] (by kernel_rfl) ⟨rfl, (wk_impl_isRat hv1), (bt rfl), ha0, ha0, rfl, (wk_impl_whole hv2), (bt rfl), ha0, rfl, (wk_impl_less hv3), (bt rfl), ha0, ha0, ha1, rfl, (wk_impl_whole hv4), (bt rfl), ha1, ha1, rfl, (wk_impl_less hv5), (bt rfl), ha1, ha1, trivial⟩)
   ·replace hw6 := ite_f ha1 hw6
    have hw6 := Option.some.inj hw6
    subst hw6
    exact (r_draw Try_mixed 11 [] [(2, .p (.bool false))] [(1, {call := some ([.v (vRt a0)], [.p (.bool v1)], true)}), (3, {g := some true}), (4, {g := some true, call := some ([.v (.int .i64 (-1000))], [.p (vRt v2)], true)}), (5, {g := some true, call := some ([.v (vRt a0), .v (vRt v2)], [.p (.bool v3)], true)}), (6, {g := some true}), (7, {b := some true}), (9, {g := some false}), (10, {g := some false}), (11, {g := some false}), (12, {g := some false}), (13, {b := some false})] [([.v (vRt a0)] : List Arg) = [.v (vRt a0)], Meets Try.prog 96 ([.v (vRt a0)] ++ []) { vals := [.p (.bool v1)] }, (!true || List.all [.p (.bool v1)] simpleR) = true, v1 = true, v1 = true, ([.v (.int .i64 (-1000))] : List Arg) = [.v (.int .i64 (-1000))], Meets Try.prog 97 ([.v (.int .i64 (-1000))] ++ []) { vals := [.p (vRt v2)] }, (!true || List.all [.p (vRt v2)] simpleR) = true, v1 = true, ([.v (vRt a0), .v (vRt v2)] : List Arg) = [.v (vRt a0), .v (vRt v2)], Meets Try.prog 76 ([.v (vRt a0), .v (vRt v2)] ++ []) { vals := [.p (.bool v3)] }, (!true || List.all [.p (.bool v3)] simpleR) = true, v1 = true, v1 = true, (!v3) = false, (!v3) = false, (!v3) = false, (!v3) = false, (!v3) = false] (by kernel_rfl) ⟨rfl, (wk_impl_isRat hv1), (bt rfl), ha0, ha0, rfl, (wk_impl_whole hv2), (bt rfl), ha0, rfl, (wk_impl_less hv3), (bt rfl), ha0, ha0, ha1, ha1, ha1, ha1, ha1, trivial⟩)
  ·replace hw6 := ite_f ha0 hw6
   have hw6 := Option.some.inj hw6
   subst hw6
   exact (r_draw Try_mixed 11 [] [(2, .p (.bool false))] [(1, {call := some ([.v (vRt a0)], [.p (.bool v1)], true)}), (3, {g := some false}), (4, {g := some false}), (5, {g := some false}), (6, {g := some false}), (7, {b := some false}), (9, {g := some false}), (10, {g := some false}), (11, {g := some false}), (12, {g := some false}), (13, {b := some false})] [([.v (vRt a0)] : List Arg) = [.v (vRt a0)], Meets Try.prog 96 ([.v (vRt a0)] ++ []) { vals := [.p (.bool v1)] }, (!true || List.all [.p (.bool v1)] simpleR) = true, v1 = false, v1 = false, v1 = false, v1 = false, v1 = false, false = false, false = false, false = false, false = false, false = false] (by kernel_rfl) ⟨rfl, (wk_impl_isRat hv1), (bt rfl), ha0, ha0, ha0, ha0, ha0, rfl, rfl, rfl, rfl, rfl, trivial⟩)
 ·refine k_ret ?_
  obtain rfl := Option.some.inj h
  exact e_ret (ls := [(.p (.bool w6), 2)]) (by kernel_rfl) rfl (by kernel_rfl) rfl
theorem wk_impl_areRats {a0 : (List Qr)}  {r : Bool} (h : impl_areRats a0 = some r) : Meets Try.prog 74 [.d false [.sl none (a0.map eRt)]] { vals := [.p (.bool r)] } := by
 refine Meets_ofL (by kernel_rfl) Try.func74 rfl (by kernel_rfl) (l0 := [(0, .d false [.sl none (a0.map eRt)])]) (by kernel_rfl) ?_
 unfold impl_areRats at h
 refine k_sreg (r_go [(0, .d false [.sl none (a0.map eRt)])] [] [] (by kernel_rfl) trivial) ?_
 refine k_join (J := fun (x : Unit) => []) (K := fun x => impl_areRats_k1 x = some r) (fun x1 h => ?_) ?_
 ·unfold impl_areRats_k1 at h
  refine k_sreg (r_go [(2, .p (.bool true))] [] [] (by kernel_rfl) trivial) ?_
  refine k_ret ?_
  obtain rfl := Option.some.inj h
  exact e_ret (ls := [(.p (.bool true), 2)]) (by kernel_rfl) rfl (by kernel_rfl) rfl
 ·refine k_sreg (r_go [(5, .d false [.sl none (a0.map eRt)]), (6, .p (.int .i64 (a0.length : Int))), (7, .p (.int .i64 0))] [(1, {n := some a0.length})] [(a0.map eRt).length = a0.length] (by kernel_rfl) ⟨(List.length_map ..), trivial⟩) ?_
  refine k_block ?_
  obtain ⟨y3, hl_x2, hk_x2⟩ := bind_some' h
  clear h
  refine k_loop (J := fun (x : Int) => [(5, .d false [.sl none (a0.map eRt)]), (6, .p (.int .i64 (a0.length : Int))), (7, .p (.int .i64 x))]) hl_x2 (wk_of (by kernel_rfl) (by kernel_rfl)) (fun x2 o_x2 h hy_x2 => ?_)
  unfold impl_areRats_b1 at h
  refine k_sreg (r_go [(5, .d false [.sl none (a0.map eRt)]), (6, .p (.int .i64 (a0.length : Int))), (7, .p (.int .i64 x2)), (8, .p (.bool (decide (x2 < (a0.length : Int)))))] [] [] (by kernel_rfl) trivial) ?_
  refine k_seq ?_
  refine k_cond (b := (decide (x2 < (a0.length : Int)))) (by kernel_rfl) (fun hc5_3 => ?_) (fun hc5_3 => ?_)
  ·replace h := ite_t hc5_3 h
   refine k_skip ?_
   refine q_n ?_
   refine k_seq ?_
   refine k_block ?_
   replace h := bind_some' h
   obtain ⟨v5, hv5, h⟩ := h
   refine k_sreg (r_go [(4, .box (eRt v5)), (5, .d false [.sl none (a0.map eRt)]), (6, .p (.int .i64 (a0.length : Int))), (7, .p (.int .i64 x2))] [(0, {row := some (eRt v5)})] [0 ≤ x2, (a0.map eRt)[(Int.toNat x2)]? = some (eRt v5)] (by kernel_rfl) ⟨(idxO_some hv5).1, (map_get eRt (idxO_some hv5).2), trivial⟩) ?_
   replace h := bind_some' h
   obtain ⟨v6, hv6, h⟩ := h
   refine k_sreg (r_go [(5, .d false [.sl none (a0.map eRt)]), (6, .p (.int .i64 (a0.length : Int))), (7, .p (.int .i64 x2)), (13, .p (.bool (!v6)))] [(1, {call := some ([.v (vRt v5)], [.p (.bool v6)], true)})] [([.v (vRt v5)] : List Arg) = [.v (vRt v5)], Meets Try.prog 96 ([.v (vRt v5)] ++ []) { vals := [.p (.bool v6)] }, (!true || List.all [.p (.bool v6)] simpleR) = true] (by kernel_rfl) ⟨rfl, (wk_impl_isRat hv6), (bt rfl), trivial⟩) ?_
   refine k_cond (b := (!v6)) (by kernel_rfl) (fun hc6_6 => ?_) (fun hc6_6 => ?_)
   ·replace h := ite_t hc6_6 h
    refine k_sreg (r_go [(2, .p (.bool false))] [] [] (by kernel_rfl) trivial) ?_
    refine k_ret ?_
    refine b_r ?_
    refine q_r ?_
    refine lq_r ?_
    refine b_r ?_
    refine q_r ?_
    have hyy := hy_x2 _ (Option.some.inj h).symm
    subst hyy
    have h := hk_x2
    dsimp only [Sum.elim] at h
    obtain rfl := Option.some.inj h
    exact e_ret (ls := [(.p (.bool false), 2)]) (by kernel_rfl) rfl (by kernel_rfl) rfl
   ·replace h := ite_f hc6_6 h
    refine k_skip ?_
    refine b_n ?_
    refine q_n ?_
    refine k_reg (r_go [(5, .d false [.sl none (a0.map eRt)]), (6, .p (.int .i64 (a0.length : Int))), (7, .p (.int .i64 (w64 (x2 + 1))))] [] [] (by kernel_rfl) trivial) ?_
    exact lq_n (w64 (x2 + 1)) (Option.some.inj h).symm (wk_of (by kernel_rfl) (by kernel_rfl))
  ·replace h := ite_f hc5_3 h
   refine k_exit ?_
   refine q_x ?_
   refine lq_x ?_
   refine b_x ?_
   have hyy := hy_x2 _ (Option.some.inj h).symm
   subst hyy
   have h := hk_x2
   dsimp only [Sum.elim] at h
   refine q_n ?_
   exact ⟨(), h, (wk_of (by kernel_rfl) (by kernel_rfl))⟩
theorem wk_impl_lowest {a0 : Int} {a1 : Int}  {r : (Qr × Bool)} (h : impl_lowest a0 a1 = some r) : Meets Try.prog 115 [.v (.int .i64 a0), .v (.int .i64 a1)] { vals := [.p (vRt r.1), .p (.bool r.2)] } := by
 refine Meets_ofL (by kernel_rfl) Try.func115 rfl (by kernel_rfl) (l0 := [(0, .p (.int .i64 a0)), (1, .p (.int .i64 a1))]) (by kernel_rfl) ?_
 unfold impl_lowest at h
 refine k_sreg (r_go [(0, .p (.int .i64 a0)), (1, .p (.int .i64 a1)), (4, .box [.raw (.int .i64 0), .raw (.int .i64 0)])] [] [] (by kernel_rfl) trivial) ?_
 replace h := bind_some' h
 obtain ⟨v1, hv1, h⟩ := h
 refine k_sreg (r_go [(0, .p (.int .i64 a0)), (1, .p (.int .i64 a1)), (4, .box [.raw (.int .i64 0), .raw (.int .i64 0)]), (6, .p (.int .i64 v1))] [(2, {call := some ([.v (.int .i64 a0), .v (.int .i64 a1)], [.p (.int .i64 v1)], true)})] [([.v (.int .i64 a0), .v (.int .i64 a1)] : List Arg) = [.v (.int .i64 a0), .v (.int .i64 a1)], Meets Try.prog 128 ([.v (.int .i64 a0), .v (.int .i64 a1)] ++ []) { vals := [.p (.int .i64 v1)] }, (!true || List.all [.p (.int .i64 v1)] simpleR) = true] (by kernel_rfl) ⟨rfl, (wk_impl_greatestDivisor hv1), (bt rfl), trivial⟩) ?_
 refine k_join (J := fun (x : Int) => [(0, .p (.int .i64 a0)), (1, .p (.int .i64 a1)), (4, .box [.raw (.int .i64 0), .raw (.int .i64 0)]), (6, .p (.int .i64 x))]) (K := fun x => impl_lowest_k1 a0 a1 x = some r) (fun x2 h => ?_) ?_
 ·unfold impl_lowest_k1 at h
  replace h := bind_some' h
  obtain ⟨u3, hu3, h⟩ := h
  refine k_sreg (r_draw Try_mixed 8 [] [(4, .box [.raw (.int .i64 0), .raw (.int .i64 0)]), (7, .box [.raw (.int .i64 (w64 (Int.tdiv a0 x2))), .raw (.int .i64 (w64 (Int.tdiv a1 x2)))])] [] [x2 ≠ (0 : Int), x2 ≠ (0 : Int)] (by kernel_rfl) ⟨(guardO_some hu3), (guardO_some hu3), trivial⟩) ?_
  refine k_seq ?_
  replace h := bind_some' h
  obtain ⟨v4, hv4, h⟩ := h
  refine k_sreg (r_go [(4, .box [.raw (.int .i64 0), .raw (.int .i64 0)]), (7, .box [.raw (.int .i64 (w64 (Int.tdiv a0 x2))), .raw (.int .i64 (w64 (Int.tdiv a1 x2)))]), (24, .p (.bool (!v4)))] [(1, {call := some ([.v (.agg #[.int .i64 (w64 (Int.tdiv a0 x2)), .int .i64 (w64 (Int.tdiv a1 x2))])], [.p (.bool v4)], true)})] [([.v (.agg #[.int .i64 (w64 (Int.tdiv a0 x2)), .int .i64 (w64 (Int.tdiv a1 x2))])] : List Arg) = [.v (.agg #[.int .i64 (w64 (Int.tdiv a0 x2)), .int .i64 (w64 (Int.tdiv a1 x2))])], Meets Try.prog 96 ([.v (.agg #[.int .i64 (w64 (Int.tdiv a0 x2)), .int .i64 (w64 (Int.tdiv a1 x2))])] ++ []) { vals := [.p (.bool v4)] }, (!true || List.all [.p (.bool v4)] simpleR) = true] (by kernel_rfl) ⟨rfl, (wk_impl_isRat hv4), (bt rfl), trivial⟩) ?_
  refine k_cond (b := (!v4)) (by kernel_rfl) (fun hc2_4 => ?_) (fun hc2_4 => ?_)
  ·replace h := ite_t hc2_4 h
   refine k_sreg (r_go [(4, .box [.raw (.int .i64 0), .raw (.int .i64 0)]), (5, .p (.bool false))] [] [] (by kernel_rfl) trivial) ?_
   refine k_ret ?_
   refine q_r ?_
   obtain rfl := Option.some.inj h
   exact e_ret (ls := [(.p (.agg #[.int .i64 0, .int .i64 0]), 4), (.p (.bool false), 5)]) (by kernel_rfl) rfl (by kernel_rfl) rfl
  ·replace h := ite_f hc2_4 h
   refine k_skip ?_
   refine q_n ?_
   refine k_sreg (r_go [(4, .box [.raw (.int .i64 (w64 (Int.tdiv a0 x2))), .raw (.int .i64 (w64 (Int.tdiv a1 x2)))]), (5, .p (.bool true))] [] [] (by kernel_rfl) trivial) ?_
   refine k_ret ?_
   obtain rfl := Option.some.inj h
   exact e_ret (ls := [(.p (.agg #[.int .i64 (w64 (Int.tdiv a0 x2)), .int .i64 (w64 (Int.tdiv a1 x2))]), 4), (.p (.bool true), 5)]) (by kernel_rfl) rfl (by kernel_rfl) rfl
 ·refine k_sreg (r_go [(0, .p (.int .i64 a0)), (1, .p (.int .i64 a1)), (4, .box [.raw (.int .i64 0), .raw (.int .i64 0)]), (6, .p (.int .i64 v1)), (12, .p (.bool (decide (a1 < 0))))] [] [] (by kernel_rfl) trivial) ?_
  refine k_cond (b := (decide (a1 < 0))) (by kernel_rfl) (fun hc2_5 => ?_) (fun hc2_5 => ?_)
  ·replace h := ite_t hc2_5 h
   refine k_reg (r_go [(0, .p (.int .i64 a0)), (1, .p (.int .i64 a1)), (4, .box [.raw (.int .i64 0), .raw (.int .i64 0)]), (6, .p (.int .i64 (w64 (0 - v1))))] [] [] (by kernel_rfl) trivial) ?_
   refine q_n ?_
   exact ⟨(w64 (0 - v1)), h, (wk_of (by kernel_rfl) (by kernel_rfl))⟩
  ·replace h := ite_f hc2_5 h
   refine k_skip ?_
   refine q_n ?_
   exact ⟨v1, h, (wk_of (by kernel_rfl) (by kernel_rfl))⟩
theorem wk_impl_AddRats {a0 : Qr} {a1 : Qr}  {r : (Qr × Bool)} (h : impl_AddRats a0 a1 = some r) : Meets Try.prog 109 [.v (vRt a0), .v (vRt a1)] { vals := [.p (vRt r.1), .p (.bool r.2)] } := by
 refine Meets_ofL (by kernel_rfl) Try.func109 rfl (by kernel_rfl) (l0 := [(0, .p (vRt a0)), (1, .p (vRt a1))]) (by kernel_rfl) ?_
 unfold impl_AddRats at h
 refine k_sreg (r_go [(2, .box (eRt a0)), (3, .box (eRt a1)), (4, .box [.raw (.int .i64 0), .raw (.int .i64 0)])] [] [] (by kernel_rfl) trivial) ?_
 refine k_seq ?_
 replace h := bind_some' h
 obtain ⟨v1, hv1, h⟩ := h
 refine k_sreg (r_go [(2, .box (eRt a0)), (3, .box (eRt a1)), (4, .box [.raw (.int .i64 0), .raw (.int .i64 0)]), (10, .p (.bool (!v1)))] [(3, {call := some ([.d false [.sl none (([a0, a1]).map eRt)]], [.p (.bool v1)], true)})] [([.d false [.sl none (eraL (([a0, a1]).map eRt))]] : List Arg) = [.d false [.sl none (([a0, a1]).map eRt)]], Meets Try.prog 74 ([.d false [.sl none (([a0, a1]).map eRt)]] ++ []) { vals := [.p (.bool v1)] }, (!true || List.all [.p (.bool v1)] simpleR) = true] (by kernel_rfl) ⟨(by simp only [eraL_enc (h := eRt) (era_P er_I er_I)]), (wk_impl_areRats hv1), (bt rfl), trivial⟩) ?_
 refine k_cond (b := (!v1)) (by kernel_rfl) (fun hc2_1 => ?_) (fun hc2_1 => ?_)
 ·replace h := ite_t hc2_1 h
  refine k_sreg (r_go [(4, .box [.raw (.int .i64 0), .raw (.int .i64 0)]), (5, .p (.bool false))] [] [] (by kernel_rfl) trivial) ?_
  refine k_ret ?_
  refine q_r ?_
  obtain rfl := Option.some.inj h
  exact e_ret (ls := [(.p (.agg #[.int .i64 0, .int .i64 0]), 4), (.p (.bool false), 5)]) (by kernel_rfl) rfl (by kernel_rfl) rfl
 ·replace h := ite_f hc2_1 h
  refine k_skip ?_
  refine q_n ?_
  replace h := bind_some' h
  obtain ⟨v3, hv3, h⟩ := h
  refine k_sreg (r_go [(4, .box (eRt v3.1)), (5, .p (.bool v3.2))] [(16, {call := some ([.v (.int .i64 (w64 ((w64 (a0.1 * a1.2)) + (w64 (a1.1 * a0.2))))), .v (.int .i64 (w64 (a0.2 * a1.2)))], [.p (vRt v3.1), .p (.bool v3.2)], true)})] [([.v (.int .i64 (w64 ((w64 (a0.1 * a1.2)) + (w64 (a1.1 * a0.2))))), .v (.int .i64 (w64 (a0.2 * a1.2)))] : List Arg) = [.v (.int .i64 (w64 ((w64 (a0.1 * a1.2)) + (w64 (a1.1 * a0.2))))), .v (.int .i64 (w64 (a0.2 * a1.2)))], Meets Try.prog 115 ([.v (.int .i64 (w64 ((w64 (a0.1 * a1.2)) + (w64 (a1.1 * a0.2))))), .v (.int .i64 (w64 (a0.2 * a1.2)))] ++ []) { vals := [.p (vRt v3.1), .p (.bool v3.2)] }, (!true || List.all [.p (vRt v3.1), .p (.bool v3.2)] simpleR) = true] (by kernel_rfl) ⟨rfl, (wk_impl_lowest hv3), (bt rfl), trivial⟩) ?_
  refine k_ret ?_
  obtain rfl := Option.some.inj h
  exact e_ret (ls := [(.p (vRt v3.1), 4), (.p (.bool v3.2), 5)]) (by kernel_rfl) rfl (by kernel_rfl) rfl
theorem wk_impl_calc_keep {a0 : Bool} {a1 : Qr} {a2 : Bool}  {r : (Qr × Bool)} (h : impl_calc_keep a0 a1 a2 = some r) : MeetsB Try.prog 108 (.box [.raw (.bool a0)]) [.v (vRt a1), .v (.bool a2)] [.p (vRt r.1)] (.box [.raw (.bool r.2)]) := by
 refine MeetsB_ofL (by kernel_rfl) Try.func108 rfl (by kernel_rfl) rfl (l0 := [(0, .box [.raw (.bool a0)]), (1, .p (vRt a1)), (2, .p (.bool a2))]) (by kernel_rfl) ?_
 unfold impl_calc_keep at h
 refine k_sreg (r_go [(0, .box [.raw (.bool a0)]), (2, .p (.bool a2)), (4, .box (eRt a1)), (6, .box [.raw (.int .i64 0), .raw (.int .i64 0)])] [] [] (by kernel_rfl) trivial) ?_
 refine k_seq ?_
 refine k_sreg (r_go [(0, .box [.raw (.bool a0)]), (4, .box (eRt a1)), (6, .box [.raw (.int .i64 0), .raw (.int .i64 0)]), (8, .p (.bool (!a2)))] [] [] (by kernel_rfl) trivial) ?_
 refine k_cond (b := (!a2)) (by kernel_rfl) (fun hc2_0 => ?_) (fun hc2_0 => ?_)
 ·replace h := ite_t hc2_0 h
  refine k_sreg (r_go [(0, .box [.raw (.bool true)]), (6, .box [.raw (.int .i64 0), .raw (.int .i64 0)])] [] [] (by kernel_rfl) trivial) ?_
  replace h := bind_some' h
  obtain ⟨v2, hv2, h⟩ := h
  refine k_sreg (r_go [(0, .box [.raw (.bool true)]), (6, .box (eRt v2))] [(0, {call := some ([], [.p (vRt v2)], true)})] [([] : List Arg) = [], Meets Try.prog 98 ([] ++ []) { vals := [.p (vRt v2)] }, (!true || List.all [.p (vRt v2)] simpleR) = true] (by kernel_rfl) ⟨rfl, (wk_impl_zero hv2), (bt rfl), trivial⟩) ?_
  refine k_ret ?_
  refine q_r ?_
  obtain rfl := Option.some.inj h
  exact eb_ret (ls := [(.p (vRt v2), 6)]) (by kernel_rfl) rfl rfl (by kernel_rfl) (by kernel_rfl)
 ·replace h := ite_f hc2_0 h
  refine k_skip ?_
  refine q_n ?_
  refine k_sreg (r_go [(0, .box [.raw (.bool a0)]), (6, .box (eRt a1))] [] [] (by kernel_rfl) trivial) ?_
  refine k_ret ?_
  obtain rfl := Option.some.inj h
  exact eb_ret (ls := [(.p (vRt a1), 6)]) (by kernel_rfl) rfl rfl (by kernel_rfl) (by kernel_rfl)
theorem wk_impl_calc_add {a0 : Bool} {a1 : Qr} {a2 : Qr}  {r : (Qr × Bool)} (h : impl_calc_add a0 a1 a2 = some r) : MeetsB Try.prog 68 (.box [.raw (.bool a0)]) [.v (vRt a1), .v (vRt a2)] [.p (vRt r.1)] (.box [.raw (.bool r.2)]) := by
 refine MeetsB_ofL (by kernel_rfl) Try.func68 rfl (by kernel_rfl) rfl (l0 := [(0, .box [.raw (.bool a0)]), (1, .p (vRt a1)), (2, .p (vRt a2))]) (by kernel_rfl) ?_
 unfold impl_calc_add at h
 refine k_sreg (r_go [(0, .box [.raw (.bool a0)]), (4, .box (eRt a1)), (5, .box (eRt a2)), (6, .box [.raw (.int .i64 0), .raw (.int .i64 0)])] [] [] (by kernel_rfl) trivial) ?_
 replace h := bind_some' h
 obtain ⟨v1, hv1, h⟩ := h
 replace h := bind_some' h
 obtain ⟨v2, hv2, h⟩ := h
 refine k_sreg (r_go [(0, .box [.raw (.bool v2.2)]), (6, .box (eRt v2.1))] [(3, {call := some ([.v (vRt a1), .v (vRt a2)], [.p (vRt v1.1), .p (.bool v1.2)], true)}), (6, {lend := some ([.v (vRt v1.1), .v (.bool v1.2)], [.p (vRt v2.1)], .box [.raw (.bool v2.2)], true)})] [([.v (vRt a1), .v (vRt a2)] : List Arg) = [.v (vRt a1), .v (vRt a2)], Meets Try.prog 109 ([.v (vRt a1), .v (vRt a2)] ++ []) { vals := [.p (vRt v1.1), .p (.bool v1.2)] }, (!true || List.all [.p (vRt v1.1), .p (.bool v1.2)] simpleR) = true, ([.v (vRt v1.1), .v (.bool v1.2)] : List Arg) = [.v (vRt v1.1), .v (.bool v1.2)], MeetsB Try.prog 108 (.box [.raw (.bool a0)]) [.v (vRt v1.1), .v (.bool v1.2)] [.p (vRt v2.1)] (.box [.raw (.bool v2.2)]), (!true || (List.all [.p (vRt v2.1)] simpleR && wnS (.box [.raw (.bool v2.2)]))) = true] (by kernel_rfl) ⟨rfl, (wk_impl_AddRats hv1), (bt rfl), rfl, (wk_impl_calc_keep hv2), (bt (ls_t rfl (wnc rfl))), trivial⟩) ?_
 refine k_ret ?_
 obtain rfl := Option.some.inj h
 exact eb_ret (ls := [(.p (vRt v2.1), 6)]) (by kernel_rfl) rfl rfl (by kernel_rfl) (by kernel_rfl)
theorem wk_impl_TurnLift {a0 : (List Qp)} {a1 : Qr}  {r : ((List Qp) × Bool)} (h : impl_TurnLift a0 a1 = some r) : Meets Try.prog 34 [.d true [.sl none (a0.map ePt)], .v (vRt a1)] { vals := [.ov true [.sl (some 71) (r.1.map ePt)], .p (.bool r.2)] } := by
 refine Meets_ofL (by kernel_rfl) Try.func34 rfl (by kernel_rfl) (l0 := [(0, .d true [.sl none (a0.map ePt)]), (1, .p (vRt a1))]) (by kernel_rfl) ?_
 unfold impl_TurnLift at h
 refine k_sreg (r_go [(2, .box [.sl none (a0.map ePt)]), (3, .box (eRt a1)), (4, .box [.sl (some 71) []])] [] [] (by kernel_rfl) trivial) ?_
 refine k_seq ?_
 replace h := bind_some' h
 obtain ⟨v1, hv1, h⟩ := h
 replace h := bind_some' h
 obtain ⟨w3, hw3, h⟩ := h
 refine k_sreg (l1 := [(2, .box [.sl none (a0.map ePt)]), (3, .box (eRt a1)), (4, .box [.sl (some 71) []]), (17, .p (.bool w3))]) ?_ ?_
 ·clear h
  rcases Bool.eq_false_or_eq_true (!v1) with ha0 | ha0
  ·replace hw3 := ite_t ha0 hw3
   have hw3 := Option.some.inj hw3
   subst hw3
   exact (r_go [(2, .box [.sl none (a0.map ePt)]), (3, .box (eRt a1)), (4, .box [.sl (some 71) []]), (17, .p (.bool true))] [(0, {b := some true}), (1, {call := some ([.d true [.sl none (a0.map ePt)]], [.p (.bool v1)], true)}), (4, {g := some true}), (5, {g := some true}), (6, {g := some true}), (7, {b := some true})] [frR [.sl none (a0.map ePt)] = true, ([.d true [.sl none (a0.map ePt)]] : List Arg) = [.d true [.sl none (a0.map ePt)]], Meets Try.prog 51 ([.d true [.sl none (a0.map ePt)]] ++ []) { vals := [.p (.bool v1)] }, (!true || List.all [.p (.bool v1)] simpleR) = true, (!v1) = true, (!v1) = true, (!v1) = true, (!v1) = true] (by kernel_rfl) ⟨(frR1 (frL_enc (fr_P (fr_P fr_I fr_I) (fr_P fr_I fr_I))) rfl), rfl, (wk_impl_isLift hv1), (bt rfl), ha0, ha0, ha0, ha0, trivial⟩)
  ·replace hw3 := ite_f ha0 hw3
   replace hw3 := bind_some' hw3
   obtain ⟨v2, hv2, hw3⟩ := hw3
   have hw3 := Option.some.inj hw3
   subst hw3
   exact (r_go [(2, .box [.sl none (a0.map ePt)]), (3, .box (eRt a1)), (4, .box [.sl (some 71) []]), (17, .p (.bool (!v2)))] [(0, {b := some true}), (1, {call := some ([.d true [.sl none (a0.map ePt)]], [.p (.bool v1)], true)}), (4, {g := some false}), (5, {g := some false, call := some ([.v (vRt a1)], [.p (.bool v2)], true)}), (6, {g := some false}), (7, {b := some false})] [frR [.sl none (a0.map ePt)] = true, ([.d true [.sl none (a0.map ePt)]] : List Arg) = [.d true [.sl none (a0.map ePt)]], Meets Try.prog 51 ([.d true [.sl none (a0.map ePt)]] ++ []) { vals := [.p (.bool v1)] }, (!true || List.all [.p (.bool v1)] simpleR) = true, (!v1) = false, (!v1) = false, ([.v (vRt a1)] : List Arg) = [.v (vRt a1)], Meets Try.prog 67 ([.v (vRt a1)] ++ []) { vals := [.p (.bool v2)] }, (!true || List.all [.p (.bool v2)] simpleR) = true, (!v1) = false, (!v1) = false] (by kernel_rfl) ⟨(frR1 (frL_enc (fr_P (fr_P fr_I fr_I) (fr_P fr_I fr_I))) rfl), rfl, (wk_impl_isLift hv1), (bt rfl), ha0, ha0, rfl, (wk_impl_isFar hv2), (bt rfl), ha0, ha0, trivial⟩)
 ·refine k_cond (b := w3) (by kernel_rfl) (fun hc2_3 => ?_) (fun hc2_3 => ?_)
  ·replace h := ite_t hc2_3 h
   refine k_sreg (r_go [(4, .box [.sl (some 71) []]), (5, .p (.bool false))] [(0, {b := some true})] [] (by kernel_rfl) trivial) ?_
   refine k_ret ?_
   refine q_r ?_
   obtain rfl := Option.some.inj h
   exact e_ret (ls := [(.ov true [.sl (some 71) []], 4), (.p (.bool false), 5)]) (by kernel_rfl) rfl (by kernel_rfl) rfl
  ·replace h := ite_f hc2_3 h
   refine k_skip ?_
   refine q_n ?_
   refine k_sreg (r_go [(2, .box [.sl none (a0.map ePt)]), (3, .box (eRt a1)), (4, .box [.sl (some 71) []]), (6, .box [.raw (.bool false)])] [] [] (by kernel_rfl) trivial) ?_
   refine k_sreg (r_go [(2, .box [.sl none (a0.map ePt)]), (3, .box (eRt a1)), (4, .box [.sl (some 71) []]), (6, .box [.raw (.bool false)]), (7, .box [.sl (some 71) []])] [] [] (by kernel_rfl) trivial) ?_
   refine k_join (J := fun (x : (Bool × (List Qp))) => [(4, .box [.sl (some 71) []]), (6, .box [.raw (.bool x.1)]), (7, .box [.sl (some 71) (x.2.map ePt)])]) (K := fun x => impl_TurnLift_k1 x = some r) (fun x5 h => ?_) ?_
   ·unfold impl_TurnLift_k1 at h
    refine k_seq ?_
    replace h := bind_some' h
    obtain ⟨w7, hw7, h⟩ := h
    refine k_sreg (l1 := [(4, .box [.sl (some 71) []]), (7, .box [.sl (some 71) (x5.2.map ePt)]), (45, .p (.bool w7))]) ?_ ?_
    ·clear h
     rcases Bool.eq_false_or_eq_true x5.1 with ha1 | ha1
     ·replace hw7 := ite_t ha1 hw7
      have hw7 := Option.some.inj hw7
      subst hw7
      exact (r_go [(4, .box [.sl (some 71) []]), (7, .box [.sl (some 71) (x5.2.map ePt)]), (45, .p (.bool true))] [(3, {g := some true}), (4, {g := some true}), (5, {g := some true}), (6, {b := some true})] [x5.1 = true, x5.1 = true, x5.1 = true, x5.1 = true] (by kernel_rfl) ⟨ha1, ha1, ha1, ha1, trivial⟩)
     ·replace hw7 := ite_f ha1 hw7
      replace hw7 := bind_some' hw7
      obtain ⟨v6, hv6, hw7⟩ := hw7
      have hw7 := Option.some.inj hw7
      subst hw7
      exact (r_go [(4, .box [.sl (some 71) []]), (7, .box [.sl (some 71) (x5.2.map ePt)]), (45, .p (.bool (!v6)))] [(3, {g := some false}), (4, {g := some false, call := some ([.d true [.sl none (x5.2.map ePt)]], [.p (.bool v6)], true)}), (5, {g := some false}), (6, {b := some false})] [x5.1 = false, frR [.sl (some 71) (x5.2.map ePt)] = false, x5.1 = false, ([.d true [.sl none (eraL (x5.2.map ePt))]] : List Arg) = [.d true [.sl none (x5.2.map ePt)]], Meets Try.prog 51 ([.d true [.sl none (x5.2.map ePt)]] ++ []) { vals := [.p (.bool v6)] }, (!true || List.all [.p (.bool v6)] simpleR) = true, x5.1 = false, x5.1 = false] (by kernel_rfl) ⟨ha1, rfl, ha1, (by simp only [eraL_enc (h := ePt) (era_P (era_P er_I er_I) (era_P er_I er_I))]), (wk_impl_isLift hv6), (bt rfl), ha1, ha1, trivial⟩)
    ·refine k_cond (b := w7) (by kernel_rfl) (fun hc2_7 => ?_) (fun hc2_7 => ?_)
     ·replace h := ite_t hc2_7 h
      refine k_sreg (r_go [(4, .box [.sl (some 71) []]), (5, .p (.bool false))] [(0, {b := some true})] [] (by kernel_rfl) trivial) ?_
      refine k_ret ?_
      refine q_r ?_
      obtain rfl := Option.some.inj h
      exact e_ret (ls := [(.ov true [.sl (some 71) []], 4), (.p (.bool false), 5)]) (by kernel_rfl) rfl (by kernel_rfl) rfl
     ·replace h := ite_f hc2_7 h
      refine k_skip ?_
      refine q_n ?_
      refine k_sreg (r_go [(4, .box [.sl (some 71) (x5.2.map ePt)]), (5, .p (.bool true))] [] [frR [.sl (some 71) (x5.2.map ePt)] = false] (by kernel_rfl) ⟨rfl, trivial⟩) ?_
      refine k_ret ?_
      obtain rfl := Option.some.inj h
      exact e_ret (ls := [(.ov true [.sl (some 71) (x5.2.map ePt)], 4), (.p (.bool true), 5)]) (by kernel_rfl) rfl (by kernel_rfl) rfl
   ·refine k_sreg (r_go [(3, .box (eRt a1)), (4, .box [.sl (some 71) []]), (6, .box [.raw (.bool false)]), (7, .box [.sl (some 71) []]), (20, .d false [.sl none (a0.map ePt)]), (21, .p (.int .i64 (a0.length : Int))), (22, .p (.int .i64 0))] [(1, {b := some true}), (2, {n := some a0.length})] [frR [.sl none (a0.map ePt)] = true, (a0.map ePt).length = a0.length] (by kernel_rfl) ⟨(frR1 (frL_enc (fr_P (fr_P fr_I fr_I) (fr_P fr_I fr_I))) rfl), (List.length_map ..), trivial⟩) ?_
    refine k_block ?_
    obtain ⟨y10, hl_x9, hk_x9⟩ := bind_some' h
    clear h
    refine k_loop (J := fun (x : (Bool × (List Qp) × Int)) => [(3, .box (eRt a1)), (4, .box [.sl (some 71) []]), (6, .box [.raw (.bool x.1)]), (7, .box [.sl (some 71) (x.2.1.map ePt)]), (20, .d false [.sl none (a0.map ePt)]), (21, .p (.int .i64 (a0.length : Int))), (22, .p (.int .i64 x.2.2))]) hl_x9 (wk_of (by kernel_rfl) (by kernel_rfl)) (fun x9 o_x9 h hy_x9 => ?_)
    unfold impl_TurnLift_b1 at h
    refine k_sreg (r_go [(3, .box (eRt a1)), (4, .box [.sl (some 71) []]), (6, .box [.raw (.bool x9.1)]), (7, .box [.sl (some 71) (x9.2.1.map ePt)]), (20, .d false [.sl none (a0.map ePt)]), (21, .p (.int .i64 (a0.length : Int))), (22, .p (.int .i64 x9.2.2)), (23, .p (.bool (decide (x9.2.2 < (a0.length : Int)))))] [] [] (by kernel_rfl) trivial) ?_
    refine k_seq ?_
    refine k_cond (b := (decide (x9.2.2 < (a0.length : Int)))) (by kernel_rfl) (fun hc5_10 => ?_) (fun hc5_10 => ?_)
    ·replace h := ite_t hc5_10 h
     refine k_skip ?_
     refine q_n ?_
     refine k_seq ?_
     refine k_block ?_
     replace h := bind_some' h
     obtain ⟨v12, hv12, h⟩ := h
     refine k_sreg (r_go [(3, .box (eRt a1)), (4, .box [.sl (some 71) []]), (6, .box [.raw (.bool x9.1)]), (7, .box [.sl (some 71) (x9.2.1.map ePt)]), (9, .box (ePt v12)), (20, .d false [.sl none (a0.map ePt)]), (21, .p (.int .i64 (a0.length : Int))), (22, .p (.int .i64 x9.2.2))] [(0, {row := some (ePt v12)})] [0 ≤ x9.2.2, (a0.map ePt)[(Int.toNat x9.2.2)]? = some (ePt v12)] (by kernel_rfl) ⟨(idxO_some hv12).1, (map_get ePt (idxO_some hv12).2), trivial⟩) ?_
     replace h := bind_some' h
     obtain ⟨v13, hv13, h⟩ := h
     replace h := bind_some' h
     obtain ⟨u14, hu14, h⟩ := h
     refine k_reg (r_draw Try_mixed 10 [(7, 6)] [(3, .box (eRt a1)), (4, .box [.sl (some 71) []]), (6, .box [.raw (.bool v13.2)]), (7, .box [.sl (some 71) ((x9.2.1 ++ [(v12.1, v13.1)]).map ePt)]), (20, .d false [.sl none (a0.map ePt)]), (21, .p (.int .i64 (a0.length : Int))), (22, .p (.int .i64 x9.2.2))] [(7, {lend := some ([.v (vRt v12.2), .v (vRt a1)], [.p (vRt v13.1)], .box [.raw (.bool v13.2)], true)}), (10, {take := some (27, [.sl (some 71) (x9.2.1.map ePt)]), fix := some (36, .ov false [.sl (some 71) ((x9.2.1 ++ [(v12.1, v13.1)]).map ePt)])})] [frR [.sl (some 71) (x9.2.1.map ePt)] = false, ([.v (vRt v12.2), .v (vRt a1)] : List Arg) = [.v (vRt v12.2), .v (vRt a1)], MeetsB Try.prog 68 (.box [.raw (.bool x9.1)]) [.v (vRt v12.2), .v (vRt a1)] [.p (vRt v13.1)] (.box [.raw (.bool v13.2)]), List.all [.p (vRt v13.1)] simpleR = true, getRow [[.sl (some 71) (x9.2.1.map ePt)]] [(0, 0)] = some [.sl (some 71) (x9.2.1.map ePt)], List.length ((x9.2.1.map ePt) : List (List C)) + List.length ((([(v12.1, v13.1)]).map ePt) : List (List C)) ≤ 1099511627776, ∀ row ∈ ((([(v12.1, v13.1)]).map ePt) : List (List C)), row.length = 4, (SV.ov false [.sl (some 71) ((x9.2.1.map ePt) ++ (([(v12.1, v13.1)]).map ePt))] : SV) = .ov false [.sl (some 71) ((x9.2.1 ++ [(v12.1, v13.1)]).map ePt)]] (by kernel_rfl) ⟨rfl, rfl, (wk_impl_calc_add hv13), rfl, rfl, (by have hg := (guardO_some hu14); simpa using hg), (rows_len fun _ => rfl), (congrArg (fun z => SV.ov false [.sl (some 71) z]) (List.map_append ..).symm), trivial⟩) ?_
     refine b_n ?_
     refine q_n ?_
     refine k_reg (r_go [(3, .box (eRt a1)), (4, .box [.sl (some 71) []]), (6, .box [.raw (.bool v13.2)]), (7, .box [.sl (some 71) ((x9.2.1 ++ [(v12.1, v13.1)]).map ePt)]), (20, .d false [.sl none (a0.map ePt)]), (21, .p (.int .i64 (a0.length : Int))), (22, .p (.int .i64 (w64 (x9.2.2 + 1))))] [] [] (by kernel_rfl) trivial) ?_
     exact lq_n (v13.2, (x9.2.1 ++ [(v12.1, v13.1)]), (w64 (x9.2.2 + 1))) (Option.some.inj h).symm (wk_of (by kernel_rfl) (by kernel_rfl))
    ·replace h := ite_f hc5_10 h
     refine k_exit ?_
     refine q_x ?_
     refine lq_x ?_
     refine b_x ?_
     have hyy := hy_x9 _ (Option.some.inj h).symm
     subst hyy
     have h := hk_x9
     refine q_n ?_
     exact ⟨(x9.1, x9.2.1), h, (wk_of (by kernel_rfl) (by kernel_rfl))⟩
theorem wk_laws_eqRat {a0 : Qr} {a1 : Qr}  {r : Bool} (h : laws_eqRat a0 a1 = some r) : Meets Try.prog 31 [.v (vRt a0), .v (vRt a1)] { vals := [.p (.bool r)] } := by
 refine Meets_ofL (by kernel_rfl) Try.func31 rfl (by kernel_rfl) (l0 := [(0, .p (vRt a0)), (1, .p (vRt a1))]) (by kernel_rfl) ?_
 unfold laws_eqRat at h
 refine k_sreg (r_go [(2, .box (eRt a0)), (3, .box (eRt a1))] [] [] (by kernel_rfl) trivial) ?_
 refine k_seq ?_
 refine k_sreg (r_go [(2, .box (eRt a0)), (3, .box (eRt a1)), (9, .p (.bool (a0.1 != a1.1)))] [] [] (by kernel_rfl) trivial) ?_
 refine k_cond (b := (a0.1 != a1.1)) (by kernel_rfl) (fun hc2_0 => ?_) (fun hc2_0 => ?_)
 ·replace h := ite_t hc2_0 h
  refine k_sreg (r_go [(4, .p (.bool false))] [] [] (by kernel_rfl) trivial) ?_
  refine k_ret ?_
  refine q_r ?_
  obtain rfl := Option.some.inj h
  exact e_ret (ls := [(.p (.bool false), 4)]) (by kernel_rfl) rfl (by kernel_rfl) rfl
 ·replace h := ite_f hc2_0 h
  refine k_skip ?_
  refine q_n ?_
  refine k_seq ?_
  refine k_sreg (r_go [(14, .p (.bool (a0.2 != a1.2)))] [] [] (by kernel_rfl) trivial) ?_
  refine k_cond (b := (a0.2 != a1.2)) (by kernel_rfl) (fun hc2_1 => ?_) (fun hc2_1 => ?_)
  ·replace h := ite_t hc2_1 h
   refine k_sreg (r_go [(4, .p (.bool false))] [] [] (by kernel_rfl) trivial) ?_
   refine k_ret ?_
   refine q_r ?_
   obtain rfl := Option.some.inj h
   exact e_ret (ls := [(.p (.bool false), 4)]) (by kernel_rfl) rfl (by kernel_rfl) rfl
  ·replace h := ite_f hc2_1 h
   refine k_skip ?_
   refine q_n ?_
   refine k_sreg (r_go [(4, .p (.bool true))] [] [] (by kernel_rfl) trivial) ?_
   refine k_ret ?_
   obtain rfl := Option.some.inj h
   exact e_ret (ls := [(.p (.bool true), 4)]) (by kernel_rfl) rfl (by kernel_rfl) rfl
theorem wk_laws_eqPoint {a0 : Qp} {a1 : Qp}  {r : Bool} (h : laws_eqPoint a0 a1 = some r) : Meets Try.prog 100 [.v (vPt a0), .v (vPt a1)] { vals := [.p (.bool r)] } := by
 refine Meets_ofL (by kernel_rfl) Try.func100 rfl (by kernel_rfl) (l0 := [(0, .p (vPt a0)), (1, .p (vPt a1))]) (by kernel_rfl) ?_
 unfold laws_eqPoint at h
 refine k_sreg (r_go [(2, .box (ePt a0)), (3, .box (ePt a1))] [] [] (by kernel_rfl) trivial) ?_
 refine k_seq ?_
 replace h := bind_some' h
 obtain ⟨v1, hv1, h⟩ := h
 refine k_sreg (r_go [(2, .box (ePt a0)), (3, .box (ePt a1)), (10, .p (.bool (!v1)))] [(4, {call := some ([.v (vRt a0.1), .v (vRt a1.1)], [.p (.bool v1)], true)})] [([.v (vRt a0.1), .v (vRt a1.1)] : List Arg) = [.v (vRt a0.1), .v (vRt a1.1)], Meets Try.prog 31 ([.v (vRt a0.1), .v (vRt a1.1)] ++ []) { vals := [.p (.bool v1)] }, (!true || List.all [.p (.bool v1)] simpleR) = true] (by kernel_rfl) ⟨rfl, (wk_laws_eqRat hv1), (bt rfl), trivial⟩) ?_
 refine k_cond (b := (!v1)) (by kernel_rfl) (fun hc2_1 => ?_) (fun hc2_1 => ?_)
 ·replace h := ite_t hc2_1 h
  refine k_sreg (r_go [(4, .p (.bool false))] [] [] (by kernel_rfl) trivial) ?_
  refine k_ret ?_
  refine q_r ?_
  obtain rfl := Option.some.inj h
  exact e_ret (ls := [(.p (.bool false), 4)]) (by kernel_rfl) rfl (by kernel_rfl) rfl
 ·replace h := ite_f hc2_1 h
  refine k_skip ?_
  refine q_n ?_
  refine k_seq ?_
  replace h := bind_some' h
  obtain ⟨v3, hv3, h⟩ := h
  refine k_sreg (r_go [(16, .p (.bool (!v3)))] [(4, {call := some ([.v (vRt a0.2), .v (vRt a1.2)], [.p (.bool v3)], true)})] [([.v (vRt a0.2), .v (vRt a1.2)] : List Arg) = [.v (vRt a0.2), .v (vRt a1.2)], Meets Try.prog 31 ([.v (vRt a0.2), .v (vRt a1.2)] ++ []) { vals := [.p (.bool v3)] }, (!true || List.all [.p (.bool v3)] simpleR) = true] (by kernel_rfl) ⟨rfl, (wk_laws_eqRat hv3), (bt rfl), trivial⟩) ?_
  refine k_cond (b := (!v3)) (by kernel_rfl) (fun hc2_3 => ?_) (fun hc2_3 => ?_)
  ·replace h := ite_t hc2_3 h
   refine k_sreg (r_go [(4, .p (.bool false))] [] [] (by kernel_rfl) trivial) ?_
   refine k_ret ?_
   refine q_r ?_
   obtain rfl := Option.some.inj h
   exact e_ret (ls := [(.p (.bool false), 4)]) (by kernel_rfl) rfl (by kernel_rfl) rfl
  ·replace h := ite_f hc2_3 h
   refine k_skip ?_
   refine q_n ?_
   refine k_sreg (r_go [(4, .p (.bool true))] [] [] (by kernel_rfl) trivial) ?_
   refine k_ret ?_
   obtain rfl := Option.some.inj h
   exact e_ret (ls := [(.p (.bool true), 4)]) (by kernel_rfl) rfl (by kernel_rfl) rfl
theorem wk_laws_eqPointS {a0 : (List Qp)} {a1 : (List Qp)}  {r : Bool} (h : laws_eqPointS a0 a1 = some r) : Meets Try.prog 52 [.d false [.sl none (a0.map ePt)], .d false [.sl none (a1.map ePt)]] { vals := [.p (.bool r)] } := by
 refine Meets_ofL (by kernel_rfl) Try.func52 rfl (by kernel_rfl) (l0 := [(0, .d false [.sl none (a0.map ePt)]), (1, .d false [.sl none (a1.map ePt)])]) (by kernel_rfl) ?_
 unfold laws_eqPointS at h
 refine k_sreg (r_go [(0, .d false [.sl none (a0.map ePt)]), (1, .d false [.sl none (a1.map ePt)])] [] [] (by kernel_rfl) trivial) ?_
 refine k_seq ?_
 refine k_sreg (r_go [(0, .d false [.sl none (a0.map ePt)]), (1, .d false [.sl none (a1.map ePt)]), (10, .p (.bool ((a0.length : Int) != (a1.length : Int))))] [(1, {n := some a0.length}), (3, {n := some a1.length})] [(a0.map ePt).length = a0.length, (a1.map ePt).length = a1.length] (by kernel_rfl) ⟨(List.length_map ..), (List.length_map ..), trivial⟩) ?_
 refine k_cond (b := ((a0.length : Int) != (a1.length : Int))) (by kernel_rfl) (fun hc2_0 => ?_) (fun hc2_0 => ?_)
 ·replace h := ite_t hc2_0 h
  refine k_sreg (r_go [(4, .p (.bool false))] [] [] (by kernel_rfl) trivial) ?_
  refine k_ret ?_
  refine q_r ?_
  obtain rfl := Option.some.inj h
  exact e_ret (ls := [(.p (.bool false), 4)]) (by kernel_rfl) rfl (by kernel_rfl) rfl
 ·replace h := ite_f hc2_0 h
  refine k_skip ?_
  refine q_n ?_
  refine k_join (J := fun (x : Unit) => []) (K := fun x => laws_eqPointS_k1 x = some r) (fun x2 h => ?_) ?_
  ·unfold laws_eqPointS_k1 at h
   refine k_sreg (r_go [(4, .p (.bool true))] [] [] (by kernel_rfl) trivial) ?_
   refine k_ret ?_
   obtain rfl := Option.some.inj h
   exact e_ret (ls := [(.p (.bool true), 4)]) (by kernel_rfl) rfl (by kernel_rfl) rfl
  ·refine k_sreg (r_go [(0, .d false [.sl none (a0.map ePt)]), (1, .d false [.sl none (a1.map ePt)]), (5, .p (.int .i64 0))] [] [] (by kernel_rfl) trivial) ?_
   refine k_block ?_
   obtain ⟨y4, hl_x3, hk_x3⟩ := bind_some' h
   clear h
   refine k_loop (J := fun (x : Int) => [(0, .d false [.sl none (a0.map ePt)]), (1, .d false [.sl none (a1.map ePt)]), (5, .p (.int .i64 x))]) hl_x3 (wk_of (by kernel_rfl) (by kernel_rfl)) (fun x3 o_x3 h hy_x3 => ?_)
   unfold laws_eqPointS_b1 at h
   refine k_seq ?_
   refine k_sreg (r_go [(0, .d false [.sl none (a0.map ePt)]), (1, .d false [.sl none (a1.map ePt)]), (5, .p (.int .i64 x3)), (14, .p (.bool (decide (x3 < (a0.length : Int)))))] [(2, {n := some a0.length})] [(a0.map ePt).length = a0.length] (by kernel_rfl) ⟨(List.length_map ..), trivial⟩) ?_
   refine k_cond (b := (decide (x3 < (a0.length : Int)))) (by kernel_rfl) (fun hc5_4 => ?_) (fun hc5_4 => ?_)
   ·replace h := ite_t hc5_4 h
    refine k_skip ?_
    refine q_n ?_
    refine k_seq ?_
    refine k_block ?_
    replace h := bind_some' h
    obtain ⟨v6, hv6, h⟩ := h
    replace h := bind_some' h
    obtain ⟨v7, hv7, h⟩ := h
    replace h := bind_some' h
    obtain ⟨v8, hv8, h⟩ := h
    refine k_sreg (r_draw Try_mixed 8 [] [(0, .d false [.sl none (a0.map ePt)]), (1, .d false [.sl none (a1.map ePt)]), (5, .p (.int .i64 x3)), (26, .p (.bool (!v8)))] [(2, {row := some (ePt v6)}), (6, {row := some (ePt v7)}), (8, {call := some ([.v (vPt v6), .v (vPt v7)], [.p (.bool v8)], true)})] [0 ≤ x3, (a0.map ePt)[(Int.toNat x3)]? = some (ePt v6), 0 ≤ x3, (a1.map ePt)[(Int.toNat x3)]? = some (ePt v7), ([.v (vPt v6), .v (vPt v7)] : List Arg) = [.v (vPt v6), .v (vPt v7)], Meets Try.prog 100 ([.v (vPt v6), .v (vPt v7)] ++ []) { vals := [.p (.bool v8)] }, (!true || List.all [.p (.bool v8)] simpleR) = true] (by kernel_rfl) ⟨(idxO_some hv6).1, (map_get ePt (idxO_some hv6).2), (idxO_some hv7).1, (map_get ePt (idxO_some hv7).2), rfl, (wk_laws_eqPoint hv8), (bt rfl), trivial⟩) ?_
    refine k_cond (b := (!v8)) (by kernel_rfl) (fun hc6_8 => ?_) (fun hc6_8 => ?_)
    ·replace h := ite_t hc6_8 h
     refine k_sreg (r_go [(4, .p (.bool false))] [] [] (by kernel_rfl) trivial) ?_
     refine k_ret ?_
     refine b_r ?_
     refine q_r ?_
     refine lq_r ?_
     refine b_r ?_
     refine q_r ?_
     have hyy := hy_x3 _ (Option.some.inj h).symm
     subst hyy
     have h := hk_x3
     dsimp only [Sum.elim] at h
     obtain rfl := Option.some.inj h
     exact e_ret (ls := [(.p (.bool false), 4)]) (by kernel_rfl) rfl (by kernel_rfl) rfl
    ·replace h := ite_f hc6_8 h
     refine k_skip ?_
     refine b_n ?_
     refine q_n ?_
     refine k_reg (r_go [(0, .d false [.sl none (a0.map ePt)]), (1, .d false [.sl none (a1.map ePt)]), (5, .p (.int .i64 (w64 (x3 + 1))))] [] [] (by kernel_rfl) trivial) ?_
     exact lq_n (w64 (x3 + 1)) (Option.some.inj h).symm (wk_of (by kernel_rfl) (by kernel_rfl))
   ·replace h := ite_f hc5_4 h
    refine k_exit ?_
    refine q_x ?_
    refine lq_x ?_
    refine b_x ?_
    have hyy := hy_x3 _ (Option.some.inj h).symm
    subst hyy
    have h := hk_x3
    dsimp only [Sum.elim] at h
    refine q_n ?_
    exact ⟨(), h, (wk_of (by kernel_rfl) (by kernel_rfl))⟩
theorem wk_laws_eqLift {a0 : (List Qp)} {a1 : (List Qp)}  {r : Bool} (h : laws_eqLift a0 a1 = some r) : Meets Try.prog 17 [.d true [.sl none (a0.map ePt)], .d true [.sl none (a1.map ePt)]] { vals := [.p (.bool r)] } := by
 refine Meets_ofL (by kernel_rfl) Try.func17 rfl (by kernel_rfl) (l0 := [(0, .d true [.sl none (a0.map ePt)]), (1, .d true [.sl none (a1.map ePt)])]) (by kernel_rfl) ?_
 unfold laws_eqLift at h
 refine k_sreg (r_go [(2, .box [.sl none (a0.map ePt)]), (3, .box [.sl none (a1.map ePt)])] [] [] (by kernel_rfl) trivial) ?_
 refine k_seq ?_
 replace h := bind_some' h
 obtain ⟨v1, hv1, h⟩ := h
 refine k_sreg (r_go [(10, .p (.bool (!v1)))] [(1, {b := some true}), (3, {b := some true}), (4, {call := some ([.d false [.sl none (a0.map ePt)], .d false [.sl none (a1.map ePt)]], [.p (.bool v1)], true)})] [frR [.sl none (a0.map ePt)] = true, frR [.sl none (a1.map ePt)] = true, ([.d false [.sl none (a0.map ePt)], .d false [.sl none (a1.map ePt)]] : List Arg) = [.d false [.sl none (a0.map ePt)], .d false [.sl none (a1.map ePt)]], Meets Try.prog 52 ([.d false [.sl none (a0.map ePt)], .d false [.sl none (a1.map ePt)]] ++ []) { vals := [.p (.bool v1)] }, (!true || List.all [.p (.bool v1)] simpleR) = true] (by kernel_rfl) ⟨(frR1 (frL_enc (fr_P (fr_P fr_I fr_I) (fr_P fr_I fr_I))) rfl), (frR1 (frL_enc (fr_P (fr_P fr_I fr_I) (fr_P fr_I fr_I))) rfl), rfl, (wk_laws_eqPointS hv1), (bt rfl), trivial⟩) ?_
 refine k_cond (b := (!v1)) (by kernel_rfl) (fun hc2_1 => ?_) (fun hc2_1 => ?_)
 ·replace h := ite_t hc2_1 h
  refine k_sreg (r_go [(4, .p (.bool false))] [] [] (by kernel_rfl) trivial) ?_
  refine k_ret ?_
  refine q_r ?_
  obtain rfl := Option.some.inj h
  exact e_ret (ls := [(.p (.bool false), 4)]) (by kernel_rfl) rfl (by kernel_rfl) rfl
 ·replace h := ite_f hc2_1 h
  refine k_skip ?_
  refine q_n ?_
  refine k_sreg (r_go [(4, .p (.bool true))] [] [] (by kernel_rfl) trivial) ?_
  refine k_ret ?_
  obtain rfl := Option.some.inj h
  exact e_ret (ls := [(.p (.bool true), 4)]) (by kernel_rfl) rfl (by kernel_rfl) rfl
theorem wk_laws_markPointS {a0 : (List Qp)} {a1 : Int}  {r : (Int × (List Qp))} (h : laws_markPointS a0 a1 = some r) : MeetsB Try.prog 58 (.ov false [.sl (some 71) (a0.map ePt)]) [.v (.int .i64 a1)] [.p (.int .i64 r.1)] (.ov false [.sl (some 71) (r.2.map ePt)]) := by
 refine MeetsB_ofL (by kernel_rfl) Try.func58 rfl (by kernel_rfl) rfl (l0 := [(0, .ov false [.sl (some 71) (a0.map ePt)]), (1, .p (.int .i64 a1))]) (by kernel_rfl) ?_
 unfold laws_markPointS at h
 refine k_sreg (r_go [(0, .ov false [.sl (some 71) (a0.map ePt)]), (1, .p (.int .i64 a1))] [] [] (by kernel_rfl) trivial) ?_
 refine k_join (J := fun (x : ((List Qp) × Int)) => [(0, .ov false [.sl (some 71) (x.1.map ePt)]), (1, .p (.int .i64 x.2))]) (K := fun x => laws_markPointS_k1 x = some r) (fun x1 h => ?_) ?_
 ·unfold laws_markPointS_k1 at h
  refine k_sreg (r_go [(0, .ov false [.sl (some 71) (x1.1.map ePt)]), (4, .p (.int .i64 x1.2))] [] [] (by kernel_rfl) trivial) ?_
  refine k_ret ?_
  obtain rfl := Option.some.inj h
  exact eb_ret (ls := [(.p (.int .i64 x1.2), 4)]) (by kernel_rfl) rfl rfl (by kernel_rfl) (by kernel_rfl)
 ·refine k_sreg (r_go [(0, .ov false [.sl (some 71) (a0.map ePt)]), (1, .p (.int .i64 a1)), (5, .p (.int .i64 0))] [] [] (by kernel_rfl) trivial) ?_
  refine k_block ?_
  obtain ⟨y3, hl_x2, hk_x2⟩ := bind_some' h
  clear h
  refine k_loop (J := fun (x : ((List Qp) × Int × Int)) => [(0, .ov false [.sl (some 71) (x.1.map ePt)]), (1, .p (.int .i64 x.2.1)), (5, .p (.int .i64 x.2.2))]) hl_x2 (wk_of (by kernel_rfl) (by kernel_rfl)) (fun x2 o_x2 h hy_x2 => ?_)
  unfold laws_markPointS_b1 at h
  refine k_seq ?_
  refine k_sreg (r_go [(0, .ov false [.sl (some 71) (x2.1.map ePt)]), (1, .p (.int .i64 x2.2.1)), (5, .p (.int .i64 x2.2.2)), (9, .p (.bool (decide (x2.2.2 < (x2.1.length : Int)))))] [(2, {n := some x2.1.length})] [(x2.1.map ePt).length = x2.1.length] (by kernel_rfl) ⟨(List.length_map ..), trivial⟩) ?_
  refine k_cond (b := (decide (x2.2.2 < (x2.1.length : Int)))) (by kernel_rfl) (fun hc5_3 => ?_) (fun hc5_3 => ?_)
  ·replace h := ite_t hc5_3 h
   refine k_skip ?_
   refine q_n ?_
   refine k_seq ?_
   refine k_block ?_
   replace h := bind_some' h
   obtain ⟨v5, hv5, h⟩ := h
   refine k_sreg (r_go [(0, .ov false [.sl (some 71) ((x2.1.set (Int.toNat x2.2.2) ((x2.2.1, v5.1.2), v5.2)).map ePt)]), (1, .p (.int .i64 x2.2.1)), (5, .p (.int .i64 x2.2.2))] [(3, {row := some (ePt v5)}), (6, {row := some (ePt v5), fix := some (0, .ov false [.sl (some 71) ((x2.1.set (Int.toNat x2.2.2) ((x2.2.1, v5.1.2), v5.2)).map ePt)])})] [0 ≤ x2.2.2, (x2.1.map ePt)[(Int.toNat x2.2.2)]? = some (ePt v5), getRow [[.sl (some 71) (x2.1.map ePt)]] [(0, 0), ((Int.toNat x2.2.2), 0)] = some (ePt v5), (SV.ov false [.sl (some 71) (setL (x2.1.map ePt) [((Int.toNat x2.2.2), 0)] (eI x2.2.1))] : SV) = .ov false [.sl (some 71) ((x2.1.set (Int.toNat x2.2.2) ((x2.2.1, v5.1.2), v5.2)).map ePt)]] (by kernel_rfl) ⟨(idxO_some hv5).1, (map_get ePt (idxO_some hv5).2), ((gr0 rfl).trans (gre (map_get ePt (idxO_some hv5).2))), (congrArg (fun z => SV.ov false [.sl (some 71) z]) (set1 (f := ePt) (y := ((x2.2.1, v5.1.2), v5.2)) (idxO_some hv5).2 rfl)), trivial⟩) ?_
   refine k_sreg (r_go [(0, .ov false [.sl (some 71) ((x2.1.set (Int.toNat x2.2.2) ((x2.2.1, v5.1.2), v5.2)).map ePt)]), (1, .p (.int .i64 (w64 (x2.2.1 + 1)))), (5, .p (.int .i64 x2.2.2))] [] [] (by kernel_rfl) trivial) ?_
   replace h := bind_some' h
   obtain ⟨v6, hv6, h⟩ := h
   refine k_sreg (r_go [(0, .ov false [.sl (some 71) (((x2.1.set (Int.toNat x2.2.2) ((x2.2.1, v5.1.2), v5.2)).set (Int.toNat x2.2.2) ((v6.1.1, (w64 (x2.2.1 + 1))), v6.2)).map ePt)]), (1, .p (.int .i64 (w64 (x2.2.1 + 1)))), (5, .p (.int .i64 x2.2.2))] [(3, {row := some (ePt v6)}), (6, {row := some [.raw (.int .i64 v6.1.2), .raw (.int .i64 v6.2.1), .raw (.int .i64 v6.2.2)], fix := some (0, .ov false [.sl (some 71) (((x2.1.set (Int.toNat x2.2.2) ((x2.2.1, v5.1.2), v5.2)).set (Int.toNat x2.2.2) ((v6.1.1, (w64 (x2.2.1 + 1))), v6.2)).map ePt)])})] [0 ≤ x2.2.2, ((x2.1.set (Int.toNat x2.2.2) ((x2.2.1, v5.1.2), v5.2)).map ePt)[(Int.toNat x2.2.2)]? = some (ePt v6), getRow [[.sl (some 71) ((x2.1.set (Int.toNat x2.2.2) ((x2.2.1, v5.1.2), v5.2)).map ePt)]] [(0, 0), ((Int.toNat x2.2.2), 1)] = some [.raw (.int .i64 v6.1.2), .raw (.int .i64 v6.2.1), .raw (.int .i64 v6.2.2)], (SV.ov false [.sl (some 71) (setL ((x2.1.set (Int.toNat x2.2.2) ((x2.2.1, v5.1.2), v5.2)).map ePt) [((Int.toNat x2.2.2), 1)] [.raw (.int .i64 (w64 (x2.2.1 + 1)))])] : SV) = .ov false [.sl (some 71) (((x2.1.set (Int.toNat x2.2.2) ((x2.2.1, v5.1.2), v5.2)).set (Int.toNat x2.2.2) ((v6.1.1, (w64 (x2.2.1 + 1))), v6.2)).map ePt)]] (by kernel_rfl) ⟨(idxO_some hv6).1, (map_get ePt (idxO_some hv6).2), ((gr0 rfl).trans (gre (map_get ePt (idxO_some hv6).2))), (congrArg (fun z => SV.ov false [.sl (some 71) z]) (set1 (f := ePt) (y := ((v6.1.1, (w64 (x2.2.1 + 1))), v6.2)) (idxO_some hv6).2 rfl)), trivial⟩) ?_
   refine k_sreg (r_go [(0, .ov false [.sl (some 71) (((x2.1.set (Int.toNat x2.2.2) ((x2.2.1, v5.1.2), v5.2)).set (Int.toNat x2.2.2) ((v6.1.1, (w64 (x2.2.1 + 1))), v6.2)).map ePt)]), (1, .p (.int .i64 (w64 ((w64 (x2.2.1 + 1)) + 1)))), (5, .p (.int .i64 x2.2.2))] [] [] (by kernel_rfl) trivial) ?_
   replace h := bind_some' h
   obtain ⟨v7, hv7, h⟩ := h
   refine k_sreg (r_go [(0, .ov false [.sl (some 71) ((((x2.1.set (Int.toNat x2.2.2) ((x2.2.1, v5.1.2), v5.2)).set (Int.toNat x2.2.2) ((v6.1.1, (w64 (x2.2.1 + 1))), v6.2)).set (Int.toNat x2.2.2) (v7.1, ((w64 ((w64 (x2.2.1 + 1)) + 1)), v7.2.2))).map ePt)]), (1, .p (.int .i64 (w64 ((w64 (x2.2.1 + 1)) + 1)))), (5, .p (.int .i64 x2.2.2))] [(3, {row := some (ePt v7)}), (6, {row := some (eRt v7.2), fix := some (0, .ov false [.sl (some 71) ((((x2.1.set (Int.toNat x2.2.2) ((x2.2.1, v5.1.2), v5.2)).set (Int.toNat x2.2.2) ((v6.1.1, (w64 (x2.2.1 + 1))), v6.2)).set (Int.toNat x2.2.2) (v7.1, ((w64 ((w64 (x2.2.1 + 1)) + 1)), v7.2.2))).map ePt)])})] [0 ≤ x2.2.2, (((x2.1.set (Int.toNat x2.2.2) ((x2.2.1, v5.1.2), v5.2)).set (Int.toNat x2.2.2) ((v6.1.1, (w64 (x2.2.1 + 1))), v6.2)).map ePt)[(Int.toNat x2.2.2)]? = some (ePt v7), getRow [[.sl (some 71) (((x2.1.set (Int.toNat x2.2.2) ((x2.2.1, v5.1.2), v5.2)).set (Int.toNat x2.2.2) ((v6.1.1, (w64 (x2.2.1 + 1))), v6.2)).map ePt)]] [(0, 0), ((Int.toNat x2.2.2), 2)] = some (eRt v7.2), (SV.ov false [.sl (some 71) (setL (((x2.1.set (Int.toNat x2.2.2) ((x2.2.1, v5.1.2), v5.2)).set (Int.toNat x2.2.2) ((v6.1.1, (w64 (x2.2.1 + 1))), v6.2)).map ePt) [((Int.toNat x2.2.2), 2)] [.raw (.int .i64 (w64 ((w64 (x2.2.1 + 1)) + 1)))])] : SV) = .ov false [.sl (some 71) ((((x2.1.set (Int.toNat x2.2.2) ((x2.2.1, v5.1.2), v5.2)).set (Int.toNat x2.2.2) ((v6.1.1, (w64 (x2.2.1 + 1))), v6.2)).set (Int.toNat x2.2.2) (v7.1, ((w64 ((w64 (x2.2.1 + 1)) + 1)), v7.2.2))).map ePt)]] (by kernel_rfl) ⟨(idxO_some hv7).1, (map_get ePt (idxO_some hv7).2), ((gr0 rfl).trans (gre (map_get ePt (idxO_some hv7).2))), (congrArg (fun z => SV.ov false [.sl (some 71) z]) (set1 (f := ePt) (y := (v7.1, ((w64 ((w64 (x2.2.1 + 1)) + 1)), v7.2.2))) (idxO_some hv7).2 rfl)), trivial⟩) ?_
   refine k_sreg (r_go [(0, .ov false [.sl (some 71) ((((x2.1.set (Int.toNat x2.2.2) ((x2.2.1, v5.1.2), v5.2)).set (Int.toNat x2.2.2) ((v6.1.1, (w64 (x2.2.1 + 1))), v6.2)).set (Int.toNat x2.2.2) (v7.1, ((w64 ((w64 (x2.2.1 + 1)) + 1)), v7.2.2))).map ePt)]), (1, .p (.int .i64 (w64 ((w64 ((w64 (x2.2.1 + 1)) + 1)) + 1)))), (5, .p (.int .i64 x2.2.2))] [] [] (by kernel_rfl) trivial) ?_
   replace h := bind_some' h
   obtain ⟨v8, hv8, h⟩ := h
   refine k_sreg (r_go [(0, .ov false [.sl (some 71) (((((x2.1.set (Int.toNat x2.2.2) ((x2.2.1, v5.1.2), v5.2)).set (Int.toNat x2.2.2) ((v6.1.1, (w64 (x2.2.1 + 1))), v6.2)).set (Int.toNat x2.2.2) (v7.1, ((w64 ((w64 (x2.2.1 + 1)) + 1)), v7.2.2))).set (Int.toNat x2.2.2) (v8.1, (v8.2.1, (w64 ((w64 ((w64 (x2.2.1 + 1)) + 1)) + 1))))).map ePt)]), (1, .p (.int .i64 (w64 ((w64 ((w64 (x2.2.1 + 1)) + 1)) + 1)))), (5, .p (.int .i64 x2.2.2))] [(3, {row := some (ePt v8)}), (6, {row := some (eI v8.2.2), fix := some (0, .ov false [.sl (some 71) (((((x2.1.set (Int.toNat x2.2.2) ((x2.2.1, v5.1.2), v5.2)).set (Int.toNat x2.2.2) ((v6.1.1, (w64 (x2.2.1 + 1))), v6.2)).set (Int.toNat x2.2.2) (v7.1, ((w64 ((w64 (x2.2.1 + 1)) + 1)), v7.2.2))).set (Int.toNat x2.2.2) (v8.1, (v8.2.1, (w64 ((w64 ((w64 (x2.2.1 + 1)) + 1)) + 1))))).map ePt)])})] [0 ≤ x2.2.2, ((((x2.1.set (Int.toNat x2.2.2) ((x2.2.1, v5.1.2), v5.2)).set (Int.toNat x2.2.2) ((v6.1.1, (w64 (x2.2.1 + 1))), v6.2)).set (Int.toNat x2.2.2) (v7.1, ((w64 ((w64 (x2.2.1 + 1)) + 1)), v7.2.2))).map ePt)[(Int.toNat x2.2.2)]? = some (ePt v8), getRow [[.sl (some 71) ((((x2.1.set (Int.toNat x2.2.2) ((x2.2.1, v5.1.2), v5.2)).set (Int.toNat x2.2.2) ((v6.1.1, (w64 (x2.2.1 + 1))), v6.2)).set (Int.toNat x2.2.2) (v7.1, ((w64 ((w64 (x2.2.1 + 1)) + 1)), v7.2.2))).map ePt)]] [(0, 0), ((Int.toNat x2.2.2), 3)] = some (eI v8.2.2), (SV.ov false [.sl (some 71) (setL ((((x2.1.set (Int.toNat x2.2.2) ((x2.2.1, v5.1.2), v5.2)).set (Int.toNat x2.2.2) ((v6.1.1, (w64 (x2.2.1 + 1))), v6.2)).set (Int.toNat x2.2.2) (v7.1, ((w64 ((w64 (x2.2.1 + 1)) + 1)), v7.2.2))).map ePt) [((Int.toNat x2.2.2), 3)] [.raw (.int .i64 (w64 ((w64 ((w64 (x2.2.1 + 1)) + 1)) + 1)))])] : SV) = .ov false [.sl (some 71) (((((x2.1.set (Int.toNat x2.2.2) ((x2.2.1, v5.1.2), v5.2)).set (Int.toNat x2.2.2) ((v6.1.1, (w64 (x2.2.1 + 1))), v6.2)).set (Int.toNat x2.2.2) (v7.1, ((w64 ((w64 (x2.2.1 + 1)) + 1)), v7.2.2))).set (Int.toNat x2.2.2) (v8.1, (v8.2.1, (w64 ((w64 ((w64 (x2.2.1 + 1)) + 1)) + 1))))).map ePt)]] (by kernel_rfl) ⟨(idxO_some hv8).1, (map_get ePt (idxO_some hv8).2), ((gr0 rfl).trans (gre (map_get ePt (idxO_some hv8).2))), (congrArg (fun z => SV.ov false [.sl (some 71) z]) (set1 (f := ePt) (y := (v8.1, (v8.2.1, (w64 ((w64 ((w64 (x2.2.1 + 1)) + 1)) + 1))))) (idxO_some hv8).2 rfl)), trivial⟩) ?_
   refine k_reg (r_go [(0, .ov false [.sl (some 71) (((((x2.1.set (Int.toNat x2.2.2) ((x2.2.1, v5.1.2), v5.2)).set (Int.toNat x2.2.2) ((v6.1.1, (w64 (x2.2.1 + 1))), v6.2)).set (Int.toNat x2.2.2) (v7.1, ((w64 ((w64 (x2.2.1 + 1)) + 1)), v7.2.2))).set (Int.toNat x2.2.2) (v8.1, (v8.2.1, (w64 ((w64 ((w64 (x2.2.1 + 1)) + 1)) + 1))))).map ePt)]), (1, .p (.int .i64 (w64 ((w64 ((w64 ((w64 (x2.2.1 + 1)) + 1)) + 1)) + 1)))), (5, .p (.int .i64 x2.2.2))] [] [] (by kernel_rfl) trivial) ?_
   refine b_n ?_
   refine q_n ?_
   refine k_reg (r_go [(0, .ov false [.sl (some 71) (((((x2.1.set (Int.toNat x2.2.2) ((x2.2.1, v5.1.2), v5.2)).set (Int.toNat x2.2.2) ((v6.1.1, (w64 (x2.2.1 + 1))), v6.2)).set (Int.toNat x2.2.2) (v7.1, ((w64 ((w64 (x2.2.1 + 1)) + 1)), v7.2.2))).set (Int.toNat x2.2.2) (v8.1, (v8.2.1, (w64 ((w64 ((w64 (x2.2.1 + 1)) + 1)) + 1))))).map ePt)]), (1, .p (.int .i64 (w64 ((w64 ((w64 ((w64 (x2.2.1 + 1)) + 1)) + 1)) + 1)))), (5, .p (.int .i64 (w64 (x2.2.2 + 1))))] [] [] (by kernel_rfl) trivial) ?_
   exact lq_n (((((x2.1.set (Int.toNat x2.2.2) ((x2.2.1, v5.1.2), v5.2)).set (Int.toNat x2.2.2) ((v6.1.1, (w64 (x2.2.1 + 1))), v6.2)).set (Int.toNat x2.2.2) (v7.1, ((w64 ((w64 (x2.2.1 + 1)) + 1)), v7.2.2))).set (Int.toNat x2.2.2) (v8.1, (v8.2.1, (w64 ((w64 ((w64 (x2.2.1 + 1)) + 1)) + 1))))), (w64 ((w64 ((w64 ((w64 (x2.2.1 + 1)) + 1)) + 1)) + 1)), (w64 (x2.2.2 + 1))) (Option.some.inj h).symm (wk_of (by kernel_rfl) (by kernel_rfl))
  ·replace h := ite_f hc5_3 h
   refine k_exit ?_
   refine q_x ?_
   refine lq_x ?_
   refine b_x ?_
   have hyy := hy_x2 _ (Option.some.inj h).symm
   subst hyy
   have h := hk_x2
   refine q_n ?_
   exact ⟨(x2.1, x2.2.1), h, (wk_of (by kernel_rfl) (by kernel_rfl))⟩
theorem wk_laws_markLift {a0 : (List Qp)} {a1 : Int} {r : (Int × (List Qp))} (h : laws_markLift a0 a1 = some r) : MeetsB Try.prog 22 (.ov true [.sl (some 71) (a0.map ePt)]) [.v (.int .i64 a1)] [.p (.int .i64 r.1)] (.ov true [.sl (some 71) (r.2.map ePt)]) := by
 unfold laws_markLift at h
 refine wrap_lent (T := 29) (S := 27) (by kernel_rfl) Try.func22 rfl ⟨rfl, rfl, rfl⟩ ⟨rfl, rfl, rfl⟩ ⟨rfl, rfl, rfl⟩ ⟨rfl, rfl, rfl⟩ ⟨rfl, rfl, rfl⟩ ⟨rfl, rfl, rfl⟩ ⟨rfl, rfl, rfl⟩ (by kernel_rfl) (by kernel_rfl) (by kernel_rfl) (wk_laws_markPointS h) ?_
 refine k_sreg (r_go [(4, .p (.int .i64 r.1))] [] [] (by kernel_rfl) trivial) ?_
 refine k_ret ?_
 exact e_ret (ls := [(.p (.int .i64 r.1), 4)]) (by kernel_rfl) rfl (by kernel_rfl) rfl
theorem wk_laws_heldPointS {a0 : (List Qp)} {a1 : Int}  {r : Int} (h : laws_heldPointS a0 a1 = some r) : Meets Try.prog 59 [.d false [.sl none (a0.map ePt)], .v (.int .i64 a1)] { vals := [.p (.int .i64 r)] } := by
 refine Meets_ofL (by kernel_rfl) Try.func59 rfl (by kernel_rfl) (l0 := [(0, .d false [.sl none (a0.map ePt)]), (1, .p (.int .i64 a1))]) (by kernel_rfl) ?_
 unfold laws_heldPointS at h
 refine k_sreg (r_go [(0, .d false [.sl none (a0.map ePt)]), (1, .p (.int .i64 a1))] [] [] (by kernel_rfl) trivial) ?_
 refine k_join (J := fun (x : Int) => [(1, .p (.int .i64 x))]) (K := fun x => laws_heldPointS_k1 x = some r) (fun x1 h => ?_) ?_
 ·unfold laws_heldPointS_k1 at h
  refine k_sreg (r_go [(4, .p (.int .i64 x1))] [] [] (by kernel_rfl) trivial) ?_
  refine k_ret ?_
  obtain rfl := Option.some.inj h
  exact e_ret (ls := [(.p (.int .i64 x1), 4)]) (by kernel_rfl) rfl (by kernel_rfl) rfl
 ·refine k_sreg (r_go [(0, .d false [.sl none (a0.map ePt)]), (1, .p (.int .i64 a1)), (5, .p (.int .i64 0))] [] [] (by kernel_rfl) trivial) ?_
  refine k_block ?_
  obtain ⟨y3, hl_x2, hk_x2⟩ := bind_some' h
  clear h
  refine k_loop (J := fun (x : Qr) => [(0, .d false [.sl none (a0.map ePt)]), (1, .p (.int .i64 x.1)), (5, .p (.int .i64 x.2))]) hl_x2 (wk_of (by kernel_rfl) (by kernel_rfl)) (fun x2 o_x2 h hy_x2 => ?_)
  unfold laws_heldPointS_b1 at h
  refine k_seq ?_
  refine k_sreg (r_go [(0, .d false [.sl none (a0.map ePt)]), (1, .p (.int .i64 x2.1)), (5, .p (.int .i64 x2.2)), (9, .p (.bool (decide (x2.2 < (a0.length : Int)))))] [(2, {n := some a0.length})] [(a0.map ePt).length = a0.length] (by kernel_rfl) ⟨(List.length_map ..), trivial⟩) ?_
  refine k_cond (b := (decide (x2.2 < (a0.length : Int)))) (by kernel_rfl) (fun hc5_3 => ?_) (fun hc5_3 => ?_)
  ·replace h := ite_t hc5_3 h
   refine k_skip ?_
   refine q_n ?_
   refine k_seq ?_
   refine k_block ?_
   refine k_seq ?_
   replace h := bind_some' h
   obtain ⟨v5, hv5, h⟩ := h
   refine k_sreg (r_go [(0, .d false [.sl none (a0.map ePt)]), (1, .p (.int .i64 x2.1)), (5, .p (.int .i64 x2.2)), (19, .p (.bool (v5.1.1 != x2.1)))] [(2, {row := some (ePt v5)})] [0 ≤ x2.2, (a0.map ePt)[(Int.toNat x2.2)]? = some (ePt v5)] (by kernel_rfl) ⟨(idxO_some hv5).1, (map_get ePt (idxO_some hv5).2), trivial⟩) ?_
   refine k_cond (b := (v5.1.1 != x2.1)) (by kernel_rfl) (fun hc7_5 => ?_) (fun hc7_5 => ?_)
   ·replace h := ite_t hc7_5 h
    refine k_sreg (r_go [(4, .p (.int .i64 (-1)))] [] [] (by kernel_rfl) trivial) ?_
    refine k_ret ?_
    refine q_r ?_
    refine b_r ?_
    refine q_r ?_
    refine lq_r ?_
    refine b_r ?_
    refine q_r ?_
    have hyy := hy_x2 _ (Option.some.inj h).symm
    subst hyy
    have h := hk_x2
    dsimp only [Sum.elim] at h
    obtain rfl := Option.some.inj h
    exact e_ret (ls := [(.p (.int .i64 (-1)), 4)]) (by kernel_rfl) rfl (by kernel_rfl) rfl
   ·replace h := ite_f hc7_5 h
    refine k_skip ?_
    refine q_n ?_
    refine k_sreg (r_go [(0, .d false [.sl none (a0.map ePt)]), (1, .p (.int .i64 (w64 (x2.1 + 1)))), (5, .p (.int .i64 x2.2))] [] [] (by kernel_rfl) trivial) ?_
    refine k_seq ?_
    refine k_sreg (r_go [(0, .d false [.sl none (a0.map ePt)]), (1, .p (.int .i64 (w64 (x2.1 + 1)))), (5, .p (.int .i64 x2.2)), (29, .p (.bool (v5.1.2 != (w64 (x2.1 + 1)))))] [(2, {row := some (ePt v5)})] [0 ≤ x2.2, (a0.map ePt)[(Int.toNat x2.2)]? = some (ePt v5)] (by kernel_rfl) ⟨(idxO_some hv5).1, (map_get ePt (idxO_some hv5).2), trivial⟩) ?_
    refine k_cond (b := (v5.1.2 != (w64 (x2.1 + 1)))) (by kernel_rfl) (fun hc7_6 => ?_) (fun hc7_6 => ?_)
    ·replace h := ite_t hc7_6 h
     refine k_sreg (r_go [(4, .p (.int .i64 (-1)))] [] [] (by kernel_rfl) trivial) ?_
     refine k_ret ?_
     refine q_r ?_
     refine b_r ?_
     refine q_r ?_
     refine lq_r ?_
     refine b_r ?_
     refine q_r ?_
     have hyy := hy_x2 _ (Option.some.inj h).symm
     subst hyy
     have h := hk_x2
     dsimp only [Sum.elim] at h
     obtain rfl := Option.some.inj h
     exact e_ret (ls := [(.p (.int .i64 (-1)), 4)]) (by kernel_rfl) rfl (by kernel_rfl) rfl
    ·replace h := ite_f hc7_6 h
     refine k_skip ?_
     refine q_n ?_
     refine k_sreg (r_go [(0, .d false [.sl none (a0.map ePt)]), (1, .p (.int .i64 (w64 ((w64 (x2.1 + 1)) + 1)))), (5, .p (.int .i64 x2.2))] [] [] (by kernel_rfl) trivial) ?_
     refine k_seq ?_
     refine k_sreg (r_go [(0, .d false [.sl none (a0.map ePt)]), (1, .p (.int .i64 (w64 ((w64 (x2.1 + 1)) + 1)))), (5, .p (.int .i64 x2.2)), (39, .p (.bool (v5.2.1 != (w64 ((w64 (x2.1 + 1)) + 1)))))] [(2, {row := some (ePt v5)})] [0 ≤ x2.2, (a0.map ePt)[(Int.toNat x2.2)]? = some (ePt v5)] (by kernel_rfl) ⟨(idxO_some hv5).1, (map_get ePt (idxO_some hv5).2), trivial⟩) ?_
     refine k_cond (b := (v5.2.1 != (w64 ((w64 (x2.1 + 1)) + 1)))) (by kernel_rfl) (fun hc7_7 => ?_) (fun hc7_7 => ?_)
     ·replace h := ite_t hc7_7 h
      refine k_sreg (r_go [(4, .p (.int .i64 (-1)))] [] [] (by kernel_rfl) trivial) ?_
      refine k_ret ?_
      refine q_r ?_
      refine b_r ?_
      refine q_r ?_
      refine lq_r ?_
      refine b_r ?_
      refine q_r ?_
      have hyy := hy_x2 _ (Option.some.inj h).symm
      subst hyy
      have h := hk_x2
      dsimp only [Sum.elim] at h
      obtain rfl := Option.some.inj h
      exact e_ret (ls := [(.p (.int .i64 (-1)), 4)]) (by kernel_rfl) rfl (by kernel_rfl) rfl
     ·replace h := ite_f hc7_7 h
      refine k_skip ?_
      refine q_n ?_
      refine k_sreg (r_go [(0, .d false [.sl none (a0.map ePt)]), (1, .p (.int .i64 (w64 ((w64 ((w64 (x2.1 + 1)) + 1)) + 1)))), (5, .p (.int .i64 x2.2))] [] [] (by kernel_rfl) trivial) ?_
      refine k_seq ?_
      refine k_sreg (r_go [(0, .d false [.sl none (a0.map ePt)]), (1, .p (.int .i64 (w64 ((w64 ((w64 (x2.1 + 1)) + 1)) + 1)))), (5, .p (.int .i64 x2.2)), (49, .p (.bool (v5.2.2 != (w64 ((w64 ((w64 (x2.1 + 1)) + 1)) + 1)))))] [(2, {row := some (ePt v5)})] [0 ≤ x2.2, (a0.map ePt)[(Int.toNat x2.2)]? = some (ePt v5)] (by kernel_rfl) ⟨(idxO_some hv5).1, (map_get ePt (idxO_some hv5).2), trivial⟩) ?_
      refine k_cond (b := (v5.2.2 != (w64 ((w64 ((w64 (x2.1 + 1)) + 1)) + 1)))) (by kernel_rfl) (fun hc7_8 => ?_) (fun hc7_8 => ?_)
      ·replace h := ite_t hc7_8 h
       refine k_sreg (r_go [(4, .p (.int .i64 (-1)))] [] [] (by kernel_rfl) trivial) ?_
       refine k_ret ?_
       refine q_r ?_
       refine b_r ?_
       refine q_r ?_
       refine lq_r ?_
       refine b_r ?_
       refine q_r ?_
       have hyy := hy_x2 _ (Option.some.inj h).symm
       subst hyy
       have h := hk_x2
       dsimp only [Sum.elim] at h
       obtain rfl := Option.some.inj h
       exact e_ret (ls := [(.p (.int .i64 (-1)), 4)]) (by kernel_rfl) rfl (by kernel_rfl) rfl
      ·replace h := ite_f hc7_8 h
       refine k_skip ?_
       refine q_n ?_
       refine k_reg (r_go [(0, .d false [.sl none (a0.map ePt)]), (1, .p (.int .i64 (w64 ((w64 ((w64 ((w64 (x2.1 + 1)) + 1)) + 1)) + 1)))), (5, .p (.int .i64 x2.2))] [] [] (by kernel_rfl) trivial) ?_
       refine b_n ?_
       refine q_n ?_
       refine k_reg (r_go [(0, .d false [.sl none (a0.map ePt)]), (1, .p (.int .i64 (w64 ((w64 ((w64 ((w64 (x2.1 + 1)) + 1)) + 1)) + 1)))), (5, .p (.int .i64 (w64 (x2.2 + 1))))] [] [] (by kernel_rfl) trivial) ?_
       exact lq_n ((w64 ((w64 ((w64 ((w64 (x2.1 + 1)) + 1)) + 1)) + 1)), (w64 (x2.2 + 1))) (Option.some.inj h).symm (wk_of (by kernel_rfl) (by kernel_rfl))
  ·replace h := ite_f hc5_3 h
   refine k_exit ?_
   refine q_x ?_
   refine lq_x ?_
   refine b_x ?_
   have hyy := hy_x2 _ (Option.some.inj h).symm
   subst hyy
   have h := hk_x2
   dsimp only [Sum.elim] at h
   refine q_n ?_
   exact ⟨x2.1, h, (wk_of (by kernel_rfl) (by kernel_rfl))⟩
theorem wk_laws_heldLift {a0 : (List Qp)} {a1 : Int}  {r : Int} (h : laws_heldLift a0 a1 = some r) : Meets Try.prog 23 [.d true [.sl none (a0.map ePt)], .v (.int .i64 a1)] { vals := [.p (.int .i64 r)] } := by
 refine Meets_ofL (by kernel_rfl) Try.func23 rfl (by kernel_rfl) (l0 := [(0, .d true [.sl none (a0.map ePt)]), (1, .p (.int .i64 a1))]) (by kernel_rfl) ?_
 unfold laws_heldLift at h
 refine k_sreg (r_go [(1, .p (.int .i64 a1)), (2, .box [.sl none (a0.map ePt)])] [] [] (by kernel_rfl) trivial) ?_
 replace h := bind_some' h
 obtain ⟨v1, hv1, h⟩ := h
 refine k_sreg (r_go [(1, .p (.int .i64 v1))] [(1, {b := some true}), (3, {call := some ([.d false [.sl none (a0.map ePt)], .v (.int .i64 a1)], [.p (.int .i64 v1)], true)})] [frR [.sl none (a0.map ePt)] = true, ([.d false [.sl none (a0.map ePt)], .v (.int .i64 a1)] : List Arg) = [.d false [.sl none (a0.map ePt)], .v (.int .i64 a1)], Meets Try.prog 59 ([.d false [.sl none (a0.map ePt)], .v (.int .i64 a1)] ++ []) { vals := [.p (.int .i64 v1)] }, (!true || List.all [.p (.int .i64 v1)] simpleR) = true] (by kernel_rfl) ⟨(frR1 (frL_enc (fr_P (fr_P fr_I fr_I) (fr_P fr_I fr_I))) rfl), rfl, (wk_laws_heldPointS hv1), (bt rfl), trivial⟩) ?_
 refine k_seq ?_
 refine k_sreg (r_go [(1, .p (.int .i64 v1)), (10, .p (.bool (decide (v1 < 0))))] [] [] (by kernel_rfl) trivial) ?_
 refine k_cond (b := (decide (v1 < 0))) (by kernel_rfl) (fun hc2_1 => ?_) (fun hc2_1 => ?_)
 ·replace h := ite_t hc2_1 h
  refine k_sreg (r_go [(4, .p (.int .i64 (-1)))] [] [] (by kernel_rfl) trivial) ?_
  refine k_ret ?_
  refine q_r ?_
  obtain rfl := Option.some.inj h
  exact e_ret (ls := [(.p (.int .i64 (-1)), 4)]) (by kernel_rfl) rfl (by kernel_rfl) rfl
 ·replace h := ite_f hc2_1 h
  refine k_skip ?_
  refine q_n ?_
  refine k_sreg (r_go [(4, .p (.int .i64 v1))] [] [] (by kernel_rfl) trivial) ?_
  refine k_ret ?_
  obtain rfl := Option.some.inj h
  exact e_ret (ls := [(.p (.int .i64 v1), 4)]) (by kernel_rfl) rfl (by kernel_rfl) rfl
end Go.PV

/-
  Walks through the functions that the law reaches: each answers as its plain definition does.
  Conditions: none.
-/
import Derived.KernelRfl
import Derived.Shelf.LaysM
import Derived.Shelf.Strconv.Itoa3
import Derived.Shelf.Strings.Builder1
import Derived.Shelf.Strings.Cut
import Derived.Shelf.LaysC
import Derived.Test.YtigabkbbbpokbaaGreatDoorWLiftsPartB
import Derived.Test.YtigabkbbbpokbaaGreatDoorProg
import Derived.Test.YtigabkbbbpokbaaGreatDoorPvCx
import Derived.Test.YtigabkbbbpokbaaGreatDoorBackYtigabkbbbpokbaaGreatDoor
open Go Go.PV Go.Proofs
set_option linter.all false
namespace Go.PV
attribute [local irreducible] pvC pvL pvD sOp seqQ blockQ Meets MeetsB Ok OkL RegOk agree endQ seqL blockL loopQ endL endLB
theorem yot {a0 : (List Qp)}  {r : ((List Qp) × Bool)} (h : yei a0 = some r) : Meets Tryz.prog 26 [.d true (sP a0)] { vals := [.ov false (oP 86 r.1), .p (.bool r.2)] } := by
 refine mo Tryz.func26 [(0, .d true (sP a0))] ?_
 unfold yei at h
 refine kG [(1, .box (sP a0))] [] trivial ?_
 refine yqb ?_
 obtain ⟨v1, hv1, h⟩ := bs h
 refine kG [(1, .box (sP a0)), (11, .p (.bool (!v1)))] [(0, bT), (1, (cN [.p (.bool v1)]))] (A2 (frE a0) (yrc hv1)) ?_
 refine kc (!v1) (fun hc2_1 => ?_) (fun hc2_1 => ?_)
 ·replace h := yma hc2_1 h
  refine kG [(2, .ov false (oN 86)), (3, .p (.bool false))] [] trivial ?_
  refine yva (q_r ?_)
  obtain rfl := oi h
  exact er [(.ov false (oN 86), 2), (.p (.bool false), 3)]
 replace h := yna hc2_1 h
 refine yja (q_n (kG [(1, .box (sP a0)), (4, .ov false (oN 86))] [] trivial ?_))
 refine yhd (J := fun (x : (List Qp)) => [(4, .ov false (oP 86 x))]) (K := fun x => ylh x = some r) (fun x3 h => ?_) ?_
 ·unfold ylh at h
  refine kG [(2, .ov false (oP 86 x3)), (3, .p (.bool true))] [] trivial ?_
  refine yva ?_
  obtain rfl := oi h
  exact er [(.ov false (oP 86 x3), 2), (.p (.bool true), 3)]
 refine kG [(1, .box (sP a0)), (4, .ov false (oN 86)), (5, .p (iV 1))] [] trivial ?_
 refine ywa ?_
 obtain ⟨y5, hl_x4, hk_x4⟩ := bs h
 clear h
 refine yuh (J := fun (x : ((List Qp) × Int)) => [(1, .box (sP a0)), (4, .ov false (oP 86 x.1)), (5, .p (iV x.2))]) hl_x4 wkk (fun x4 o_x4 h hy_x4 => ?_)
 unfold ytd at h
 refine yqb (kG [(1, .box (sP a0)), (4, .ov false (oP 86 x4.1)), (5, .p (iV x4.2)), (16, .p (.bool (decide (x4.2 < (a0.length : Int)))))] [(2, bT), (3, {n := some a0.length})] (A2 (frE a0) (lnP a0)) ?_)
 refine kc (decide (x4.2 < (a0.length : Int))) (fun hc5_5 => ?_) (fun hc5_5 => ?_)
 ·replace h := yma hc5_5 h
  refine yja (q_n (yqb (ywa ?_)))
  obtain ⟨v7, hv7, h⟩ := bs h
  obtain ⟨v8, hv8, h⟩ := bs h
  refine yya (r_dq yca 14 [(13, 6)] [(1, .box (sP a0)), (4, .ov false (oP 86 x4.1)), (5, .p (iV x4.2)), (6, .box (ePt v7)), (7, .box (ePt v8))] [(1, bT), (4, {row := some (ePt v7)}), (7, bT), (9, {row := some (ePt v8)})] (A6 (frE a0) (yba hv7).1 (yia ePt (yba hv7).2) (frE a0) (yba hv8).1 (yia ePt (yba hv8).2))) ?_
  refine yqb (kG [(1, .box (sP a0)), (4, .ov false (oP 86 x4.1)), (5, .p (iV x4.2)), (6, .box (ePt v7)), (7, .box (ePt v8)), (34, .p (.bool (nR v7.2 v8.2)))] [(4, {pv := some (.bool (nR v7.2 v8.2))})] (A1 (show PureAt Tryz.prog (.binOp .neq 27 (.tmp 31) (.tmp 33) 27) [vRt v7.2, vRt v8.2] (.bool (nR v7.2 v8.2)) from (ygi (by kernel_rfl)))) ?_)
  refine kc (nR v7.2 v8.2) (fun hc7_8 => ?_) (fun hc7_8 => ?_)
  ·replace h := yma hc7_8 h
   refine ykg (q_x (b_x (q_n (yff (r_gq [(1, .box (sP a0)), (4, .ov false (oP 86 x4.1)), (5, .p (iV (w64 (x4.2 + 1))))] [] trivial) ?_))))
   exact lqn (x4.1, (w64 (x4.2 + 1))) h
  replace h := yna hc7_8 h
  refine yja (q_n (yqb (kG [(1, .box (sP a0)), (4, .ov false (oP 86 x4.1)), (5, .p (iV x4.2)), (6, .box (ePt v7)), (7, .box (ePt v8)), (8, .p (iV (x4.1.length : Int)))] [(1, {n := some x4.1.length})] (A1 (lnP x4.1)) ?_)))
  obtain ⟨w11, hw11, h⟩ := bs h
  refine yya (l1 := [(1, .box (sP a0)), (4, .ov false (oP 86 x4.1)), (5, .p (iV x4.2)), (6, .box (ePt v7)), (7, .box (ePt v8)), (8, .p (iV (x4.1.length : Int))), (49, .p (.bool w11))]) ?_ ?_
  ·clear h
   rcases ft (decide ((x4.1.length : Int) > 0)) with ha3 | ha3
   ·obtain ⟨v10, hv10, hw11⟩ := bs (yma ha3 hw11)
    have hw11 := oi hw11
    subst hw11
    exact (r_dq yca 11 [] [(1, .box (sP a0)), (4, .ov false (oP 86 x4.1)), (5, .p (iV x4.2)), (6, .box (ePt v7)), (7, .box (ePt v8)), (8, .p (iV (x4.1.length : Int))), (49, .p (.bool ((v10.2.1 == v7.1.1) && (v10.2.2 == v7.1.2))))] [(3, gT), (4, gT), (5, gT), (6, {g := some true, row := some (ePt v10)}), (7, gT), (8, {g := some true, row := some (eRt v10.2)}), (9, gT), (10, gT), (11, {g := some true, pv := some (.bool ((v10.2.1 == v7.1.1) && (v10.2.2 == v7.1.2)))}), (12, bT)] (B6 ha3 ha3 ha3 ha3 (yba hv10).1 (yia ePt (yba hv10).2) (B6 ha3 ha3 (show getRow [(oP 86 x4.1)] [(0, 0), ((Int.toNat (w64 ((x4.1.length : Int) - 1))), 2)] = some (eRt v10.2) from ((gr0 rfl).trans (gre (yia ePt (yba hv10).2)))) ha3 ha3 ha3 (A2 (show PureAt Tryz.prog (.binOp .eql 27 (.tmp 45) (.tmp 47) 27) [vRt v10.2, vRt v7.1] (.bool ((v10.2.1 == v7.1.1) && (v10.2.2 == v7.1.2))) from (ygg (by kernel_rfl))) ha3))))
   replace hw11 := yna ha3 hw11
   have hw11 := oi hw11
   subst hw11
   exact (r_dq yca 11 [] [(1, .box (sP a0)), (4, .ov false (oP 86 x4.1)), (5, .p (iV x4.2)), (6, .box (ePt v7)), (7, .box (ePt v8)), (8, .p (iV (x4.1.length : Int))), (49, .p (.bool false))] [(3, gF), (4, gF), (5, gF), (6, gF), (7, gF), (8, gF), (9, gF), (10, gF), (11, gF), (12, bF)] (B6 ha3 ha3 ha3 ha3 ha3 ha3 (A4 ha3 ha3 ha3 ha3)))
  refine kc w11 (fun hc7_11 => ?_) (fun hc7_11 => ?_)
  ·obtain ⟨v13, hv13, h⟩ := bs (yma hc7_11 h)
   refine kG [(1, .box (sP a0)), (4, .ov false [.sl (some 86) ((x4.1.set (Int.toNat (w64 ((x4.1.length : Int) - 1))) (v13.1, v8.1)).map ePt)]), (5, .p (iV x4.2))] [(5, {row := some (ePt v13)}), (7, {row := some (eRt v13.2), fix := some (4, .ov false [.sl (some 86) ((x4.1.set (Int.toNat (w64 ((x4.1.length : Int) - 1))) (v13.1, v8.1)).map ePt)])})] (A4 (yba hv13).1 (yia ePt (yba hv13).2) (show getRow [(oP 86 x4.1)] [(0, 0), ((Int.toNat (w64 ((x4.1.length : Int) - 1))), 2)] = some (eRt v13.2) from ((gr0 rfl).trans (gre (yia ePt (yba hv13).2)))) (show (SV.ov false [.sl (some 86) (setL (x4.1.map ePt) [((Int.toNat (w64 ((x4.1.length : Int) - 1))), 2)] (eRt v8.1))] : SV) = .ov false [.sl (some 86) ((x4.1.set (Int.toNat (w64 ((x4.1.length : Int) - 1))) (v13.1, v8.1)).map ePt)] from (congrArg (fun z => SV.ov false [.sl (some 86) z]) (set1 (f := ePt) (y := (v13.1, v8.1)) (yba hv13).2 rfl)))) ?_
   refine ykg (q_x (b_x (q_n (yff (r_gq [(1, .box (sP a0)), (4, .ov false [.sl (some 86) ((x4.1.set (Int.toNat (w64 ((x4.1.length : Int) - 1))) (v13.1, v8.1)).map ePt)]), (5, .p (iV (w64 (x4.2 + 1))))] [] trivial) ?_))))
   exact lqn ((x4.1.set (Int.toNat (w64 ((x4.1.length : Int) - 1))) (v13.1, v8.1)), (w64 (x4.2 + 1))) h
  replace h := yna hc7_11 h
  refine yja (q_n ?_)
  obtain ⟨u14, hu14, h⟩ := bs h
  refine yff (r_gq [(1, .box (sP a0)), (4, .ov false (oP 86 (x4.1 ++ [(v7.1, v8.1)]))), (5, .p (iV x4.2))] [(7, {fix := some (64, .ov false (oP 86 (x4.1 ++ [(v7.1, v8.1)])))})] (A3 (show List.length ((x4.1.map ePt) : List (List C)) + List.length ((([(v7.1, v8.1)]).map ePt) : List (List C)) ≤ 1099511627776 from (by have hg := (yea hu14); simpa using hg)) (show ∀ row ∈ ((([(v7.1, v8.1)]).map ePt) : List (List C)), row.length = 4 from (ydg fun _ => rfl)) (show (SV.ov false [.sl (some 86) ((x4.1.map ePt) ++ (([(v7.1, v8.1)]).map ePt))] : SV) = .ov false (oP 86 (x4.1 ++ [(v7.1, v8.1)])) from (congrArg (fun z => SV.ov false [.sl (some 86) z]) (List.map_append ..).symm)))) ?_
  refine b_n (q_n (yff (r_gq [(1, .box (sP a0)), (4, .ov false (oP 86 (x4.1 ++ [(v7.1, v8.1)]))), (5, .p (iV (w64 (x4.2 + 1))))] [] trivial) ?_))
  exact lqn ((x4.1 ++ [(v7.1, v8.1)]), (w64 (x4.2 + 1))) h
 replace h := yna hc5_5 h
 refine ykg (q_x (lq_x (b_x ?_)))
 have hyy := hy_x4 _ (oi h).symm
 subst hyy
 have h := hk_x4
 refine q_n ?_
 exact jx x4.1 h
theorem yfr {a0 : (List Qp)}  {r : (Bool × Bool)} (h : yvf a0 = some r) : Meets Tryz.prog 27 [.d true (sP a0)] { vals := [.p (.bool r.1), .p (.bool r.2)] } := by
 refine mo Tryz.func27 [(0, .d true (sP a0))] ?_
 unfold yvf at h
 refine kG [(1, .box (sP a0))] [] trivial ?_
 obtain ⟨v1, hv1, h⟩ := bs h
 refine kG [(4, .ov false (oP 86 v1.1)), (5, .p (.bool v1.2))] [(0, bT), (1, (cN [.ov false (oP 86 v1.1), .p (.bool v1.2)]))] (A3 (frE a0) (yfn hv1) (show List.all [.ov false (oP 86 v1.1), .p (.bool v1.2)] simpleR = true from (sa_o (wnR1 (yzm (wn_P (wn_P wn_I wn_I) (wn_P wn_I wn_I))) rfl) (sa_p rfl)))) ?_
 refine yya (l1 := [(2, .p (.bool (v1.2 && ((v1.1.length : Int) == 0)))), (3, .p (.bool v1.2))]) ?_ ?_
 ·rcases ft v1.2 with ha0 | ha0
  ·exact RegOk.of_eq (l2 := [(2, .p (.bool (v1.2 && ((v1.1.length : Int) == 0)))), (3, .p (.bool v1.2))]) (r_gq [(2, .p (.bool ((v1.1.length : Int) == 0))), (3, .p (.bool v1.2))] [(2, gT), (3, {g := some true, n := some v1.1.length}), (4, gT), (5, bT)] (A5 ha0 ha0 (lnP v1.1) ha0 ha0)) (by simp [ha0])
  exact RegOk.of_eq (l2 := [(2, .p (.bool (v1.2 && ((v1.1.length : Int) == 0)))), (3, .p (.bool v1.2))]) (r_gq [(2, .p (.bool false)), (3, .p (.bool v1.2))] [(2, gF), (3, gF), (4, gF), (5, bF)] (A4 ha0 ha0 ha0 ha0)) (by simp [ha0])
 refine yva ?_
 obtain rfl := oi h
 exact er [(.p (.bool (v1.2 && ((v1.1.length : Int) == 0))), 2), (.p (.bool v1.2), 3)]
theorem yqj {a0 : (List Qp)} {a1 : (List Qp)}  {r : Bool} (h : yfi a0 a1 = some r) : Meets Tryz.prog 28 [.d false (sP a0), .d false (sP a1)] { vals := [.p (.bool r)] } := by
 refine mo Tryz.func28 [(0, .d false (sP a0)), (1, .d false (sP a1))] ?_
 unfold yfi at h
 refine kG [(0, .d false (sP a0)), (1, .d false (sP a1))] [] trivial ?_
 refine yqb (kG [(0, .d false (sP a0)), (1, .d false (sP a1)), (10, .p (.bool ((a0.length : Int) != (a1.length : Int))))] [(1, {n := some a0.length}), (3, {n := some a1.length})] (A2 (lnP a0) (lnP a1)) ?_)
 refine kc ((a0.length : Int) != (a1.length : Int)) (fun hc2_0 => ?_) (fun hc2_0 => ?_)
 ·replace h := yma hc2_0 h
  refine kG [(4, .p (.bool false))] [] trivial ?_
  refine yva (q_r ?_)
  obtain rfl := oi h
  exact er [(.p (.bool false), 4)]
 replace h := yna hc2_0 h
 refine yja (q_n (yhd (J := fun (x : Unit) => []) (K := fun x => ymh x = some r) (fun x2 h => ?_) ?_))
 ·unfold ymh at h
  refine kG [(4, .p (.bool true))] [] trivial ?_
  refine yva ?_
  obtain rfl := oi h
  exact er [(.p (.bool true), 4)]
 refine kG [(0, .d false (sP a0)), (1, .d false (sP a1)), (12, .p (iV (a0.length : Int))), (13, .p (iV 0))] [(1, {n := some a0.length})] (A1 (lnP a0)) ?_
 refine ywa ?_
 obtain ⟨y4, hl_x3, hk_x3⟩ := bs h
 clear h
 refine yuh (J := fun (x : Int) => [(0, .d false (sP a0)), (1, .d false (sP a1)), (12, .p (iV (a0.length : Int))), (13, .p (iV x))]) hl_x3 wkk (fun x3 o_x3 h hy_x3 => ?_)
 unfold yud at h
 refine kG [(0, .d false (sP a0)), (1, .d false (sP a1)), (12, .p (iV (a0.length : Int))), (13, .p (iV x3)), (14, .p (.bool (decide (x3 < (a0.length : Int)))))] [] trivial ?_
 refine yqb (kc (decide (x3 < (a0.length : Int))) (fun hc5_4 => ?_) (fun hc5_4 => ?_))
 ·replace h := yma hc5_4 h
  refine yja (q_n (yqb (ywa (kG [(0, .d false (sP a0)), (1, .d false (sP a1)), (5, .p (iV x3)), (12, .p (iV (a0.length : Int))), (13, .p (iV x3))] [] trivial ?_))))
  obtain ⟨v6, hv6, h⟩ := bs h
  obtain ⟨v7, hv7, h⟩ := bs h
  refine yya (r_dq yca 8 [] [(0, .d false (sP a0)), (1, .d false (sP a1)), (12, .p (iV (a0.length : Int))), (13, .p (iV x3)), (24, .p (.bool (!(((v6.1.1 == v7.1.1) && (v6.1.2 == v7.1.2)) && ((v6.2.1 == v7.2.1) && (v6.2.2 == v7.2.2))))))] [(2, {row := some (ePt v6)}), (6, {row := some (ePt v7)}), (8, {pv := some (.bool (!(((v6.1.1 == v7.1.1) && (v6.1.2 == v7.1.2)) && ((v6.2.1 == v7.2.1) && (v6.2.2 == v7.2.2)))))})] (A5 (yba hv6).1 (yia ePt (yba hv6).2) (yba hv7).1 (yia ePt (yba hv7).2) (show PureAt Tryz.prog (.binOp .neq 86 (.tmp 19) (.tmp 23) 86) [vPt v6, vPt v7] (.bool (!(((v6.1.1 == v7.1.1) && (v6.1.2 == v7.1.2)) && ((v6.2.1 == v7.2.1) && (v6.2.2 == v7.2.2))))) from (yad1 (by kernel_rfl))))) ?_
  refine kc (!(((v6.1.1 == v7.1.1) && (v6.1.2 == v7.1.2)) && ((v6.2.1 == v7.2.1) && (v6.2.2 == v7.2.2)))) (fun hc6_7 => ?_) (fun hc6_7 => ?_)
  ·replace h := yma hc6_7 h
   refine kG [(4, .p (.bool false))] [] trivial ?_
   refine yva (b_r (q_r (lq_r ?_)))
   refine b_r (q_r ?_)
   have hyy := hy_x3 _ (oi h).symm
   subst hyy
   have h := hk_x3
   dsimp only [Sum.elim] at h
   obtain rfl := oi h
   exact er [(.p (.bool false), 4)]
  replace h := yna hc6_7 h
  refine yja (b_n (q_n (yff (r_gq [(0, .d false (sP a0)), (1, .d false (sP a1)), (12, .p (iV (a0.length : Int))), (13, .p (iV (w64 (x3 + 1))))] [] trivial) ?_)))
  exact lqn (w64 (x3 + 1)) h
 replace h := yna hc5_4 h
 refine ykg (q_x (lq_x (b_x ?_)))
 have hyy := hy_x3 _ (oi h).symm
 subst hyy
 have h := hk_x3
 dsimp only [Sum.elim] at h
 refine q_n ?_
 exact jx () h
theorem wk_laws_FnLifts {a0 : (List Int)} {a1 : (List Int)}  {r : Bool} (h : laws_FnLifts a0 a1 = some r) : Meets Tryz.prog 3 [.d false [.sl none (a0.map (eU .u8))], .d false [.sl none (a1.map (eU .u8))]] { vals := [.p (.bool r)] } := by
 refine mo Tryz.func3 [(0, .d false [.sl none (a0.map (eU .u8))]), (1, .d false [.sl none (a1.map (eU .u8))])] ?_
 unfold laws_FnLifts at h
 refine kG [(0, .d false [.sl none (a0.map (eU .u8))]), (1, .d false [.sl none (a1.map (eU .u8))])] [] trivial ?_
 refine yqb (kG [(0, .d false [.sl none (a0.map (eU .u8))]), (1, .d false [.sl none (a1.map (eU .u8))]), (58, .p (.bool (decide ((w64 ((a0.length : Int) + (a1.length : Int))) > 1048576))))] [(1, {n := some a0.length}), (3, {n := some a1.length})] (A2 (show (a0.map (eU .u8)).length = a0.length from (List.length_map ..)) (show (a1.map (eU .u8)).length = a1.length from (List.length_map ..))) ?_)
 refine kc (decide ((w64 ((a0.length : Int) + (a1.length : Int))) > 1048576)) (fun hc2_0 => ?_) (fun hc2_0 => ?_)
 ·replace h := yma hc2_0 h
  refine kG [(4, .p (.bool true))] [] trivial ?_
  refine yva (q_r ?_)
  obtain rfl := oi h
  exact er [(.p (.bool true), 4)]
 replace h := yna hc2_0 h
 refine yja (q_n ?_)
 obtain ⟨v2, hv2, h⟩ := bs h
 refine kG [(1, .d false [.sl none (a1.map (eU .u8))]), (5, .box (oP 57 v2.1)), (6, .box (eRt v2.2))] [(1, (cN [.ov true (oP 57 v2.1), .p (vRt v2.2)]))] (A2 (yvo hv2) (show List.all [.ov true (oP 57 v2.1), .p (vRt v2.2)] simpleR = true from (sa_o (wnR1 (yzm (wn_P (wn_P wn_I wn_I) (wn_P wn_I wn_I))) rfl) (sa_p rfl)))) ?_
 obtain ⟨v3, hv3, h⟩ := bs h
 refine kG [(1, .d false [.sl none (a1.map (eU .u8))]), (5, .box (oP 57 v2.1)), (6, .box (eRt v2.2)), (7, .box (eRt v3.1)), (8, .p (.bool v3.2))] [(2, (cS [.d true (sP v2.1), .v (vRt v2.2)] [.p (vRt v3.1), .p (.bool v3.2)]))] (A3 (frO 57 v2.1) (show ([.d true [.sl none (eraL (v2.1.map ePt))], .v (vRt v2.2)] : List Arg) = [.d true (sP v2.1), .v (vRt v2.2)] from (by simp only [erPt])) (yit hv3)) ?_
 obtain ⟨v4, hv4, h⟩ := bs h
 refine kG [(1, .d false [.sl none (a1.map (eU .u8))]), (5, .box (oP 57 v2.1)), (6, .box (eRt v2.2)), (7, .box (eRt v3.1)), (8, .p (.bool v3.2)), (9, .box (eRt v4.1)), (10, .p (.bool v4.2))] [(2, (cS [.d true (sP v2.1), .v (vRt v2.2)] [.p (vRt v4.1), .p (.bool v4.2)]))] (A3 (frO 57 v2.1) (show ([.d true [.sl none (eraL (v2.1.map ePt))], .v (vRt v2.2)] : List Arg) = [.d true (sP v2.1), .v (vRt v2.2)] from (by simp only [erPt])) (yjt hv4)) ?_
 obtain ⟨v5, hv5, h⟩ := bs h
 refine kG [(1, .d false [.sl none (a1.map (eU .u8))]), (5, .box (oP 57 v2.1)), (6, .box (eRt v2.2)), (7, .box (eRt v3.1)), (8, .p (.bool v3.2)), (9, .box (eRt v4.1)), (10, .p (.bool v4.2)), (11, .p (.string v5.1)), (12, .p (.bool v5.2))] [(1, (cS [.d true (sP v2.1)] [.p (.string v5.1), .p (.bool v5.2)]))] (A3 (frO 57 v2.1) (show ([.d true [.sl none (eraL (v2.1.map ePt))]] : List Arg) = [.d true (sP v2.1)] from (by simp only [erPt])) (ymv hv5)) ?_
 obtain ⟨v6, hv6, h⟩ := bs h
 refine kG [(1, .d false [.sl none (a1.map (eU .u8))]), (5, .box (oP 57 v2.1)), (6, .box (eRt v2.2)), (7, .box (eRt v3.1)), (8, .p (.bool v3.2)), (9, .box (eRt v4.1)), (10, .p (.bool v4.2)), (11, .p (.string v5.1)), (12, .p (.bool v5.2)), (13, .p (.string v6.1)), (14, .p (.bool v6.2))] [(1, (cS [.d true (sP v2.1)] [.p (.string v6.1), .p (.bool v6.2)]))] (A3 (frO 57 v2.1) (show ([.d true [.sl none (eraL (v2.1.map ePt))]] : List Arg) = [.d true (sP v2.1)] from (by simp only [erPt])) (ynv hv6)) ?_
 obtain ⟨v7, hv7, h⟩ := bs h
 refine kG [(1, .d false [.sl none (a1.map (eU .u8))]), (5, .box (oP 57 v2.1)), (6, .box (eRt v2.2)), (7, .box (eRt v3.1)), (8, .p (.bool v3.2)), (9, .box (eRt v4.1)), (10, .p (.bool v4.2)), (11, .p (.string v5.1)), (12, .p (.bool v5.2)), (13, .p (.string v6.1)), (14, .p (.bool v6.2)), (15, .box (eRt v7.1)), (16, .p (.bool v7.2))] [(2, (cS [.d true (sP v2.1), .v (vRt v2.2)] [.p (vRt v7.1), .p (.bool v7.2)]))] (A3 (frO 57 v2.1) (show ([.d true [.sl none (eraL (v2.1.map ePt))], .v (vRt v2.2)] : List Arg) = [.d true (sP v2.1), .v (vRt v2.2)] from (by simp only [erPt])) (yco hv7)) ?_
 obtain ⟨v8, hv8, h⟩ := bs h
 refine kG [(1, .d false [.sl none (a1.map (eU .u8))]), (5, .box (oP 57 v2.1)), (6, .box (eRt v2.2)), (7, .box (eRt v3.1)), (8, .p (.bool v3.2)), (9, .box (eRt v4.1)), (10, .p (.bool v4.2)), (11, .p (.string v5.1)), (12, .p (.bool v5.2)), (13, .p (.string v6.1)), (14, .p (.bool v6.2)), (15, .box (eRt v7.1)), (16, .p (.bool v7.2)), (17, .box (eRt v8.1)), (18, .p (.bool v8.2))] [(2, (cS [.d true (sP v2.1), .v (vRt v2.2)] [.p (vRt v8.1), .p (.bool v8.2)]))] (A3 (frO 57 v2.1) (show ([.d true [.sl none (eraL (v2.1.map ePt))], .v (vRt v2.2)] : List Arg) = [.d true (sP v2.1), .v (vRt v2.2)] from (by simp only [erPt])) (ysx hv8)) ?_
 obtain ⟨v9, hv9, h⟩ := bs h
 refine kG [(1, .d false [.sl none (a1.map (eU .u8))]), (5, .box (oP 57 v2.1)), (6, .box (eRt v2.2)), (7, .box (eRt v3.1)), (8, .p (.bool v3.2)), (9, .box (eRt v4.1)), (10, .p (.bool v4.2)), (11, .p (.string v5.1)), (12, .p (.bool v5.2)), (13, .p (.string v6.1)), (14, .p (.bool v6.2)), (15, .box (eRt v7.1)), (16, .p (.bool v7.2)), (17, .box (eRt v8.1)), (18, .p (.bool v8.2)), (19, .box (oP 57 v9.1)), (20, .p (.bool v9.2))] [(1, (cS [.d true (sP v2.1)] [.ov true (oP 57 v9.1), .p (.bool v9.2)]))] (A4 (frO 57 v2.1) (show ([.d true [.sl none (eraL (v2.1.map ePt))]] : List Arg) = [.d true (sP v2.1)] from (by simp only [erPt])) (yyl hv9) (show List.all [.ov true (oP 57 v9.1), .p (.bool v9.2)] simpleR = true from (sa_o (wnR1 (yzm (wn_P (wn_P wn_I wn_I) (wn_P wn_I wn_I))) rfl) (sa_p rfl)))) ?_
 obtain ⟨v10, hv10, h⟩ := bs h
 refine kG [(1, .d false [.sl none (a1.map (eU .u8))]), (5, .box (sP v2.1)), (6, .box (eRt v2.2)), (7, .box (eRt v3.1)), (8, .p (.bool v3.2)), (9, .box (eRt v4.1)), (10, .p (.bool v4.2)), (11, .p (.string v5.1)), (12, .p (.bool v5.2)), (13, .p (.string v6.1)), (14, .p (.bool v6.2)), (15, .box (eRt v7.1)), (16, .p (.bool v7.2)), (17, .box (eRt v8.1)), (18, .p (.bool v8.2)), (19, .box (oP 57 v9.1)), (20, .p (.bool v9.2)), (21, .box (sP v10.1)), (22, .p (.bool v10.2))] [(1, {call := some (some [.d true (sP v2.1)], [.ov true (sP v10.1), .p (.bool v10.2)], false), fix := some (5, .box (sP v2.1))})] (A4 (frO 57 v2.1) (show ([.d true [.sl none (eraL (v2.1.map ePt))]] : List Arg) = [.d true (sP v2.1)] from (by simp only [erPt])) (yfs hv10) (show (SV.box (eraR (oP 57 v2.1)) : SV) = .box (sP v2.1) from (congrArg (fun z => SV.box z) (yul (yza (ysm (ysm er_I er_I) (ysm er_I er_I))) rfl)))) ?_
 obtain ⟨v11, hv11, h⟩ := bs h
 refine kG [(1, .d false [.sl none (a1.map (eU .u8))]), (5, .box (sP v2.1)), (6, .box (eRt v2.2)), (7, .box (eRt v3.1)), (8, .p (.bool v3.2)), (9, .box (eRt v4.1)), (10, .p (.bool v4.2)), (11, .p (.string v5.1)), (12, .p (.bool v5.2)), (13, .p (.string v6.1)), (14, .p (.bool v6.2)), (15, .box (eRt v7.1)), (16, .p (.bool v7.2)), (17, .box (eRt v8.1)), (18, .p (.bool v8.2)), (19, .box (oP 57 v9.1)), (20, .p (.bool v9.2)), (21, .box (sP v10.1)), (22, .p (.bool v10.2)), (23, .p (.string v11))] [(1, (cN [.p (.string v11)]))] (A1 (yhq hv11)) ?_
 obtain ⟨v12, hv12, h⟩ := bs h
 refine kG [(1, .d false [.sl none (a1.map (eU .u8))]), (5, .box (sP v2.1)), (6, .box (eRt v2.2)), (7, .box (eRt v3.1)), (8, .p (.bool v3.2)), (9, .box (eRt v4.1)), (10, .p (.bool v4.2)), (11, .p (.string v5.1)), (12, .p (.bool v5.2)), (13, .p (.string v6.1)), (14, .p (.bool v6.2)), (15, .box (eRt v7.1)), (16, .p (.bool v7.2)), (17, .box (eRt v8.1)), (18, .p (.bool v8.2)), (19, .box (oP 57 v9.1)), (20, .p (.bool v9.2)), (21, .box (sP v10.1)), (22, .p (.bool v10.2)), (23, .p (.string v11)), (24, .box (oP 57 v12.1)), (25, .p (.bool v12.2))] [(1, (cN [.ov true (oP 57 v12.1), .p (.bool v12.2)]))] (A2 (yko hv12) (show List.all [.ov true (oP 57 v12.1), .p (.bool v12.2)] simpleR = true from (sa_o (wnR1 (yzm (wn_P (wn_P wn_I wn_I) (wn_P wn_I wn_I))) rfl) (sa_p rfl)))) ?_
 obtain ⟨v13, hv13, h⟩ := bs h
 refine kG [(1, .d false [.sl none (a1.map (eU .u8))]), (5, .box (sP v2.1)), (6, .box (eRt v2.2)), (7, .box (eRt v3.1)), (8, .p (.bool v3.2)), (9, .box (eRt v4.1)), (10, .p (.bool v4.2)), (11, .p (.string v5.1)), (12, .p (.bool v5.2)), (13, .p (.string v6.1)), (14, .p (.bool v6.2)), (15, .box (eRt v7.1)), (16, .p (.bool v7.2)), (17, .box (eRt v8.1)), (18, .p (.bool v8.2)), (19, .box (oP 57 v9.1)), (20, .p (.bool v9.2)), (21, .box (sP v10.1)), (22, .p (.bool v10.2)), (24, .box (oP 57 v12.1)), (25, .p (.bool v12.2)), (26, .box (sP v13.1)), (27, .p (.bool v13.2))] [(1, {call := some (none, [.ov true (sP v13.1), .p (.bool v13.2)], false)})] (A1 (yju hv13)) ?_
 obtain ⟨v14, hv14, h⟩ := bs h
 refine kG [(5, .box (sP v2.1)), (6, .box (eRt v2.2)), (7, .box (eRt v3.1)), (8, .p (.bool v3.2)), (9, .box (eRt v4.1)), (10, .p (.bool v4.2)), (11, .p (.string v5.1)), (12, .p (.bool v5.2)), (13, .p (.string v6.1)), (14, .p (.bool v6.2)), (15, .box (eRt v7.1)), (16, .p (.bool v7.2)), (17, .box (eRt v8.1)), (18, .p (.bool v8.2)), (19, .box (oP 57 v9.1)), (20, .p (.bool v9.2)), (21, .box (sP v10.1)), (22, .p (.bool v10.2)), (24, .box (oP 57 v12.1)), (25, .p (.bool v12.2)), (26, .box (sP v13.1)), (27, .p (.bool v13.2)), (28, .box (eRt v14))] [(1, (cN [.p (vRt v14)]))] (A1 (yiq hv14)) ?_
 obtain ⟨v15, hv15, h⟩ := bs h
 refine kG [(5, .box (sP v2.1)), (6, .box (eRt v2.2)), (7, .box (eRt v3.1)), (8, .p (.bool v3.2)), (9, .box (eRt v4.1)), (10, .p (.bool v4.2)), (11, .p (.string v5.1)), (12, .p (.bool v5.2)), (13, .p (.string v6.1)), (14, .p (.bool v6.2)), (15, .box (eRt v7.1)), (16, .p (.bool v7.2)), (17, .box (eRt v8.1)), (18, .p (.bool v8.2)), (19, .box (oP 57 v9.1)), (20, .p (.bool v9.2)), (21, .box (sP v10.1)), (22, .p (.bool v10.2)), (24, .box (oP 57 v12.1)), (25, .p (.bool v12.2)), (26, .box (sP v13.1)), (27, .p (.bool v13.2)), (28, .box (eRt v14)), (29, .box (eRt v15.1)), (30, .p (.bool v15.2))] [(1, (cN [.p (vRt v15.1), .p (.bool v15.2)]))] (A1 (yku hv15)) ?_
 obtain ⟨v16, hv16, h⟩ := bs h
 refine kG [(5, .box (sP v2.1)), (6, .box (eRt v2.2)), (7, .box (eRt v3.1)), (8, .p (.bool v3.2)), (9, .box (eRt v4.1)), (10, .p (.bool v4.2)), (11, .p (.string v5.1)), (12, .p (.bool v5.2)), (13, .p (.string v6.1)), (14, .p (.bool v6.2)), (15, .box (eRt v7.1)), (16, .p (.bool v7.2)), (17, .box (eRt v8.1)), (18, .p (.bool v8.2)), (19, .box (oP 57 v9.1)), (20, .p (.bool v9.2)), (21, .box (sP v10.1)), (22, .p (.bool v10.2)), (24, .box (oP 57 v12.1)), (25, .p (.bool v12.2)), (26, .box (sP v13.1)), (27, .p (.bool v13.2)), (28, .box (eRt v14)), (29, .box (eRt v15.1)), (30, .p (.bool v15.2)), (31, .box (eRt v16.1)), (32, .p (.bool v16.2))] [(1, (cN [.p (vRt v16.1), .p (.bool v16.2)]))] (A1 (ylu hv16)) ?_
 refine yqb ?_
 obtain ⟨w20, hw20, h⟩ := bs h
 refine yya (l1 := [(5, .box (sP v2.1)), (6, .box (eRt v2.2)), (7, .box (eRt v3.1)), (8, .p (.bool v3.2)), (11, .p (.string v5.1)), (12, .p (.bool v5.2)), (16, .p (.bool v7.2)), (17, .box (eRt v8.1)), (19, .box (oP 57 v9.1)), (20, .p (.bool v9.2)), (28, .box (eRt v14)), (30, .p (.bool v15.2)), (31, .box (eRt v16.1)), (222, .p (.bool w20))]) ?_ ?_
 ·clear h
  have q1 : PureAt Tryz.prog (.binOp .neq 27 (.tmp 136) (.tmp 137) 27) [vRt v3.1, vRt v4.1] (.bool (nR v3.1 v4.1)) := (ygi (by kernel_rfl))
  have q2 : PureAt Tryz.prog (.binOp .neq 27 (.tmp 156) (.tmp 157) 27) [vRt v7.1, vRt v8.1] (.bool (nR v7.1 v8.1)) := (ygi (by kernel_rfl))
  have q3 : ([.d false [.sl none (eraL (v9.1.map ePt))], .d false (sP v10.1)] : List Arg) = [.d false (sP v9.1), .d false (sP v10.1)] := (by simp only [erPt])
  have q4 : ([.d false [.sl none (eraL (v12.1.map ePt))], .d false (sP v13.1)] : List Arg) = [.d false (sP v12.1), .d false (sP v13.1)] := (by simp only [erPt])
  have q5 : PureAt Tryz.prog (.binOp .neq 27 (.tmp 192) (.tmp 193) 27) [vRt v15.1, vRt v16.1] (.bool (nR v15.1 v16.1)) := (ygi (by kernel_rfl))
  rcases ft (!(v3.2 == v4.2)) with ha1 | ha1
  ·replace hw20 := yma ha1 hw20
   have hw20 := oi hw20
   subst hw20
   exact (r_gq [(5, .box (sP v2.1)), (6, .box (eRt v2.2)), (7, .box (eRt v3.1)), (8, .p (.bool v3.2)), (11, .p (.string v5.1)), (12, .p (.bool v5.2)), (16, .p (.bool v7.2)), (17, .box (eRt v8.1)), (19, .box (oP 57 v9.1)), (20, .p (.bool v9.2)), (28, .box (eRt v14)), (30, .p (.bool v15.2)), (31, .box (eRt v16.1)), (222, .p (.bool true))] [(4, gT), (5, gT), (6, gT), (7, bT), (9, gT), (10, gT), (11, gT), (12, bT), (14, gT), (15, gT), (16, gT), (17, bT), (19, gT), (20, gT), (21, gT), (22, bT), (24, gT), (25, gT), (26, gT), (27, bT), (29, gT), (30, gT), (31, gT), (32, bT), (34, gT), (35, gT), (36, gT), (37, gT), (38, gT), (39, gT), (40, bT), (42, gT), (43, gT), (44, gT), (45, bT), (47, gT), (48, gT), (49, gT), (50, gT), (51, gT), (52, gT), (53, bT), (55, gT), (56, gT), (57, gT), (58, bT), (60, gT), (61, gT), (62, gT), (63, bT), (65, gT), (66, gT), (67, gT), (68, gT), (69, bT), (71, gT), (72, gT), (75, gT), (76, bT), (78, gT), (79, gT), (82, gT), (83, bT), (85, gT), (86, gT), (89, gT), (90, bT)] (B6 ha1 ha1 ha1 ha1 tT tT (B6 tT tT tT tT tT tT (B6 tT tT tT tT tT tT (B6 tT tT tT tT tT tT (B6 tT tT tT tT tT tT (B6 tT tT tT tT tT tT (B6 tT tT tT tT tT tT (B6 tT tT tT tT tT tT (B6 tT tT tT tT tT tT (B6 tT tT tT tT tT tT (B6 tT tT tT tT tT tT (A1 tT)))))))))))))
  replace hw20 := yna ha1 hw20
  rcases ft (nR v3.1 v4.1) with ha2 | ha2
  ·replace hw20 := yma ha2 hw20
   have hw20 := oi hw20
   subst hw20
   exact (r_gq [(5, .box (sP v2.1)), (6, .box (eRt v2.2)), (7, .box (eRt v3.1)), (8, .p (.bool v3.2)), (11, .p (.string v5.1)), (12, .p (.bool v5.2)), (16, .p (.bool v7.2)), (17, .box (eRt v8.1)), (19, .box (oP 57 v9.1)), (20, .p (.bool v9.2)), (28, .box (eRt v14)), (30, .p (.bool v15.2)), (31, .box (eRt v16.1)), (222, .p (.bool true))] [(4, gF), (5, gF), (6, (hB (nR v3.1 v4.1))), (7, bF), (9, gT), (10, gT), (11, gT), (12, bT), (14, gT), (15, gT), (16, gT), (17, bT), (19, gT), (20, gT), (21, gT), (22, bT), (24, gT), (25, gT), (26, gT), (27, bT), (29, gT), (30, gT), (31, gT), (32, bT), (34, gT), (35, gT), (36, gT), (37, gT), (38, gT), (39, gT), (40, bT), (42, gT), (43, gT), (44, gT), (45, bT), (47, gT), (48, gT), (49, gT), (50, gT), (51, gT), (52, gT), (53, bT), (55, gT), (56, gT), (57, gT), (58, bT), (60, gT), (61, gT), (62, gT), (63, bT), (65, gT), (66, gT), (67, gT), (68, gT), (69, bT), (71, gT), (72, gT), (75, gT), (76, bT), (78, gT), (79, gT), (82, gT), (83, bT), (85, gT), (86, gT), (89, gT), (90, bT)] (B6 ha1 ha1 ha1 q1 ha1 ha2 (B6 ha2 ha2 ha2 tT tT tT (B6 tT tT tT tT tT tT (B6 tT tT tT tT tT tT (B6 tT tT tT tT tT tT (B6 tT tT tT tT tT tT (B6 tT tT tT tT tT tT (B6 tT tT tT tT tT tT (B6 tT tT tT tT tT tT (B6 tT tT tT tT tT tT (B6 tT tT tT tT tT tT (A2 tT tT)))))))))))))
  replace hw20 := yna ha2 hw20
  rcases ft (!(v5.2 == v6.2)) with ha3 | ha3
  ·replace hw20 := yma ha3 hw20
   have hw20 := oi hw20
   subst hw20
   exact (r_gq [(5, .box (sP v2.1)), (6, .box (eRt v2.2)), (7, .box (eRt v3.1)), (8, .p (.bool v3.2)), (11, .p (.string v5.1)), (12, .p (.bool v5.2)), (16, .p (.bool v7.2)), (17, .box (eRt v8.1)), (19, .box (oP 57 v9.1)), (20, .p (.bool v9.2)), (28, .box (eRt v14)), (30, .p (.bool v15.2)), (31, .box (eRt v16.1)), (222, .p (.bool true))] [(4, gF), (5, gF), (6, (hB (nR v3.1 v4.1))), (7, bF), (9, gF), (10, gF), (11, gF), (12, bF), (14, gT), (15, gT), (16, gT), (17, bT), (19, gT), (20, gT), (21, gT), (22, bT), (24, gT), (25, gT), (26, gT), (27, bT), (29, gT), (30, gT), (31, gT), (32, bT), (34, gT), (35, gT), (36, gT), (37, gT), (38, gT), (39, gT), (40, bT), (42, gT), (43, gT), (44, gT), (45, bT), (47, gT), (48, gT), (49, gT), (50, gT), (51, gT), (52, gT), (53, bT), (55, gT), (56, gT), (57, gT), (58, bT), (60, gT), (61, gT), (62, gT), (63, bT), (65, gT), (66, gT), (67, gT), (68, gT), (69, bT), (71, gT), (72, gT), (75, gT), (76, bT), (78, gT), (79, gT), (82, gT), (83, bT), (85, gT), (86, gT), (89, gT), (90, bT)] (B6 ha1 ha1 ha1 q1 ha1 ha2 (B6 ha2 ha2 ha2 ha3 ha3 ha3 (B6 ha3 tT tT tT tT tT (B6 tT tT tT tT tT tT (B6 tT tT tT tT tT tT (B6 tT tT tT tT tT tT (B6 tT tT tT tT tT tT (B6 tT tT tT tT tT tT (B6 tT tT tT tT tT tT (B6 tT tT tT tT tT tT (B6 tT tT tT tT tT tT (A2 tT tT)))))))))))))
  replace hw20 := yna ha3 hw20
  rcases ft (!(v5.1.toList == v6.1.toList)) with ha4 | ha4
  ·replace hw20 := yma ha4 hw20
   have hw20 := oi hw20
   subst hw20
   exact (r_gq [(5, .box (sP v2.1)), (6, .box (eRt v2.2)), (7, .box (eRt v3.1)), (8, .p (.bool v3.2)), (11, .p (.string v5.1)), (12, .p (.bool v5.2)), (16, .p (.bool v7.2)), (17, .box (eRt v8.1)), (19, .box (oP 57 v9.1)), (20, .p (.bool v9.2)), (28, .box (eRt v14)), (30, .p (.bool v15.2)), (31, .box (eRt v16.1)), (222, .p (.bool true))] [(4, gF), (5, gF), (6, (hB (nR v3.1 v4.1))), (7, bF), (9, gF), (10, gF), (11, gF), (12, bF), (14, gF), (15, gF), (16, gF), (17, bF), (19, gT), (20, gT), (21, gT), (22, bT), (24, gT), (25, gT), (26, gT), (27, bT), (29, gT), (30, gT), (31, gT), (32, bT), (34, gT), (35, gT), (36, gT), (37, gT), (38, gT), (39, gT), (40, bT), (42, gT), (43, gT), (44, gT), (45, bT), (47, gT), (48, gT), (49, gT), (50, gT), (51, gT), (52, gT), (53, bT), (55, gT), (56, gT), (57, gT), (58, bT), (60, gT), (61, gT), (62, gT), (63, bT), (65, gT), (66, gT), (67, gT), (68, gT), (69, bT), (71, gT), (72, gT), (75, gT), (76, bT), (78, gT), (79, gT), (82, gT), (83, bT), (85, gT), (86, gT), (89, gT), (90, bT)] (B6 ha1 ha1 ha1 q1 ha1 ha2 (B6 ha2 ha2 ha2 ha3 ha3 ha3 (B6 ha3 ha4 ha4 ha4 ha4 tT (B6 tT tT tT tT tT tT (B6 tT tT tT tT tT tT (B6 tT tT tT tT tT tT (B6 tT tT tT tT tT tT (B6 tT tT tT tT tT tT (B6 tT tT tT tT tT tT (B6 tT tT tT tT tT tT (B6 tT tT tT tT tT tT (A2 tT tT)))))))))))))
  replace hw20 := yna ha4 hw20
  rcases ft (!(v7.2 == v8.2)) with ha5 | ha5
  ·replace hw20 := yma ha5 hw20
   have hw20 := oi hw20
   subst hw20
   exact (r_gq [(5, .box (sP v2.1)), (6, .box (eRt v2.2)), (7, .box (eRt v3.1)), (8, .p (.bool v3.2)), (11, .p (.string v5.1)), (12, .p (.bool v5.2)), (16, .p (.bool v7.2)), (17, .box (eRt v8.1)), (19, .box (oP 57 v9.1)), (20, .p (.bool v9.2)), (28, .box (eRt v14)), (30, .p (.bool v15.2)), (31, .box (eRt v16.1)), (222, .p (.bool true))] [(4, gF), (5, gF), (6, (hB (nR v3.1 v4.1))), (7, bF), (9, gF), (10, gF), (11, gF), (12, bF), (14, gF), (15, gF), (16, gF), (17, bF), (19, gF), (20, gF), (21, gF), (22, bF), (24, gT), (25, gT), (26, gT), (27, bT), (29, gT), (30, gT), (31, gT), (32, bT), (34, gT), (35, gT), (36, gT), (37, gT), (38, gT), (39, gT), (40, bT), (42, gT), (43, gT), (44, gT), (45, bT), (47, gT), (48, gT), (49, gT), (50, gT), (51, gT), (52, gT), (53, bT), (55, gT), (56, gT), (57, gT), (58, bT), (60, gT), (61, gT), (62, gT), (63, bT), (65, gT), (66, gT), (67, gT), (68, gT), (69, bT), (71, gT), (72, gT), (75, gT), (76, bT), (78, gT), (79, gT), (82, gT), (83, bT), (85, gT), (86, gT), (89, gT), (90, bT)] (B6 ha1 ha1 ha1 q1 ha1 ha2 (B6 ha2 ha2 ha2 ha3 ha3 ha3 (B6 ha3 ha4 ha4 ha4 ha4 ha5 (B6 ha5 ha5 ha5 tT tT tT (B6 tT tT tT tT tT tT (B6 tT tT tT tT tT tT (B6 tT tT tT tT tT tT (B6 tT tT tT tT tT tT (B6 tT tT tT tT tT tT (B6 tT tT tT tT tT tT (B6 tT tT tT tT tT tT (A2 tT tT)))))))))))))
  replace hw20 := yna ha5 hw20
  rcases ft (nR v7.1 v8.1) with ha6 | ha6
  ·replace hw20 := yma ha6 hw20
   have hw20 := oi hw20
   subst hw20
   exact (r_gq [(5, .box (sP v2.1)), (6, .box (eRt v2.2)), (7, .box (eRt v3.1)), (8, .p (.bool v3.2)), (11, .p (.string v5.1)), (12, .p (.bool v5.2)), (16, .p (.bool v7.2)), (17, .box (eRt v8.1)), (19, .box (oP 57 v9.1)), (20, .p (.bool v9.2)), (28, .box (eRt v14)), (30, .p (.bool v15.2)), (31, .box (eRt v16.1)), (222, .p (.bool true))] [(4, gF), (5, gF), (6, (hB (nR v3.1 v4.1))), (7, bF), (9, gF), (10, gF), (11, gF), (12, bF), (14, gF), (15, gF), (16, gF), (17, bF), (19, gF), (20, gF), (21, gF), (22, bF), (24, gF), (25, gF), (26, (hB (nR v7.1 v8.1))), (27, bF), (29, gT), (30, gT), (31, gT), (32, bT), (34, gT), (35, gT), (36, gT), (37, gT), (38, gT), (39, gT), (40, bT), (42, gT), (43, gT), (44, gT), (45, bT), (47, gT), (48, gT), (49, gT), (50, gT), (51, gT), (52, gT), (53, bT), (55, gT), (56, gT), (57, gT), (58, bT), (60, gT), (61, gT), (62, gT), (63, bT), (65, gT), (66, gT), (67, gT), (68, gT), (69, bT), (71, gT), (72, gT), (75, gT), (76, bT), (78, gT), (79, gT), (82, gT), (83, bT), (85, gT), (86, gT), (89, gT), (90, bT)] (B6 ha1 ha1 ha1 q1 ha1 ha2 (B6 ha2 ha2 ha2 ha3 ha3 ha3 (B6 ha3 ha4 ha4 ha4 ha4 ha5 (B6 ha5 ha5 q2 ha5 ha6 ha6 (B6 ha6 ha6 tT tT tT tT (B6 tT tT tT tT tT tT (B6 tT tT tT tT tT tT (B6 tT tT tT tT tT tT (B6 tT tT tT tT tT tT (B6 tT tT tT tT tT tT (B6 tT tT tT tT tT tT (A3 tT tT tT)))))))))))))
  replace hw20 := yna ha6 hw20
  rcases ft (!(v9.2 == v10.2)) with ha7 | ha7
  ·replace hw20 := yma ha7 hw20
   have hw20 := oi hw20
   subst hw20
   exact (r_gq [(5, .box (sP v2.1)), (6, .box (eRt v2.2)), (7, .box (eRt v3.1)), (8, .p (.bool v3.2)), (11, .p (.string v5.1)), (12, .p (.bool v5.2)), (16, .p (.bool v7.2)), (17, .box (eRt v8.1)), (19, .box (oP 57 v9.1)), (20, .p (.bool v9.2)), (28, .box (eRt v14)), (30, .p (.bool v15.2)), (31, .box (eRt v16.1)), (222, .p (.bool true))] [(4, gF), (5, gF), (6, (hB (nR v3.1 v4.1))), (7, bF), (9, gF), (10, gF), (11, gF), (12, bF), (14, gF), (15, gF), (16, gF), (17, bF), (19, gF), (20, gF), (21, gF), (22, bF), (24, gF), (25, gF), (26, (hB (nR v7.1 v8.1))), (27, bF), (29, gF), (30, gF), (31, gF), (32, bF), (34, gT), (35, gT), (36, gT), (37, gT), (38, gT), (39, gT), (40, bT), (42, gT), (43, gT), (44, gT), (45, bT), (47, gT), (48, gT), (49, gT), (50, gT), (51, gT), (52, gT), (53, bT), (55, gT), (56, gT), (57, gT), (58, bT), (60, gT), (61, gT), (62, gT), (63, bT), (65, gT), (66, gT), (67, gT), (68, gT), (69, bT), (71, gT), (72, gT), (75, gT), (76, bT), (78, gT), (79, gT), (82, gT), (83, bT), (85, gT), (86, gT), (89, gT), (90, bT)] (B6 ha1 ha1 ha1 q1 ha1 ha2 (B6 ha2 ha2 ha2 ha3 ha3 ha3 (B6 ha3 ha4 ha4 ha4 ha4 ha5 (B6 ha5 ha5 q2 ha5 ha6 ha6 (B6 ha6 ha6 ha7 ha7 ha7 ha7 (B6 ha7 ha7 ha7 tT tT tT (B6 tT tT tT tT tT tT (B6 tT tT tT tT tT tT (B6 tT tT tT tT tT tT (B6 tT tT tT tT tT tT (B6 tT tT tT tT tT tT (A3 tT tT tT)))))))))))))
  obtain ⟨v17, hv17, hw20⟩ := bs (yna ha7 hw20)
  rcases ft (!v17) with ha8 | ha8
  ·replace hw20 := yma ha8 hw20
   have hw20 := oi hw20
   subst hw20
   exact (r_gq [(5, .box (sP v2.1)), (6, .box (eRt v2.2)), (7, .box (eRt v3.1)), (8, .p (.bool v3.2)), (11, .p (.string v5.1)), (12, .p (.bool v5.2)), (16, .p (.bool v7.2)), (17, .box (eRt v8.1)), (19, .box (oP 57 v9.1)), (20, .p (.bool v9.2)), (28, .box (eRt v14)), (30, .p (.bool v15.2)), (31, .box (eRt v16.1)), (222, .p (.bool true))] [(4, gF), (5, gF), (6, (hB (nR v3.1 v4.1))), (7, bF), (9, gF), (10, gF), (11, gF), (12, bF), (14, gF), (15, gF), (16, gF), (17, bF), (19, gF), (20, gF), (21, gF), (22, bF), (24, gF), (25, gF), (26, (hB (nR v7.1 v8.1))), (27, bF), (29, gF), (30, gF), (31, gF), (32, bF), (34, gF), (35, gF), (36, gF), (37, gFbT), (38, (gC [.d false (sP v9.1), .d false (sP v10.1)] [.p (.bool v17)])), (39, gF), (40, bF), (42, gT), (43, gT), (44, gT), (45, bT), (47, gT), (48, gT), (49, gT), (50, gT), (51, gT), (52, gT), (53, bT), (55, gT), (56, gT), (57, gT), (58, bT), (60, gT), (61, gT), (62, gT), (63, bT), (65, gT), (66, gT), (67, gT), (68, gT), (69, bT), (71, gT), (72, gT), (75, gT), (76, bT), (78, gT), (79, gT), (82, gT), (83, bT), (85, gT), (86, gT), (89, gT), (90, bT)] (B6 ha1 ha1 ha1 q1 ha1 ha2 (B6 ha2 ha2 ha2 ha3 ha3 ha3 (B6 ha3 ha4 ha4 ha4 ha4 ha5 (B6 ha5 ha5 q2 ha5 ha6 ha6 (B6 ha6 ha6 ha7 ha7 (frO 57 v9.1) ha7 (B6 ha7 (frE v10.1) ha7 q3 (yha hv17) ha7 (B6 ha7 ha8 ha8 ha8 ha8 tT (B6 tT tT tT tT tT tT (B6 tT tT tT tT tT tT (B6 tT tT tT tT tT tT (B6 tT tT tT tT tT tT (B6 tT tT tT tT tT tT (A1 tT))))))))))))))
  replace hw20 := yna ha8 hw20
  rcases ft (!(v12.2 == v13.2)) with ha9 | ha9
  ·replace hw20 := yma ha9 hw20
   have hw20 := oi hw20
   subst hw20
   exact (r_gq [(5, .box (sP v2.1)), (6, .box (eRt v2.2)), (7, .box (eRt v3.1)), (8, .p (.bool v3.2)), (11, .p (.string v5.1)), (12, .p (.bool v5.2)), (16, .p (.bool v7.2)), (17, .box (eRt v8.1)), (19, .box (oP 57 v9.1)), (20, .p (.bool v9.2)), (28, .box (eRt v14)), (30, .p (.bool v15.2)), (31, .box (eRt v16.1)), (222, .p (.bool true))] [(4, gF), (5, gF), (6, (hB (nR v3.1 v4.1))), (7, bF), (9, gF), (10, gF), (11, gF), (12, bF), (14, gF), (15, gF), (16, gF), (17, bF), (19, gF), (20, gF), (21, gF), (22, bF), (24, gF), (25, gF), (26, (hB (nR v7.1 v8.1))), (27, bF), (29, gF), (30, gF), (31, gF), (32, bF), (34, gF), (35, gF), (36, gF), (37, gFbT), (38, (gC [.d false (sP v9.1), .d false (sP v10.1)] [.p (.bool v17)])), (39, gF), (40, bF), (42, gF), (43, gF), (44, gF), (45, bF), (47, gT), (48, gT), (49, gT), (50, gT), (51, gT), (52, gT), (53, bT), (55, gT), (56, gT), (57, gT), (58, bT), (60, gT), (61, gT), (62, gT), (63, bT), (65, gT), (66, gT), (67, gT), (68, gT), (69, bT), (71, gT), (72, gT), (75, gT), (76, bT), (78, gT), (79, gT), (82, gT), (83, bT), (85, gT), (86, gT), (89, gT), (90, bT)] (B6 ha1 ha1 ha1 q1 ha1 ha2 (B6 ha2 ha2 ha2 ha3 ha3 ha3 (B6 ha3 ha4 ha4 ha4 ha4 ha5 (B6 ha5 ha5 q2 ha5 ha6 ha6 (B6 ha6 ha6 ha7 ha7 (frO 57 v9.1) ha7 (B6 ha7 (frE v10.1) ha7 q3 (yha hv17) ha7 (B6 ha7 ha8 ha8 ha8 ha8 ha9 (B6 ha9 ha9 ha9 ha9 ha9 ha9 (B6 tT tT tT tT tT tT (B6 tT tT tT tT tT tT (B6 tT tT tT tT tT tT (B6 tT tT tT tT tT tT (A1 tT))))))))))))))
  obtain ⟨v18, hv18, hw20⟩ := bs (yna ha9 hw20)
  rcases ft (!v18) with ha10 | ha10
  ·replace hw20 := yma ha10 hw20
   have hw20 := oi hw20
   subst hw20
   exact (r_gq [(5, .box (sP v2.1)), (6, .box (eRt v2.2)), (7, .box (eRt v3.1)), (8, .p (.bool v3.2)), (11, .p (.string v5.1)), (12, .p (.bool v5.2)), (16, .p (.bool v7.2)), (17, .box (eRt v8.1)), (19, .box (oP 57 v9.1)), (20, .p (.bool v9.2)), (28, .box (eRt v14)), (30, .p (.bool v15.2)), (31, .box (eRt v16.1)), (222, .p (.bool true))] [(4, gF), (5, gF), (6, (hB (nR v3.1 v4.1))), (7, bF), (9, gF), (10, gF), (11, gF), (12, bF), (14, gF), (15, gF), (16, gF), (17, bF), (19, gF), (20, gF), (21, gF), (22, bF), (24, gF), (25, gF), (26, (hB (nR v7.1 v8.1))), (27, bF), (29, gF), (30, gF), (31, gF), (32, bF), (34, gF), (35, gF), (36, gF), (37, gFbT), (38, (gC [.d false (sP v9.1), .d false (sP v10.1)] [.p (.bool v17)])), (39, gF), (40, bF), (42, gF), (43, gF), (44, gF), (45, bF), (47, gF), (48, gF), (49, gF), (50, gFbT), (51, (gC [.d false (sP v12.1), .d false (sP v13.1)] [.p (.bool v18)])), (52, gF), (53, bF), (55, gT), (56, gT), (57, gT), (58, bT), (60, gT), (61, gT), (62, gT), (63, bT), (65, gT), (66, gT), (67, gT), (68, gT), (69, bT), (71, gT), (72, gT), (75, gT), (76, bT), (78, gT), (79, gT), (82, gT), (83, bT), (85, gT), (86, gT), (89, gT), (90, bT)] (B6 ha1 ha1 ha1 q1 ha1 ha2 (B6 ha2 ha2 ha2 ha3 ha3 ha3 (B6 ha3 ha4 ha4 ha4 ha4 ha5 (B6 ha5 ha5 q2 ha5 ha6 ha6 (B6 ha6 ha6 ha7 ha7 (frO 57 v9.1) ha7 (B6 ha7 (frE v10.1) ha7 q3 (yha hv17) ha7 (B6 ha7 ha8 ha8 ha8 ha8 ha9 (B6 ha9 (frO 57 v12.1) ha9 ha9 (frE v13.1) ha9 (B6 q4 (yha hv18) ha9 ha9 ha10 ha10 (B6 ha10 ha10 tT tT tT tT (B6 tT tT tT tT tT tT (B6 tT tT tT tT tT tT (A5 tT tT tT tT tT))))))))))))))
  replace hw20 := yna ha10 hw20
  rcases ft (!(v15.2 == v16.2)) with ha11 | ha11
  ·replace hw20 := yma ha11 hw20
   have hw20 := oi hw20
   subst hw20
   exact (r_gq [(5, .box (sP v2.1)), (6, .box (eRt v2.2)), (7, .box (eRt v3.1)), (8, .p (.bool v3.2)), (11, .p (.string v5.1)), (12, .p (.bool v5.2)), (16, .p (.bool v7.2)), (17, .box (eRt v8.1)), (19, .box (oP 57 v9.1)), (20, .p (.bool v9.2)), (28, .box (eRt v14)), (30, .p (.bool v15.2)), (31, .box (eRt v16.1)), (222, .p (.bool true))] [(4, gF), (5, gF), (6, (hB (nR v3.1 v4.1))), (7, bF), (9, gF), (10, gF), (11, gF), (12, bF), (14, gF), (15, gF), (16, gF), (17, bF), (19, gF), (20, gF), (21, gF), (22, bF), (24, gF), (25, gF), (26, (hB (nR v7.1 v8.1))), (27, bF), (29, gF), (30, gF), (31, gF), (32, bF), (34, gF), (35, gF), (36, gF), (37, gFbT), (38, (gC [.d false (sP v9.1), .d false (sP v10.1)] [.p (.bool v17)])), (39, gF), (40, bF), (42, gF), (43, gF), (44, gF), (45, bF), (47, gF), (48, gF), (49, gF), (50, gFbT), (51, (gC [.d false (sP v12.1), .d false (sP v13.1)] [.p (.bool v18)])), (52, gF), (53, bF), (55, gF), (56, gF), (57, gF), (58, bF), (60, gT), (61, gT), (62, gT), (63, bT), (65, gT), (66, gT), (67, gT), (68, gT), (69, bT), (71, gT), (72, gT), (75, gT), (76, bT), (78, gT), (79, gT), (82, gT), (83, bT), (85, gT), (86, gT), (89, gT), (90, bT)] (B6 ha1 ha1 ha1 q1 ha1 ha2 (B6 ha2 ha2 ha2 ha3 ha3 ha3 (B6 ha3 ha4 ha4 ha4 ha4 ha5 (B6 ha5 ha5 q2 ha5 ha6 ha6 (B6 ha6 ha6 ha7 ha7 (frO 57 v9.1) ha7 (B6 ha7 (frE v10.1) ha7 q3 (yha hv17) ha7 (B6 ha7 ha8 ha8 ha8 ha8 ha9 (B6 ha9 (frO 57 v12.1) ha9 ha9 (frE v13.1) ha9 (B6 q4 (yha hv18) ha9 ha9 ha10 ha10 (B6 ha10 ha10 ha11 ha11 ha11 ha11 (B6 tT tT tT tT tT tT (B6 tT tT tT tT tT tT (A5 tT tT tT tT tT))))))))))))))
  replace hw20 := yna ha11 hw20
  rcases ft (nR v15.1 v16.1) with ha12 | ha12
  ·replace hw20 := yma ha12 hw20
   have hw20 := oi hw20
   subst hw20
   exact (r_gq [(5, .box (sP v2.1)), (6, .box (eRt v2.2)), (7, .box (eRt v3.1)), (8, .p (.bool v3.2)), (11, .p (.string v5.1)), (12, .p (.bool v5.2)), (16, .p (.bool v7.2)), (17, .box (eRt v8.1)), (19, .box (oP 57 v9.1)), (20, .p (.bool v9.2)), (28, .box (eRt v14)), (30, .p (.bool v15.2)), (31, .box (eRt v16.1)), (222, .p (.bool true))] [(4, gF), (5, gF), (6, (hB (nR v3.1 v4.1))), (7, bF), (9, gF), (10, gF), (11, gF), (12, bF), (14, gF), (15, gF), (16, gF), (17, bF), (19, gF), (20, gF), (21, gF), (22, bF), (24, gF), (25, gF), (26, (hB (nR v7.1 v8.1))), (27, bF), (29, gF), (30, gF), (31, gF), (32, bF), (34, gF), (35, gF), (36, gF), (37, gFbT), (38, (gC [.d false (sP v9.1), .d false (sP v10.1)] [.p (.bool v17)])), (39, gF), (40, bF), (42, gF), (43, gF), (44, gF), (45, bF), (47, gF), (48, gF), (49, gF), (50, gFbT), (51, (gC [.d false (sP v12.1), .d false (sP v13.1)] [.p (.bool v18)])), (52, gF), (53, bF), (55, gF), (56, gF), (57, gF), (58, bF), (60, gF), (61, gF), (62, (hB (nR v15.1 v16.1))), (63, bF), (65, gT), (66, gT), (67, gT), (68, gT), (69, bT), (71, gT), (72, gT), (75, gT), (76, bT), (78, gT), (79, gT), (82, gT), (83, bT), (85, gT), (86, gT), (89, gT), (90, bT)] (B6 ha1 ha1 ha1 q1 ha1 ha2 (B6 ha2 ha2 ha2 ha3 ha3 ha3 (B6 ha3 ha4 ha4 ha4 ha4 ha5 (B6 ha5 ha5 q2 ha5 ha6 ha6 (B6 ha6 ha6 ha7 ha7 (frO 57 v9.1) ha7 (B6 ha7 (frE v10.1) ha7 q3 (yha hv17) ha7 (B6 ha7 ha8 ha8 ha8 ha8 ha9 (B6 ha9 (frO 57 v12.1) ha9 ha9 (frE v13.1) ha9 (B6 q4 (yha hv18) ha9 ha9 ha10 ha10 (B6 ha10 ha10 ha11 ha11 ha11 q5 (B6 ha11 ha12 ha12 ha12 ha12 ha12 (B6 tT tT tT tT tT tT (A6 tT tT tT tT tT tT))))))))))))))
  obtain ⟨v19, hv19, hw20⟩ := bs (yna ha12 hw20)
  rcases ft (!(v19 == v5.2)) with ha13 | ha13
  ·replace hw20 := yma ha13 hw20
   have hw20 := oi hw20
   subst hw20
   exact (r_gq [(5, .box (sP v2.1)), (6, .box (eRt v2.2)), (7, .box (eRt v3.1)), (8, .p (.bool v3.2)), (11, .p (.string v5.1)), (12, .p (.bool v5.2)), (16, .p (.bool v7.2)), (17, .box (eRt v8.1)), (19, .box (oP 57 v9.1)), (20, .p (.bool v9.2)), (28, .box (eRt v14)), (30, .p (.bool v15.2)), (31, .box (eRt v16.1)), (222, .p (.bool true))] [(4, gF), (5, gF), (6, (hB (nR v3.1 v4.1))), (7, bF), (9, gF), (10, gF), (11, gF), (12, bF), (14, gF), (15, gF), (16, gF), (17, bF), (19, gF), (20, gF), (21, gF), (22, bF), (24, gF), (25, gF), (26, (hB (nR v7.1 v8.1))), (27, bF), (29, gF), (30, gF), (31, gF), (32, bF), (34, gF), (35, gF), (36, gF), (37, gFbT), (38, (gC [.d false (sP v9.1), .d false (sP v10.1)] [.p (.bool v17)])), (39, gF), (40, bF), (42, gF), (43, gF), (44, gF), (45, bF), (47, gF), (48, gF), (49, gF), (50, gFbT), (51, (gC [.d false (sP v12.1), .d false (sP v13.1)] [.p (.bool v18)])), (52, gF), (53, bF), (55, gF), (56, gF), (57, gF), (58, bF), (60, gF), (61, gF), (62, (hB (nR v15.1 v16.1))), (63, bF), (65, gFbT), (66, (gN [.p (.bool v19)])), (67, gF), (68, gF), (69, bF), (71, gT), (72, gT), (75, gT), (76, bT), (78, gT), (79, gT), (82, gT), (83, bT), (85, gT), (86, gT), (89, gT), (90, bT)] (B6 ha1 ha1 ha1 q1 ha1 ha2 (B6 ha2 ha2 ha2 ha3 ha3 ha3 (B6 ha3 ha4 ha4 ha4 ha4 ha5 (B6 ha5 ha5 q2 ha5 ha6 ha6 (B6 ha6 ha6 ha7 ha7 (frO 57 v9.1) ha7 (B6 ha7 (frE v10.1) ha7 q3 (yha hv17) ha7 (B6 ha7 ha8 ha8 ha8 ha8 ha9 (B6 ha9 (frO 57 v12.1) ha9 ha9 (frE v13.1) ha9 (B6 q4 (yha hv18) ha9 ha9 ha10 ha10 (B6 ha10 ha10 ha11 ha11 ha11 q5 (B6 ha11 ha12 (frE v2.1) ha12 (ycc hv19) ha12 (B6 ha12 ha12 ha13 ha13 ha13 ha13 (B6 tT tT tT tT tT tT (A2 tT tT)))))))))))))))
  replace hw20 := yna ha13 hw20
  rcases ft v3.2 with ha14 | ha14
  ·replace hw20 := yma ha14 hw20
   rcases ft (!v5.2) with ha15 | ha15
   ·replace hw20 := yma ha15 hw20
    have hw20 := oi hw20
    subst hw20
    exact (r_gq [(5, .box (sP v2.1)), (6, .box (eRt v2.2)), (7, .box (eRt v3.1)), (8, .p (.bool v3.2)), (11, .p (.string v5.1)), (12, .p (.bool v5.2)), (16, .p (.bool v7.2)), (17, .box (eRt v8.1)), (19, .box (oP 57 v9.1)), (20, .p (.bool v9.2)), (28, .box (eRt v14)), (30, .p (.bool v15.2)), (31, .box (eRt v16.1)), (222, .p (.bool true))] [(4, gF), (5, gF), (6, (hB (nR v3.1 v4.1))), (7, bF), (9, gF), (10, gF), (11, gF), (12, bF), (14, gF), (15, gF), (16, gF), (17, bF), (19, gF), (20, gF), (21, gF), (22, bF), (24, gF), (25, gF), (26, (hB (nR v7.1 v8.1))), (27, bF), (29, gF), (30, gF), (31, gF), (32, bF), (34, gF), (35, gF), (36, gF), (37, gFbT), (38, (gC [.d false (sP v9.1), .d false (sP v10.1)] [.p (.bool v17)])), (39, gF), (40, bF), (42, gF), (43, gF), (44, gF), (45, bF), (47, gF), (48, gF), (49, gF), (50, gFbT), (51, (gC [.d false (sP v12.1), .d false (sP v13.1)] [.p (.bool v18)])), (52, gF), (53, bF), (55, gF), (56, gF), (57, gF), (58, bF), (60, gF), (61, gF), (62, (hB (nR v15.1 v16.1))), (63, bF), (65, gFbT), (66, (gN [.p (.bool v19)])), (67, gF), (68, gF), (69, bF), (71, gF), (72, gF), (73, gT), (74, gT), (75, gFbT), (76, bF), (78, gT), (79, gT), (82, gT), (83, bT), (85, gT), (86, gT), (89, gT), (90, bT)] (B6 ha1 ha1 ha1 q1 ha1 ha2 (B6 ha2 ha2 ha2 ha3 ha3 ha3 (B6 ha3 ha4 ha4 ha4 ha4 ha5 (B6 ha5 ha5 q2 ha5 ha6 ha6 (B6 ha6 ha6 ha7 ha7 (frO 57 v9.1) ha7 (B6 ha7 (frE v10.1) ha7 q3 (yha hv17) ha7 (B6 ha7 ha8 ha8 ha8 ha8 ha9 (B6 ha9 (frO 57 v12.1) ha9 ha9 (frE v13.1) ha9 (B6 q4 (yha hv18) ha9 ha9 ha10 ha10 (B6 ha10 ha10 ha11 ha11 ha11 q5 (B6 ha11 ha12 (frE v2.1) ha12 (ycc hv19) ha12 (B6 ha12 ha12 ha13 ha13 ha14 ha14 (B6 ha13 ha14 ha13 ha15 ha15 ha15 (A5 ha15 tT tT tT tT)))))))))))))))
   replace hw20 := yna ha15 hw20
   rcases ft v7.2 with ha16 | ha16
   ·replace hw20 := yma ha16 hw20
    rcases ft v9.2 with ha17 | ha17
    ·replace hw20 := yma ha17 hw20
     have hw20 := oi hw20
     subst hw20
     exact (r_gq [(5, .box (sP v2.1)), (6, .box (eRt v2.2)), (7, .box (eRt v3.1)), (8, .p (.bool v3.2)), (11, .p (.string v5.1)), (12, .p (.bool v5.2)), (16, .p (.bool v7.2)), (17, .box (eRt v8.1)), (19, .box (oP 57 v9.1)), (20, .p (.bool v9.2)), (28, .box (eRt v14)), (30, .p (.bool v15.2)), (31, .box (eRt v16.1)), (222, .p (.bool (!v5.2)))] [(4, gF), (5, gF), (6, (hB (nR v3.1 v4.1))), (7, bF), (9, gF), (10, gF), (11, gF), (12, bF), (14, gF), (15, gF), (16, gF), (17, bF), (19, gF), (20, gF), (21, gF), (22, bF), (24, gF), (25, gF), (26, (hB (nR v7.1 v8.1))), (27, bF), (29, gF), (30, gF), (31, gF), (32, bF), (34, gF), (35, gF), (36, gF), (37, gFbT), (38, (gC [.d false (sP v9.1), .d false (sP v10.1)] [.p (.bool v17)])), (39, gF), (40, bF), (42, gF), (43, gF), (44, gF), (45, bF), (47, gF), (48, gF), (49, gF), (50, gFbT), (51, (gC [.d false (sP v12.1), .d false (sP v13.1)] [.p (.bool v18)])), (52, gF), (53, bF), (55, gF), (56, gF), (57, gF), (58, bF), (60, gF), (61, gF), (62, (hB (nR v15.1 v16.1))), (63, bF), (65, gFbT), (66, (gN [.p (.bool v19)])), (67, gF), (68, gF), (69, bF), (71, gF), (72, gF), (73, gT), (74, gT), (75, gFbT), (76, bF), (78, gF), (79, gF), (80, gT), (81, gT), (82, gFbT), (83, bF), (85, gF), (86, gF), (87, gT), (88, gT), (89, gFbT), (90, bF)] (B6 ha1 ha1 ha1 q1 ha1 ha2 (B6 ha2 ha2 ha2 ha3 ha3 ha3 (B6 ha3 ha4 ha4 ha4 ha4 ha5 (B6 ha5 ha5 q2 ha5 ha6 ha6 (B6 ha6 ha6 ha7 ha7 (frO 57 v9.1) ha7 (B6 ha7 (frE v10.1) ha7 q3 (yha hv17) ha7 (B6 ha7 ha8 ha8 ha8 ha8 ha9 (B6 ha9 (frO 57 v12.1) ha9 ha9 (frE v13.1) ha9 (B6 q4 (yha hv18) ha9 ha9 ha10 ha10 (B6 ha10 ha10 ha11 ha11 ha11 q5 (B6 ha11 ha12 (frE v2.1) ha12 (ycc hv19) ha12 (B6 ha12 ha12 ha13 ha13 ha14 ha14 (B6 ha13 ha14 ha13 ha15 ha15 ha16 (B6 ha16 ha15 ha16 ha15 ha15 ha15 (A5 ha17 ha17 ha15 ha17 ha15))))))))))))))))
    replace hw20 := yna ha17 hw20
    have hw20 := oi hw20
    subst hw20
    exact (r_gq [(5, .box (sP v2.1)), (6, .box (eRt v2.2)), (7, .box (eRt v3.1)), (8, .p (.bool v3.2)), (11, .p (.string v5.1)), (12, .p (.bool v5.2)), (16, .p (.bool v7.2)), (17, .box (eRt v8.1)), (19, .box (oP 57 v9.1)), (20, .p (.bool v9.2)), (28, .box (eRt v14)), (30, .p (.bool v15.2)), (31, .box (eRt v16.1)), (222, .p (.bool false))] [(4, gF), (5, gF), (6, (hB (nR v3.1 v4.1))), (7, bF), (9, gF), (10, gF), (11, gF), (12, bF), (14, gF), (15, gF), (16, gF), (17, bF), (19, gF), (20, gF), (21, gF), (22, bF), (24, gF), (25, gF), (26, (hB (nR v7.1 v8.1))), (27, bF), (29, gF), (30, gF), (31, gF), (32, bF), (34, gF), (35, gF), (36, gF), (37, gFbT), (38, (gC [.d false (sP v9.1), .d false (sP v10.1)] [.p (.bool v17)])), (39, gF), (40, bF), (42, gF), (43, gF), (44, gF), (45, bF), (47, gF), (48, gF), (49, gF), (50, gFbT), (51, (gC [.d false (sP v12.1), .d false (sP v13.1)] [.p (.bool v18)])), (52, gF), (53, bF), (55, gF), (56, gF), (57, gF), (58, bF), (60, gF), (61, gF), (62, (hB (nR v15.1 v16.1))), (63, bF), (65, gFbT), (66, (gN [.p (.bool v19)])), (67, gF), (68, gF), (69, bF), (71, gF), (72, gF), (73, gT), (74, gT), (75, gFbT), (76, bF), (78, gF), (79, gF), (80, gT), (81, gT), (82, gFbT), (83, bF), (85, gF), (86, gF), (87, gF), (88, gF), (89, gFbF), (90, bF)] (B6 ha1 ha1 ha1 q1 ha1 ha2 (B6 ha2 ha2 ha2 ha3 ha3 ha3 (B6 ha3 ha4 ha4 ha4 ha4 ha5 (B6 ha5 ha5 q2 ha5 ha6 ha6 (B6 ha6 ha6 ha7 ha7 (frO 57 v9.1) ha7 (B6 ha7 (frE v10.1) ha7 q3 (yha hv17) ha7 (B6 ha7 ha8 ha8 ha8 ha8 ha9 (B6 ha9 (frO 57 v12.1) ha9 ha9 (frE v13.1) ha9 (B6 q4 (yha hv18) ha9 ha9 ha10 ha10 (B6 ha10 ha10 ha11 ha11 ha11 q5 (B6 ha11 ha12 (frE v2.1) ha12 (ycc hv19) ha12 (B6 ha12 ha12 ha13 ha13 ha14 ha14 (B6 ha13 ha14 ha13 ha15 ha15 ha16 (B6 ha16 ha15 ha16 ha15 ha15 ha15 (A5 ha17 ha17 ha15 ha17 ha15))))))))))))))))
   replace hw20 := yna ha16 hw20
   rcases ft v9.2 with ha17 | ha17
   ·replace hw20 := yma ha17 hw20
    have hw20 := oi hw20
    subst hw20
    exact (r_gq [(5, .box (sP v2.1)), (6, .box (eRt v2.2)), (7, .box (eRt v3.1)), (8, .p (.bool v3.2)), (11, .p (.string v5.1)), (12, .p (.bool v5.2)), (16, .p (.bool v7.2)), (17, .box (eRt v8.1)), (19, .box (oP 57 v9.1)), (20, .p (.bool v9.2)), (28, .box (eRt v14)), (30, .p (.bool v15.2)), (31, .box (eRt v16.1)), (222, .p (.bool (!v5.2)))] [(4, gF), (5, gF), (6, (hB (nR v3.1 v4.1))), (7, bF), (9, gF), (10, gF), (11, gF), (12, bF), (14, gF), (15, gF), (16, gF), (17, bF), (19, gF), (20, gF), (21, gF), (22, bF), (24, gF), (25, gF), (26, (hB (nR v7.1 v8.1))), (27, bF), (29, gF), (30, gF), (31, gF), (32, bF), (34, gF), (35, gF), (36, gF), (37, gFbT), (38, (gC [.d false (sP v9.1), .d false (sP v10.1)] [.p (.bool v17)])), (39, gF), (40, bF), (42, gF), (43, gF), (44, gF), (45, bF), (47, gF), (48, gF), (49, gF), (50, gFbT), (51, (gC [.d false (sP v12.1), .d false (sP v13.1)] [.p (.bool v18)])), (52, gF), (53, bF), (55, gF), (56, gF), (57, gF), (58, bF), (60, gF), (61, gF), (62, (hB (nR v15.1 v16.1))), (63, bF), (65, gFbT), (66, (gN [.p (.bool v19)])), (67, gF), (68, gF), (69, bF), (71, gF), (72, gF), (73, gT), (74, gT), (75, gFbT), (76, bF), (78, gF), (79, gF), (80, gF), (81, gF), (82, gFbF), (83, bF), (85, gF), (86, gF), (87, gT), (88, gT), (89, gFbT), (90, bF)] (B6 ha1 ha1 ha1 q1 ha1 ha2 (B6 ha2 ha2 ha2 ha3 ha3 ha3 (B6 ha3 ha4 ha4 ha4 ha4 ha5 (B6 ha5 ha5 q2 ha5 ha6 ha6 (B6 ha6 ha6 ha7 ha7 (frO 57 v9.1) ha7 (B6 ha7 (frE v10.1) ha7 q3 (yha hv17) ha7 (B6 ha7 ha8 ha8 ha8 ha8 ha9 (B6 ha9 (frO 57 v12.1) ha9 ha9 (frE v13.1) ha9 (B6 q4 (yha hv18) ha9 ha9 ha10 ha10 (B6 ha10 ha10 ha11 ha11 ha11 q5 (B6 ha11 ha12 (frE v2.1) ha12 (ycc hv19) ha12 (B6 ha12 ha12 ha13 ha13 ha14 ha14 (B6 ha13 ha14 ha13 ha15 ha15 ha16 (B6 ha16 ha15 ha16 ha15 fF fF (A5 ha17 ha17 fF ha17 fF))))))))))))))))
   replace hw20 := yna ha17 hw20
   have hw20 := oi hw20
   subst hw20
   exact (r_gq [(5, .box (sP v2.1)), (6, .box (eRt v2.2)), (7, .box (eRt v3.1)), (8, .p (.bool v3.2)), (11, .p (.string v5.1)), (12, .p (.bool v5.2)), (16, .p (.bool v7.2)), (17, .box (eRt v8.1)), (19, .box (oP 57 v9.1)), (20, .p (.bool v9.2)), (28, .box (eRt v14)), (30, .p (.bool v15.2)), (31, .box (eRt v16.1)), (222, .p (.bool false))] [(4, gF), (5, gF), (6, (hB (nR v3.1 v4.1))), (7, bF), (9, gF), (10, gF), (11, gF), (12, bF), (14, gF), (15, gF), (16, gF), (17, bF), (19, gF), (20, gF), (21, gF), (22, bF), (24, gF), (25, gF), (26, (hB (nR v7.1 v8.1))), (27, bF), (29, gF), (30, gF), (31, gF), (32, bF), (34, gF), (35, gF), (36, gF), (37, gFbT), (38, (gC [.d false (sP v9.1), .d false (sP v10.1)] [.p (.bool v17)])), (39, gF), (40, bF), (42, gF), (43, gF), (44, gF), (45, bF), (47, gF), (48, gF), (49, gF), (50, gFbT), (51, (gC [.d false (sP v12.1), .d false (sP v13.1)] [.p (.bool v18)])), (52, gF), (53, bF), (55, gF), (56, gF), (57, gF), (58, bF), (60, gF), (61, gF), (62, (hB (nR v15.1 v16.1))), (63, bF), (65, gFbT), (66, (gN [.p (.bool v19)])), (67, gF), (68, gF), (69, bF), (71, gF), (72, gF), (73, gT), (74, gT), (75, gFbT), (76, bF), (78, gF), (79, gF), (80, gF), (81, gF), (82, gFbF), (83, bF), (85, gF), (86, gF), (87, gF), (88, gF), (89, gFbF), (90, bF)] (B6 ha1 ha1 ha1 q1 ha1 ha2 (B6 ha2 ha2 ha2 ha3 ha3 ha3 (B6 ha3 ha4 ha4 ha4 ha4 ha5 (B6 ha5 ha5 q2 ha5 ha6 ha6 (B6 ha6 ha6 ha7 ha7 (frO 57 v9.1) ha7 (B6 ha7 (frE v10.1) ha7 q3 (yha hv17) ha7 (B6 ha7 ha8 ha8 ha8 ha8 ha9 (B6 ha9 (frO 57 v12.1) ha9 ha9 (frE v13.1) ha9 (B6 q4 (yha hv18) ha9 ha9 ha10 ha10 (B6 ha10 ha10 ha11 ha11 ha11 q5 (B6 ha11 ha12 (frE v2.1) ha12 (ycc hv19) ha12 (B6 ha12 ha12 ha13 ha13 ha14 ha14 (B6 ha13 ha14 ha13 ha15 ha15 ha16 (B6 ha16 ha15 ha16 ha15 fF fF (A5 ha17 ha17 fF ha17 fF))))))))))))))))
  replace hw20 := yna ha14 hw20
  rcases ft v7.2 with ha15 | ha15
  ·replace hw20 := yma ha15 hw20
   rcases ft (!v5.2) with ha16 | ha16
   ·replace hw20 := yma ha16 hw20
    have hw20 := oi hw20
    subst hw20
    exact (r_gq [(5, .box (sP v2.1)), (6, .box (eRt v2.2)), (7, .box (eRt v3.1)), (8, .p (.bool v3.2)), (11, .p (.string v5.1)), (12, .p (.bool v5.2)), (16, .p (.bool v7.2)), (17, .box (eRt v8.1)), (19, .box (oP 57 v9.1)), (20, .p (.bool v9.2)), (28, .box (eRt v14)), (30, .p (.bool v15.2)), (31, .box (eRt v16.1)), (222, .p (.bool true))] [(4, gF), (5, gF), (6, (hB (nR v3.1 v4.1))), (7, bF), (9, gF), (10, gF), (11, gF), (12, bF), (14, gF), (15, gF), (16, gF), (17, bF), (19, gF), (20, gF), (21, gF), (22, bF), (24, gF), (25, gF), (26, (hB (nR v7.1 v8.1))), (27, bF), (29, gF), (30, gF), (31, gF), (32, bF), (34, gF), (35, gF), (36, gF), (37, gFbT), (38, (gC [.d false (sP v9.1), .d false (sP v10.1)] [.p (.bool v17)])), (39, gF), (40, bF), (42, gF), (43, gF), (44, gF), (45, bF), (47, gF), (48, gF), (49, gF), (50, gFbT), (51, (gC [.d false (sP v12.1), .d false (sP v13.1)] [.p (.bool v18)])), (52, gF), (53, bF), (55, gF), (56, gF), (57, gF), (58, bF), (60, gF), (61, gF), (62, (hB (nR v15.1 v16.1))), (63, bF), (65, gFbT), (66, (gN [.p (.bool v19)])), (67, gF), (68, gF), (69, bF), (71, gF), (72, gF), (73, gF), (74, gF), (75, gFbF), (76, bF), (78, gF), (79, gF), (80, gT), (81, gT), (82, gFbT), (83, bF), (85, gT), (86, gT), (89, gT), (90, bT)] (B6 ha1 ha1 ha1 q1 ha1 ha2 (B6 ha2 ha2 ha2 ha3 ha3 ha3 (B6 ha3 ha4 ha4 ha4 ha4 ha5 (B6 ha5 ha5 q2 ha5 ha6 ha6 (B6 ha6 ha6 ha7 ha7 (frO 57 v9.1) ha7 (B6 ha7 (frE v10.1) ha7 q3 (yha hv17) ha7 (B6 ha7 ha8 ha8 ha8 ha8 ha9 (B6 ha9 (frO 57 v12.1) ha9 ha9 (frE v13.1) ha9 (B6 q4 (yha hv18) ha9 ha9 ha10 ha10 (B6 ha10 ha10 ha11 ha11 ha11 q5 (B6 ha11 ha12 (frE v2.1) ha12 (ycc hv19) ha12 (B6 ha12 ha12 ha13 ha13 ha14 ha14 (B6 ha13 ha14 ha13 fF fF ha15 (B6 ha15 fF ha15 fF ha16 ha16 (A2 ha16 ha16))))))))))))))))
   replace hw20 := yna ha16 hw20
   rcases ft v9.2 with ha17 | ha17
   ·replace hw20 := yma ha17 hw20
    have hw20 := oi hw20
    subst hw20
    exact (r_gq [(5, .box (sP v2.1)), (6, .box (eRt v2.2)), (7, .box (eRt v3.1)), (8, .p (.bool v3.2)), (11, .p (.string v5.1)), (12, .p (.bool v5.2)), (16, .p (.bool v7.2)), (17, .box (eRt v8.1)), (19, .box (oP 57 v9.1)), (20, .p (.bool v9.2)), (28, .box (eRt v14)), (30, .p (.bool v15.2)), (31, .box (eRt v16.1)), (222, .p (.bool (!v5.2)))] [(4, gF), (5, gF), (6, (hB (nR v3.1 v4.1))), (7, bF), (9, gF), (10, gF), (11, gF), (12, bF), (14, gF), (15, gF), (16, gF), (17, bF), (19, gF), (20, gF), (21, gF), (22, bF), (24, gF), (25, gF), (26, (hB (nR v7.1 v8.1))), (27, bF), (29, gF), (30, gF), (31, gF), (32, bF), (34, gF), (35, gF), (36, gF), (37, gFbT), (38, (gC [.d false (sP v9.1), .d false (sP v10.1)] [.p (.bool v17)])), (39, gF), (40, bF), (42, gF), (43, gF), (44, gF), (45, bF), (47, gF), (48, gF), (49, gF), (50, gFbT), (51, (gC [.d false (sP v12.1), .d false (sP v13.1)] [.p (.bool v18)])), (52, gF), (53, bF), (55, gF), (56, gF), (57, gF), (58, bF), (60, gF), (61, gF), (62, (hB (nR v15.1 v16.1))), (63, bF), (65, gFbT), (66, (gN [.p (.bool v19)])), (67, gF), (68, gF), (69, bF), (71, gF), (72, gF), (73, gF), (74, gF), (75, gFbF), (76, bF), (78, gF), (79, gF), (80, gT), (81, gT), (82, gFbT), (83, bF), (85, gF), (86, gF), (87, gT), (88, gT), (89, gFbT), (90, bF)] (B6 ha1 ha1 ha1 q1 ha1 ha2 (B6 ha2 ha2 ha2 ha3 ha3 ha3 (B6 ha3 ha4 ha4 ha4 ha4 ha5 (B6 ha5 ha5 q2 ha5 ha6 ha6 (B6 ha6 ha6 ha7 ha7 (frO 57 v9.1) ha7 (B6 ha7 (frE v10.1) ha7 q3 (yha hv17) ha7 (B6 ha7 ha8 ha8 ha8 ha8 ha9 (B6 ha9 (frO 57 v12.1) ha9 ha9 (frE v13.1) ha9 (B6 q4 (yha hv18) ha9 ha9 ha10 ha10 (B6 ha10 ha10 ha11 ha11 ha11 q5 (B6 ha11 ha12 (frE v2.1) ha12 (ycc hv19) ha12 (B6 ha12 ha12 ha13 ha13 ha14 ha14 (B6 ha13 ha14 ha13 fF fF ha15 (B6 ha15 fF ha15 fF ha16 ha16 (A5 ha17 ha17 ha16 ha17 ha16))))))))))))))))
   replace hw20 := yna ha17 hw20
   have hw20 := oi hw20
   subst hw20
   exact (r_gq [(5, .box (sP v2.1)), (6, .box (eRt v2.2)), (7, .box (eRt v3.1)), (8, .p (.bool v3.2)), (11, .p (.string v5.1)), (12, .p (.bool v5.2)), (16, .p (.bool v7.2)), (17, .box (eRt v8.1)), (19, .box (oP 57 v9.1)), (20, .p (.bool v9.2)), (28, .box (eRt v14)), (30, .p (.bool v15.2)), (31, .box (eRt v16.1)), (222, .p (.bool false))] [(4, gF), (5, gF), (6, (hB (nR v3.1 v4.1))), (7, bF), (9, gF), (10, gF), (11, gF), (12, bF), (14, gF), (15, gF), (16, gF), (17, bF), (19, gF), (20, gF), (21, gF), (22, bF), (24, gF), (25, gF), (26, (hB (nR v7.1 v8.1))), (27, bF), (29, gF), (30, gF), (31, gF), (32, bF), (34, gF), (35, gF), (36, gF), (37, gFbT), (38, (gC [.d false (sP v9.1), .d false (sP v10.1)] [.p (.bool v17)])), (39, gF), (40, bF), (42, gF), (43, gF), (44, gF), (45, bF), (47, gF), (48, gF), (49, gF), (50, gFbT), (51, (gC [.d false (sP v12.1), .d false (sP v13.1)] [.p (.bool v18)])), (52, gF), (53, bF), (55, gF), (56, gF), (57, gF), (58, bF), (60, gF), (61, gF), (62, (hB (nR v15.1 v16.1))), (63, bF), (65, gFbT), (66, (gN [.p (.bool v19)])), (67, gF), (68, gF), (69, bF), (71, gF), (72, gF), (73, gF), (74, gF), (75, gFbF), (76, bF), (78, gF), (79, gF), (80, gT), (81, gT), (82, gFbT), (83, bF), (85, gF), (86, gF), (87, gF), (88, gF), (89, gFbF), (90, bF)] (B6 ha1 ha1 ha1 q1 ha1 ha2 (B6 ha2 ha2 ha2 ha3 ha3 ha3 (B6 ha3 ha4 ha4 ha4 ha4 ha5 (B6 ha5 ha5 q2 ha5 ha6 ha6 (B6 ha6 ha6 ha7 ha7 (frO 57 v9.1) ha7 (B6 ha7 (frE v10.1) ha7 q3 (yha hv17) ha7 (B6 ha7 ha8 ha8 ha8 ha8 ha9 (B6 ha9 (frO 57 v12.1) ha9 ha9 (frE v13.1) ha9 (B6 q4 (yha hv18) ha9 ha9 ha10 ha10 (B6 ha10 ha10 ha11 ha11 ha11 q5 (B6 ha11 ha12 (frE v2.1) ha12 (ycc hv19) ha12 (B6 ha12 ha12 ha13 ha13 ha14 ha14 (B6 ha13 ha14 ha13 fF fF ha15 (B6 ha15 fF ha15 fF ha16 ha16 (A5 ha17 ha17 ha16 ha17 ha16))))))))))))))))
  replace hw20 := yna ha15 hw20
  rcases ft v9.2 with ha16 | ha16
  ·replace hw20 := yma ha16 hw20
   have hw20 := oi hw20
   subst hw20
   exact (r_gq [(5, .box (sP v2.1)), (6, .box (eRt v2.2)), (7, .box (eRt v3.1)), (8, .p (.bool v3.2)), (11, .p (.string v5.1)), (12, .p (.bool v5.2)), (16, .p (.bool v7.2)), (17, .box (eRt v8.1)), (19, .box (oP 57 v9.1)), (20, .p (.bool v9.2)), (28, .box (eRt v14)), (30, .p (.bool v15.2)), (31, .box (eRt v16.1)), (222, .p (.bool (!v5.2)))] [(4, gF), (5, gF), (6, (hB (nR v3.1 v4.1))), (7, bF), (9, gF), (10, gF), (11, gF), (12, bF), (14, gF), (15, gF), (16, gF), (17, bF), (19, gF), (20, gF), (21, gF), (22, bF), (24, gF), (25, gF), (26, (hB (nR v7.1 v8.1))), (27, bF), (29, gF), (30, gF), (31, gF), (32, bF), (34, gF), (35, gF), (36, gF), (37, gFbT), (38, (gC [.d false (sP v9.1), .d false (sP v10.1)] [.p (.bool v17)])), (39, gF), (40, bF), (42, gF), (43, gF), (44, gF), (45, bF), (47, gF), (48, gF), (49, gF), (50, gFbT), (51, (gC [.d false (sP v12.1), .d false (sP v13.1)] [.p (.bool v18)])), (52, gF), (53, bF), (55, gF), (56, gF), (57, gF), (58, bF), (60, gF), (61, gF), (62, (hB (nR v15.1 v16.1))), (63, bF), (65, gFbT), (66, (gN [.p (.bool v19)])), (67, gF), (68, gF), (69, bF), (71, gF), (72, gF), (73, gF), (74, gF), (75, gFbF), (76, bF), (78, gF), (79, gF), (80, gF), (81, gF), (82, gFbF), (83, bF), (85, gF), (86, gF), (87, gT), (88, gT), (89, gFbT), (90, bF)] (B6 ha1 ha1 ha1 q1 ha1 ha2 (B6 ha2 ha2 ha2 ha3 ha3 ha3 (B6 ha3 ha4 ha4 ha4 ha4 ha5 (B6 ha5 ha5 q2 ha5 ha6 ha6 (B6 ha6 ha6 ha7 ha7 (frO 57 v9.1) ha7 (B6 ha7 (frE v10.1) ha7 q3 (yha hv17) ha7 (B6 ha7 ha8 ha8 ha8 ha8 ha9 (B6 ha9 (frO 57 v12.1) ha9 ha9 (frE v13.1) ha9 (B6 q4 (yha hv18) ha9 ha9 ha10 ha10 (B6 ha10 ha10 ha11 ha11 ha11 q5 (B6 ha11 ha12 (frE v2.1) ha12 (ycc hv19) ha12 (B6 ha12 ha12 ha13 ha13 ha14 ha14 (B6 ha13 ha14 ha13 fF fF ha15 (B6 ha15 fF ha15 fF fF fF (A5 ha16 ha16 fF ha16 fF))))))))))))))))
  replace hw20 := yna ha16 hw20
  have hw20 := oi hw20
  subst hw20
  exact (r_gq [(5, .box (sP v2.1)), (6, .box (eRt v2.2)), (7, .box (eRt v3.1)), (8, .p (.bool v3.2)), (11, .p (.string v5.1)), (12, .p (.bool v5.2)), (16, .p (.bool v7.2)), (17, .box (eRt v8.1)), (19, .box (oP 57 v9.1)), (20, .p (.bool v9.2)), (28, .box (eRt v14)), (30, .p (.bool v15.2)), (31, .box (eRt v16.1)), (222, .p (.bool false))] [(4, gF), (5, gF), (6, (hB (nR v3.1 v4.1))), (7, bF), (9, gF), (10, gF), (11, gF), (12, bF), (14, gF), (15, gF), (16, gF), (17, bF), (19, gF), (20, gF), (21, gF), (22, bF), (24, gF), (25, gF), (26, (hB (nR v7.1 v8.1))), (27, bF), (29, gF), (30, gF), (31, gF), (32, bF), (34, gF), (35, gF), (36, gF), (37, gFbT), (38, (gC [.d false (sP v9.1), .d false (sP v10.1)] [.p (.bool v17)])), (39, gF), (40, bF), (42, gF), (43, gF), (44, gF), (45, bF), (47, gF), (48, gF), (49, gF), (50, gFbT), (51, (gC [.d false (sP v12.1), .d false (sP v13.1)] [.p (.bool v18)])), (52, gF), (53, bF), (55, gF), (56, gF), (57, gF), (58, bF), (60, gF), (61, gF), (62, (hB (nR v15.1 v16.1))), (63, bF), (65, gFbT), (66, (gN [.p (.bool v19)])), (67, gF), (68, gF), (69, bF), (71, gF), (72, gF), (73, gF), (74, gF), (75, gFbF), (76, bF), (78, gF), (79, gF), (80, gF), (81, gF), (82, gFbF), (83, bF), (85, gF), (86, gF), (87, gF), (88, gF), (89, gFbF), (90, bF)] (B6 ha1 ha1 ha1 q1 ha1 ha2 (B6 ha2 ha2 ha2 ha3 ha3 ha3 (B6 ha3 ha4 ha4 ha4 ha4 ha5 (B6 ha5 ha5 q2 ha5 ha6 ha6 (B6 ha6 ha6 ha7 ha7 (frO 57 v9.1) ha7 (B6 ha7 (frE v10.1) ha7 q3 (yha hv17) ha7 (B6 ha7 ha8 ha8 ha8 ha8 ha9 (B6 ha9 (frO 57 v12.1) ha9 ha9 (frE v13.1) ha9 (B6 q4 (yha hv18) ha9 ha9 ha10 ha10 (B6 ha10 ha10 ha11 ha11 ha11 q5 (B6 ha11 ha12 (frE v2.1) ha12 (ycc hv19) ha12 (B6 ha12 ha12 ha13 ha13 ha14 ha14 (B6 ha13 ha14 ha13 fF fF ha15 (B6 ha15 fF ha15 fF fF fF (A5 ha16 ha16 fF ha16 fF))))))))))))))))
 refine kc w20 (fun hc2_20 => ?_) (fun hc2_20 => ?_)
 ·replace h := yma hc2_20 h
  refine kG [(4, .p (.bool false))] [] trivial ?_
  refine yva (q_r ?_)
  obtain rfl := oi h
  exact er [(.p (.bool false), 4)]
 replace h := yna hc2_20 h
 refine yja (q_n (yqb (yya (l1 := [(5, .box (sP v2.1)), (6, .box (eRt v2.2)), (7, .box (eRt v3.1)), (8, .p (.bool v3.2)), (11, .p (.string v5.1)), (12, .p (.bool v5.2)), (16, .p (.bool v7.2)), (17, .box (eRt v8.1)), (19, .box (oP 57 v9.1)), (20, .p (.bool v9.2)), (242, .p (.bool (v15.2 && ((decide (v16.1.1 < 0)) || ((decide (v16.1.1 ≥ v16.1.2)) || (v16.1.2 != v14.2))))))]) ?_ ?_)))
 ·rcases ft v15.2 with ha2 | ha2
  ·rcases ft (decide (v16.1.1 < 0)) with ha3 | ha3
   ·exact RegOk.of_eq (l2 := [(5, .box (sP v2.1)), (6, .box (eRt v2.2)), (7, .box (eRt v3.1)), (8, .p (.bool v3.2)), (11, .p (.string v5.1)), (12, .p (.bool v5.2)), (16, .p (.bool v7.2)), (17, .box (eRt v8.1)), (19, .box (oP 57 v9.1)), (20, .p (.bool v9.2)), (242, .p (.bool (v15.2 && ((decide (v16.1.1 < 0)) || ((decide (v16.1.1 ≥ v16.1.2)) || (v16.1.2 != v14.2))))))]) (r_gq [(5, .box (sP v2.1)), (6, .box (eRt v2.2)), (7, .box (eRt v3.1)), (8, .p (.bool v3.2)), (11, .p (.string v5.1)), (12, .p (.bool v5.2)), (16, .p (.bool v7.2)), (17, .box (eRt v8.1)), (19, .box (oP 57 v9.1)), (20, .p (.bool v9.2)), (242, .p (.bool true))] [(2, gT), (3, gT), (4, gT), (5, gT), (6, gT), (7, gT), (8, gT), (9, gT), (10, gT), (11, {g := some true, b := some true}), (12, gT), (13, gT), (14, gT), (15, gT), (16, gT), (17, gT), (18, {g := some true, b := some true}), (19, bT)] (B6 ha2 ha2 ha2 ha2 ha3 ha3 (B6 ha3 ha3 ha3 ha2 ha3 ha2 (B6 tT tT tT tT tT ha2 (A2 tT ha2))))) (by simp [ha2, ha3])
   rcases ft (decide (v16.1.1 ≥ v16.1.2)) with ha4 | ha4
   ·exact RegOk.of_eq (l2 := [(5, .box (sP v2.1)), (6, .box (eRt v2.2)), (7, .box (eRt v3.1)), (8, .p (.bool v3.2)), (11, .p (.string v5.1)), (12, .p (.bool v5.2)), (16, .p (.bool v7.2)), (17, .box (eRt v8.1)), (19, .box (oP 57 v9.1)), (20, .p (.bool v9.2)), (242, .p (.bool (v15.2 && ((decide (v16.1.1 < 0)) || ((decide (v16.1.1 ≥ v16.1.2)) || (v16.1.2 != v14.2))))))]) (r_gq [(5, .box (sP v2.1)), (6, .box (eRt v2.2)), (7, .box (eRt v3.1)), (8, .p (.bool v3.2)), (11, .p (.string v5.1)), (12, .p (.bool v5.2)), (16, .p (.bool v7.2)), (17, .box (eRt v8.1)), (19, .box (oP 57 v9.1)), (20, .p (.bool v9.2)), (242, .p (.bool true))] [(2, gT), (3, gT), (4, gT), (5, gT), (6, gF), (7, gF), (8, gF), (9, gF), (10, gF), (11, {g := some true, b := some false}), (12, gT), (13, gT), (14, gT), (15, gT), (16, gT), (17, gT), (18, {g := some true, b := some true}), (19, bT)] (B6 ha2 ha2 ha2 ha2 ha3 ha3 (B6 ha3 ha3 ha3 ha2 ha3 ha2 (B6 ha4 ha4 ha4 ha4 ha4 ha2 (A2 ha4 ha2))))) (by (try rw [ha2]); (try rw [ha3]); (try rw [ha4]); all_goals (first | rfl | simp [ha2, ha3, ha4]))
   exact RegOk.of_eq (l2 := [(5, .box (sP v2.1)), (6, .box (eRt v2.2)), (7, .box (eRt v3.1)), (8, .p (.bool v3.2)), (11, .p (.string v5.1)), (12, .p (.bool v5.2)), (16, .p (.bool v7.2)), (17, .box (eRt v8.1)), (19, .box (oP 57 v9.1)), (20, .p (.bool v9.2)), (242, .p (.bool (v15.2 && ((decide (v16.1.1 < 0)) || ((decide (v16.1.1 ≥ v16.1.2)) || (v16.1.2 != v14.2))))))]) (r_gq [(5, .box (sP v2.1)), (6, .box (eRt v2.2)), (7, .box (eRt v3.1)), (8, .p (.bool v3.2)), (11, .p (.string v5.1)), (12, .p (.bool v5.2)), (16, .p (.bool v7.2)), (17, .box (eRt v8.1)), (19, .box (oP 57 v9.1)), (20, .p (.bool v9.2)), (242, .p (.bool (v16.1.2 != v14.2)))] [(2, gT), (3, gT), (4, gT), (5, gT), (6, gF), (7, gF), (8, gF), (9, gF), (10, gF), (11, {g := some true, b := some false}), (12, gT), (13, gF), (14, gF), (15, gF), (16, gF), (17, gF), (18, {g := some true, b := some false}), (19, bT)] (B6 ha2 ha2 ha2 ha2 ha3 ha3 (B6 ha3 ha3 ha3 ha2 ha3 ha2 (B6 ha4 ha4 ha4 ha4 ha4 ha2 (A2 ha4 ha2))))) (by (try rw [ha2]); (try rw [ha3]); (try rw [ha4]); all_goals (first | rfl | simp [ha2, ha3, ha4]))
  exact RegOk.of_eq (l2 := [(5, .box (sP v2.1)), (6, .box (eRt v2.2)), (7, .box (eRt v3.1)), (8, .p (.bool v3.2)), (11, .p (.string v5.1)), (12, .p (.bool v5.2)), (16, .p (.bool v7.2)), (17, .box (eRt v8.1)), (19, .box (oP 57 v9.1)), (20, .p (.bool v9.2)), (242, .p (.bool (v15.2 && ((decide (v16.1.1 < 0)) || ((decide (v16.1.1 ≥ v16.1.2)) || (v16.1.2 != v14.2))))))]) (r_gq [(5, .box (sP v2.1)), (6, .box (eRt v2.2)), (7, .box (eRt v3.1)), (8, .p (.bool v3.2)), (11, .p (.string v5.1)), (12, .p (.bool v5.2)), (16, .p (.bool v7.2)), (17, .box (eRt v8.1)), (19, .box (oP 57 v9.1)), (20, .p (.bool v9.2)), (242, .p (.bool false))] [(2, gF), (3, gF), (4, gF), (5, gF), (11, gF), (12, gF), (18, gF), (19, bF)] (B6 ha2 ha2 ha2 ha2 ha2 ha2 (A2 ha2 ha2))) (by simp [ha2])
 refine kc (v15.2 && ((decide (v16.1.1 < 0)) || ((decide (v16.1.1 ≥ v16.1.2)) || (v16.1.2 != v14.2)))) (fun hc2_21 => ?_) (fun hc2_21 => ?_)
 ·replace h := yma hc2_21 h
  refine kG [(4, .p (.bool false))] [] trivial ?_
  refine yva (q_r ?_)
  obtain rfl := oi h
  exact er [(.p (.bool false), 4)]
 replace h := yna hc2_21 h
 refine yja (q_n (yhd (J := fun (x : Unit) => [(5, .box (sP v2.1)), (6, .box (eRt v2.2)), (7, .box (eRt v3.1)), (8, .p (.bool v3.2)), (11, .p (.string v5.1)), (12, .p (.bool v5.2)), (19, .box (oP 57 v9.1)), (20, .p (.bool v9.2))]) (K := fun x => laws_FnLifts_k1 v2 v3 v5 v9 x = some r) (fun x23 h => ?_) ?_))
 ·unfold laws_FnLifts_k1 at h
  refine yhd (J := fun (x : Unit) => [(5, .box (sP v2.1)), (6, .box (eRt v2.2)), (7, .box (eRt v3.1)), (8, .p (.bool v3.2)), (11, .p (.string v5.1)), (12, .p (.bool v5.2))]) (K := fun x => laws_FnLifts_k2 v2 v3 v5 x = some r) (fun x24 h => ?_) ?_
  ·unfold laws_FnLifts_k2 at h
   refine yhd (J := fun (x : Unit) => [(5, .box (sP v2.1)), (11, .p (.string v5.1)), (12, .p (.bool v5.2))]) (K := fun x => laws_FnLifts_k3 v2 v5 x = some r) (fun x25 h => ?_) ?_
   ·unfold laws_FnLifts_k3 at h
    refine yqb (kG [(5, .box (sP v2.1)), (11, .p (.string v5.1)), (327, .p (.bool (!v5.2)))] [] trivial ?_)
    refine kc (!v5.2) (fun hc2_25 => ?_) (fun hc2_25 => ?_)
    ·replace h := yma hc2_25 h
     refine kG [(4, .p (.bool true))] [] trivial ?_
     refine yva (q_r ?_)
     obtain rfl := oi h
     exact er [(.p (.bool true), 4)]
    replace h := yna hc2_25 h
    refine yja (q_n ?_)
    obtain ⟨v27, hv27, h⟩ := bs h
    refine kG [(5, .box (sP v2.1)), (39, .box (oP 57 v27.1)), (40, .p (.bool v27.2))] [(1, (cN [.ov true (oP 57 v27.1), .p (.bool v27.2)]))] (A2 (yko hv27) (show List.all [.ov true (oP 57 v27.1), .p (.bool v27.2)] simpleR = true from (sa_o (wnR1 (yzm (wn_P (wn_P wn_I wn_I) (wn_P wn_I wn_I))) rfl) (sa_p rfl)))) ?_
    obtain ⟨v28, hv28, h⟩ := bs h
    refine kG [(5, .box (sP v2.1)), (39, .box (oP 57 v27.1)), (40, .p (.bool v27.2)), (41, .box (eRt v28.1)), (42, .box (eRt v28.2.1)), (43, .p (.bool v28.2.2))] [(0, bT), (1, (cN [.p (vRt v28.1), .p (vRt v28.2.1), .p (.bool v28.2.2)]))] (A2 (frE v2.1) (yjq hv28)) ?_
    obtain ⟨v29, hv29, h⟩ := bs h
    refine kG [(5, .box (sP v2.1)), (39, .box (oP 57 v27.1)), (40, .p (.bool v27.2)), (41, .box (eRt v28.1)), (42, .box (eRt v28.2.1)), (43, .p (.bool v28.2.2)), (44, .box (eRt v29.1)), (45, .box (eRt v29.2.1)), (46, .p (.bool v29.2.2))] [(0, bT), (1, (cN [.p (vRt v29.1), .p (vRt v29.2.1), .p (.bool v29.2.2)]))] (A2 (frE v2.1) (ykq hv29)) ?_
    refine yqb ?_
    obtain ⟨w32, hw32, h⟩ := bs h
    refine yya (l1 := [(5, .box (sP v2.1)), (378, .p (.bool w32))]) ?_ ?_
    ·clear h
     rcases ft (!v27.2) with ha4 | ha4
     ·replace hw32 := yma ha4 hw32
      have hw32 := oi hw32
      subst hw32
      exact (r_gq [(5, .box (sP v2.1)), (378, .p (.bool true))] [(3, gT), (4, gT), (5, gT), (6, gT), (7, gT), (8, gT), (9, bT), (11, gT), (12, gT), (13, bT), (15, gT), (16, gT), (17, bT), (19, gT), (20, gT), (21, gT), (22, bT), (24, gT), (25, gT), (26, gT), (27, bT), (29, gT), (30, gT), (31, gT), (32, gT), (33, bT)] (B6 ha4 ha4 ha4 ha4 ha4 ha4 (B6 ha4 tT tT tT tT tT (B6 tT tT tT tT tT tT (B6 tT tT tT tT tT tT (A2 tT tT))))))
     obtain ⟨v30, hv30, hw32⟩ := bs (yna ha4 hw32)
     rcases ft (!v30) with ha5 | ha5
     ·replace hw32 := yma ha5 hw32
      have hw32 := oi hw32
      subst hw32
      exact (r_gq [(5, .box (sP v2.1)), (378, .p (.bool true))] [(3, gF), (4, gF), (5, gF), (6, gFbT), (7, (gC [.d false (sP v27.1), .d false (sP v2.1)] [.p (.bool v30)])), (8, gF), (9, bF), (11, gT), (12, gT), (13, bT), (15, gT), (16, gT), (17, bT), (19, gT), (20, gT), (21, gT), (22, bT), (24, gT), (25, gT), (26, gT), (27, bT), (29, gT), (30, gT), (31, gT), (32, gT), (33, bT)] (B6 ha4 ha4 (frO 57 v27.1) ha4 ha4 (frE v2.1) (B6 ha4 (show ([.d false [.sl none (eraL (v27.1.map ePt))], .d false (sP v2.1)] : List Arg) = [.d false (sP v27.1), .d false (sP v2.1)] from (by simp only [erPt])) (yha hv30) ha4 ha4 ha5 (B6 ha5 ha5 tT tT tT tT (B6 tT tT tT tT tT tT (A6 tT tT tT tT tT tT))))))
     replace hw32 := yna ha5 hw32
     rcases ft (!v28.2.2) with ha6 | ha6
     ·replace hw32 := yma ha6 hw32
      have hw32 := oi hw32
      subst hw32
      exact (r_gq [(5, .box (sP v2.1)), (378, .p (.bool true))] [(3, gF), (4, gF), (5, gF), (6, gFbT), (7, (gC [.d false (sP v27.1), .d false (sP v2.1)] [.p (.bool v30)])), (8, gF), (9, bF), (11, gF), (12, gF), (13, bF), (15, gT), (16, gT), (17, bT), (19, gT), (20, gT), (21, gT), (22, bT), (24, gT), (25, gT), (26, gT), (27, bT), (29, gT), (30, gT), (31, gT), (32, gT), (33, bT)] (B6 ha4 ha4 (frO 57 v27.1) ha4 ha4 (frE v2.1) (B6 ha4 (show ([.d false [.sl none (eraL (v27.1.map ePt))], .d false (sP v2.1)] : List Arg) = [.d false (sP v27.1), .d false (sP v2.1)] from (by simp only [erPt])) (yha hv30) ha4 ha4 ha5 (B6 ha5 ha5 ha6 ha6 ha6 tT (B6 tT tT tT tT tT tT (A6 tT tT tT tT tT tT))))))
     replace hw32 := yna ha6 hw32
     rcases ft (!v29.2.2) with ha7 | ha7
     ·replace hw32 := yma ha7 hw32
      have hw32 := oi hw32
      subst hw32
      exact (r_gq [(5, .box (sP v2.1)), (378, .p (.bool true))] [(3, gF), (4, gF), (5, gF), (6, gFbT), (7, (gC [.d false (sP v27.1), .d false (sP v2.1)] [.p (.bool v30)])), (8, gF), (9, bF), (11, gF), (12, gF), (13, bF), (15, gF), (16, gF), (17, bF), (19, gT), (20, gT), (21, gT), (22, bT), (24, gT), (25, gT), (26, gT), (27, bT), (29, gT), (30, gT), (31, gT), (32, gT), (33, bT)] (B6 ha4 ha4 (frO 57 v27.1) ha4 ha4 (frE v2.1) (B6 ha4 (show ([.d false [.sl none (eraL (v27.1.map ePt))], .d false (sP v2.1)] : List Arg) = [.d false (sP v27.1), .d false (sP v2.1)] from (by simp only [erPt])) (yha hv30) ha4 ha4 ha5 (B6 ha5 ha5 ha6 ha6 ha6 ha7 (B6 ha7 ha7 ha7 tT tT tT (A6 tT tT tT tT tT tT))))))
     replace hw32 := yna ha7 hw32
     rcases ft (nR v28.1 v29.1) with ha8 | ha8
     ·replace hw32 := yma ha8 hw32
      have hw32 := oi hw32
      subst hw32
      exact (r_gq [(5, .box (sP v2.1)), (378, .p (.bool true))] [(3, gF), (4, gF), (5, gF), (6, gFbT), (7, (gC [.d false (sP v27.1), .d false (sP v2.1)] [.p (.bool v30)])), (8, gF), (9, bF), (11, gF), (12, gF), (13, bF), (15, gF), (16, gF), (17, bF), (19, gF), (20, gF), (21, (hB (nR v28.1 v29.1))), (22, bF), (24, gT), (25, gT), (26, gT), (27, bT), (29, gT), (30, gT), (31, gT), (32, gT), (33, bT)] (B6 ha4 ha4 (frO 57 v27.1) ha4 ha4 (frE v2.1) (B6 ha4 (show ([.d false [.sl none (eraL (v27.1.map ePt))], .d false (sP v2.1)] : List Arg) = [.d false (sP v27.1), .d false (sP v2.1)] from (by simp only [erPt])) (yha hv30) ha4 ha4 ha5 (B6 ha5 ha5 ha6 ha6 ha6 ha7 (B6 ha7 ha7 (show PureAt Tryz.prog (.binOp .neq 27 (.tmp 364) (.tmp 365) 27) [vRt v28.1, vRt v29.1] (.bool (nR v28.1 v29.1)) from (ygi (by kernel_rfl))) ha7 ha8 ha8 (B6 ha8 ha8 tT tT tT tT (A1 tT)))))))
     replace hw32 := yna ha8 hw32
     rcases ft (nR v28.2.1 v29.2.1) with ha9 | ha9
     ·replace hw32 := yma ha9 hw32
      have hw32 := oi hw32
      subst hw32
      exact (r_gq [(5, .box (sP v2.1)), (378, .p (.bool true))] [(3, gF), (4, gF), (5, gF), (6, gFbT), (7, (gC [.d false (sP v27.1), .d false (sP v2.1)] [.p (.bool v30)])), (8, gF), (9, bF), (11, gF), (12, gF), (13, bF), (15, gF), (16, gF), (17, bF), (19, gF), (20, gF), (21, (hB (nR v28.1 v29.1))), (22, bF), (24, gF), (25, gF), (26, (hB (nR v28.2.1 v29.2.1))), (27, bF), (29, gT), (30, gT), (31, gT), (32, gT), (33, bT)] (B6 ha4 ha4 (frO 57 v27.1) ha4 ha4 (frE v2.1) (B6 ha4 (show ([.d false [.sl none (eraL (v27.1.map ePt))], .d false (sP v2.1)] : List Arg) = [.d false (sP v27.1), .d false (sP v2.1)] from (by simp only [erPt])) (yha hv30) ha4 ha4 ha5 (B6 ha5 ha5 ha6 ha6 ha6 ha7 (B6 ha7 ha7 (show PureAt Tryz.prog (.binOp .neq 27 (.tmp 364) (.tmp 365) 27) [vRt v28.1, vRt v29.1] (.bool (nR v28.1 v29.1)) from (ygi (by kernel_rfl))) ha7 ha8 ha8 (B6 ha8 (show PureAt Tryz.prog (.binOp .neq 27 (.tmp 369) (.tmp 370) 27) [vRt v28.2.1, vRt v29.2.1] (.bool (nR v28.2.1 v29.2.1)) from (ygi (by kernel_rfl))) ha8 ha9 ha9 ha9 (A2 ha9 ha9)))))))
     obtain ⟨v31, hv31, hw32⟩ := bs (yna ha9 hw32)
     have hw32 := oi hw32
     subst hw32
     exact (r_gq [(5, .box (sP v2.1)), (378, .p (.bool (decide (v31 > 0))))] [(3, gF), (4, gF), (5, gF), (6, gFbT), (7, (gC [.d false (sP v27.1), .d false (sP v2.1)] [.p (.bool v30)])), (8, gF), (9, bF), (11, gF), (12, gF), (13, bF), (15, gF), (16, gF), (17, bF), (19, gF), (20, gF), (21, (hB (nR v28.1 v29.1))), (22, bF), (24, gF), (25, gF), (26, (hB (nR v28.2.1 v29.2.1))), (27, bF), (29, gF), (30, gF), (31, (gN [.p (iV v31)])), (32, gF), (33, bF)] (B6 ha4 ha4 (frO 57 v27.1) ha4 ha4 (frE v2.1) (B6 ha4 (show ([.d false [.sl none (eraL (v27.1.map ePt))], .d false (sP v2.1)] : List Arg) = [.d false (sP v27.1), .d false (sP v2.1)] from (by simp only [erPt])) (yha hv30) ha4 ha4 ha5 (B6 ha5 ha5 ha6 ha6 ha6 ha7 (B6 ha7 ha7 (show PureAt Tryz.prog (.binOp .neq 27 (.tmp 364) (.tmp 365) 27) [vRt v28.1, vRt v29.1] (.bool (nR v28.1 v29.1)) from (ygi (by kernel_rfl))) ha7 ha8 ha8 (B6 ha8 (show PureAt Tryz.prog (.binOp .neq 27 (.tmp 369) (.tmp 370) 27) [vRt v28.2.1, vRt v29.2.1] (.bool (nR v28.2.1 v29.2.1)) from (ygi (by kernel_rfl))) ha8 ha9 ha9 ha9 (A3 (yee1 hv31) ha9 ha9)))))))
    refine kc w32 (fun hc2_32 => ?_) (fun hc2_32 => ?_)
    ·replace h := yma hc2_32 h
     refine kG [(4, .p (.bool false))] [] trivial ?_
     refine yva (q_r ?_)
     obtain rfl := oi h
     exact er [(.p (.bool false), 4)]
    replace h := yna hc2_32 h
    refine yja (q_n ?_)
    obtain ⟨v34, hv34, h⟩ := bs h
    refine kG [(5, .box (sP v2.1)), (47, .ov false (oP 86 v34.1)), (48, .p (.bool v34.2))] [(0, bT), (1, (cN [.ov false (oP 86 v34.1), .p (.bool v34.2)]))] (A3 (frE v2.1) (yfn hv34) (show List.all [.ov false (oP 86 v34.1), .p (.bool v34.2)] simpleR = true from (sa_o (wnR1 (yzm (wn_P (wn_P wn_I wn_I) (wn_P wn_I wn_I))) rfl) (sa_p rfl)))) ?_
    obtain ⟨v35, hv35, h⟩ := bs h
    refine kG [(5, .box (sP v2.1)), (47, .ov false (oP 86 v34.1)), (48, .p (.bool v34.2)), (49, .ov false (oP 86 v35.1)), (50, .p (.bool v35.2))] [(0, bT), (1, (cN [.ov false (oP 86 v35.1), .p (.bool v35.2)]))] (A3 (frE v2.1) (yot hv35) (show List.all [.ov false (oP 86 v35.1), .p (.bool v35.2)] simpleR = true from (sa_o (wnR1 (yzm (wn_P (wn_P wn_I wn_I) (wn_P wn_I wn_I))) rfl) (sa_p rfl)))) ?_
    obtain ⟨v36, hv36, h⟩ := bs h
    refine kG [(47, .ov false (oP 86 v34.1)), (48, .p (.bool v34.2)), (49, .ov false (oP 86 v35.1)), (50, .p (.bool v35.2)), (51, .p (.bool v36.1)), (52, .p (.bool v36.2))] [(0, bT), (1, (cN [.p (.bool v36.1), .p (.bool v36.2)]))] (A2 (frE v2.1) (yfr hv36)) ?_
    obtain ⟨w38, hw38, h⟩ := bs h
    refine yya (l1 := [(4, .p (.bool w38))]) ?_ ?_
    ·clear h
     rcases ft v34.2 with ha5 | ha5
     ·replace hw38 := yma ha5 hw38
      rcases ft v35.2 with ha6 | ha6
      ·obtain ⟨v37, hv37, hw38⟩ := bs (yma ha6 hw38)
       rcases ft v37 with ha7 | ha7
       ·replace hw38 := yma ha7 hw38
        rcases ft v36.2 with ha8 | ha8
        ·replace hw38 := yma ha8 hw38
         have hw38 := oi hw38
         subst hw38
         exact (r_gq [(4, .p (.bool (v36.1 == ((v35.1.length : Int) == 0))))] [(2, gT), (3, bT), (5, gT), (6, gT), (7, {g := some true, call := some (some [.d false (sP v34.1), .d false (sP v35.1)], [.p (.bool v37)], true)}), (8, bT), (10, gT), (11, bT), (13, gT), (14, gT), (15, {g := some true, n := some v35.1.length}), (16, gT), (17, gT), (18, bT)] (B6 ha5 ha5 ha6 ha6 ha6 (show ([.d false [.sl none (eraL (v34.1.map ePt))], .d false [.sl none (eraL (v35.1.map ePt))]] : List Arg) = [.d false (sP v34.1), .d false (sP v35.1)] from (by simp only [yza (h := ePt) (ysm (ysm er_I er_I) (ysm er_I er_I)), yza (h := ePt) (ysm (ysm er_I er_I) (ysm er_I er_I))])) (B6 (yqj hv37) ha6 ha7 ha7 ha8 ha8 (A5 ha8 (lnP v35.1) ha8 ha8 ha8))))
        replace hw38 := yna ha8 hw38
        have hw38 := oi hw38
        subst hw38
        exact (r_gq [(4, .p (.bool false))] [(2, gT), (3, bT), (5, gT), (6, gT), (7, {g := some true, call := some (some [.d false (sP v34.1), .d false (sP v35.1)], [.p (.bool v37)], true)}), (8, bT), (10, gT), (11, bT), (13, gF), (14, gF), (15, gF), (16, gF), (17, gF), (18, bF)] (B6 ha5 ha5 ha6 ha6 ha6 (show ([.d false [.sl none (eraL (v34.1.map ePt))], .d false [.sl none (eraL (v35.1.map ePt))]] : List Arg) = [.d false (sP v34.1), .d false (sP v35.1)] from (by simp only [yza (h := ePt) (ysm (ysm er_I er_I) (ysm er_I er_I)), yza (h := ePt) (ysm (ysm er_I er_I) (ysm er_I er_I))])) (B6 (yqj hv37) ha6 ha7 ha7 ha8 ha8 (A4 ha8 ha8 ha8 ha8))))
       replace hw38 := yna ha7 hw38
       have hw38 := oi hw38
       subst hw38
       exact (r_gq [(4, .p (.bool false))] [(2, gT), (3, bT), (5, gT), (6, gT), (7, {g := some true, call := some (some [.d false (sP v34.1), .d false (sP v35.1)], [.p (.bool v37)], true)}), (8, bT), (10, gF), (11, bF), (13, gF), (14, gF), (15, gF), (16, gF), (17, gF), (18, bF)] (B6 ha5 ha5 ha6 ha6 ha6 (show ([.d false [.sl none (eraL (v34.1.map ePt))], .d false [.sl none (eraL (v35.1.map ePt))]] : List Arg) = [.d false (sP v34.1), .d false (sP v35.1)] from (by simp only [yza (h := ePt) (ysm (ysm er_I er_I) (ysm er_I er_I)), yza (h := ePt) (ysm (ysm er_I er_I) (ysm er_I er_I))])) (B6 (yqj hv37) ha6 ha7 ha7 fF fF (A4 fF fF fF fF))))
      replace hw38 := yna ha6 hw38
      have hw38 := oi hw38
      subst hw38
      exact (r_gq [(4, .p (.bool false))] [(2, gT), (3, bT), (5, gF), (6, gF), (7, gF), (8, bF), (10, gF), (11, bF), (13, gF), (14, gF), (15, gF), (16, gF), (17, gF), (18, bF)] (B6 ha5 ha5 ha6 ha6 ha6 ha6 (B6 fF fF fF fF fF fF (A2 fF fF))))
     replace hw38 := yna ha5 hw38
     have hw38 := oi hw38
     subst hw38
     exact (r_gq [(4, .p (.bool false))] [(2, gF), (3, bF), (5, gF), (6, gF), (7, gF), (8, bF), (10, gF), (11, bF), (13, gF), (14, gF), (15, gF), (16, gF), (17, gF), (18, bF)] (B6 ha5 ha5 fF fF fF fF (B6 fF fF fF fF fF fF (A2 fF fF))))
    refine yva ?_
    obtain rfl := oi h
    exact er [(.p (.bool w38), 4)]
   refine kG [(5, .box (sP v2.1)), (6, .box (eRt v2.2)), (7, .box (eRt v3.1)), (11, .p (.string v5.1)), (12, .p (.bool v5.2)), (313, .p (.bool v3.2))] [] trivial ?_
   refine kc v3.2 (fun hc2_38 => ?_) (fun hc2_38 => ?_)
   ·obtain ⟨v40, hv40, h⟩ := bs (yma hc2_38 h)
    refine kG [(5, .box (sP v2.1)), (6, .box (eRt v2.2)), (11, .p (.string v5.1)), (12, .p (.bool v5.2)), (37, .box (eRt v40.1)), (38, .p (.bool v40.2))] [(0, bT), (2, (cN [.p (vRt v40.1), .p (.bool v40.2)]))] (A2 (frE v2.1) (yco hv40)) ?_
    refine yya (l1 := [(5, .box (sP v2.1)), (11, .p (.string v5.1)), (12, .p (.bool v5.2)), (325, .p (.bool (v40.2 && (nR v40.1 v2.2))))]) ?_ ?_
    ·rcases ft v40.2 with ha4 | ha4
     ·exact RegOk.of_eq (l2 := [(5, .box (sP v2.1)), (11, .p (.string v5.1)), (12, .p (.bool v5.2)), (325, .p (.bool (v40.2 && (nR v40.1 v2.2))))]) (r_gq [(5, .box (sP v2.1)), (11, .p (.string v5.1)), (12, .p (.bool v5.2)), (325, .p (.bool (nR v40.1 v2.2)))] [(2, gT), (3, gT), (4, {g := some true, pv := some (.bool (nR v40.1 v2.2))}), (5, bT)] (A5 ha4 ha4 ha4 (show PureAt Tryz.prog (.binOp .neq 27 (.tmp 322) (.tmp 323) 27) [vRt v40.1, vRt v2.2] (.bool (nR v40.1 v2.2)) from (ygi (by kernel_rfl))) ha4)) (by simp [ha4])
     exact RegOk.of_eq (l2 := [(5, .box (sP v2.1)), (11, .p (.string v5.1)), (12, .p (.bool v5.2)), (325, .p (.bool (v40.2 && (nR v40.1 v2.2))))]) (r_gq [(5, .box (sP v2.1)), (11, .p (.string v5.1)), (12, .p (.bool v5.2)), (325, .p (.bool false))] [(2, gF), (3, gF), (4, gF), (5, bF)] (A4 ha4 ha4 ha4 ha4)) (by simp [ha4])
    refine kc (v40.2 && (nR v40.1 v2.2)) (fun hc2_40 => ?_) (fun hc2_40 => ?_)
    ·replace h := yma hc2_40 h
     refine kG [(4, .p (.bool false))] [] trivial ?_
     refine yva (q_r ?_)
     obtain rfl := oi h
     exact er [(.p (.bool false), 4)]
    replace h := yna hc2_40 h
    refine yja (q_n ?_)
    exact jx () h
   replace h := yna hc2_38 h
   refine yja (q_n ?_)
   exact jx () h
  refine kG [(5, .box (sP v2.1)), (6, .box (eRt v2.2)), (7, .box (eRt v3.1)), (8, .p (.bool v3.2)), (11, .p (.string v5.1)), (12, .p (.bool v5.2)), (19, .box (oP 57 v9.1)), (297, .p (.bool v9.2))] [] trivial ?_
  refine kc v9.2 (fun hc2_41 => ?_) (fun hc2_41 => ?_)
  ·obtain ⟨v43, hv43, h⟩ := bs (yma hc2_41 h)
   refine kG [(5, .box (sP v2.1)), (6, .box (eRt v2.2)), (7, .box (eRt v3.1)), (8, .p (.bool v3.2)), (11, .p (.string v5.1)), (12, .p (.bool v5.2)), (35, .box (oP 57 v43.1)), (36, .p (.bool v43.2))] [(1, (cS [.d true (sP v9.1)] [.ov true (oP 57 v43.1), .p (.bool v43.2)]))] (A4 (frO 57 v9.1) (show ([.d true [.sl none (eraL (v9.1.map ePt))]] : List Arg) = [.d true (sP v9.1)] from (by simp only [erPt])) (yyl hv43) (show List.all [.ov true (oP 57 v43.1), .p (.bool v43.2)] simpleR = true from (sa_o (wnR1 (yzm (wn_P (wn_P wn_I wn_I) (wn_P wn_I wn_I))) rfl) (sa_p rfl)))) ?_
   obtain ⟨w45, hw45, h⟩ := bs h
   refine yya (l1 := [(5, .box (sP v2.1)), (6, .box (eRt v2.2)), (7, .box (eRt v3.1)), (8, .p (.bool v3.2)), (11, .p (.string v5.1)), (12, .p (.bool v5.2)), (312, .p (.bool w45))]) ?_ ?_
   ·clear h
    rcases ft (!v43.2) with ha4 | ha4
    ·replace hw45 := yma ha4 hw45
     have hw45 := oi hw45
     subst hw45
     exact (r_gq [(5, .box (sP v2.1)), (6, .box (eRt v2.2)), (7, .box (eRt v3.1)), (8, .p (.bool v3.2)), (11, .p (.string v5.1)), (12, .p (.bool v5.2)), (312, .p (.bool true))] [(3, gT), (4, gT), (5, gT), (6, gT), (7, gT), (8, gT), (9, bT)] (B6 ha4 ha4 ha4 ha4 ha4 ha4 (A1 ha4)))
    obtain ⟨v44, hv44, hw45⟩ := bs (yna ha4 hw45)
    have hw45 := oi hw45
    subst hw45
    exact (r_gq [(5, .box (sP v2.1)), (6, .box (eRt v2.2)), (7, .box (eRt v3.1)), (8, .p (.bool v3.2)), (11, .p (.string v5.1)), (12, .p (.bool v5.2)), (312, .p (.bool (!v44)))] [(3, gF), (4, gF), (5, gF), (6, gFbT), (7, (gC [.d false (sP v43.1), .d false (sP v2.1)] [.p (.bool v44)])), (8, gF), (9, bF)] (B6 ha4 ha4 (frO 57 v43.1) ha4 ha4 (frE v2.1) (A5 ha4 (show ([.d false [.sl none (eraL (v43.1.map ePt))], .d false (sP v2.1)] : List Arg) = [.d false (sP v43.1), .d false (sP v2.1)] from (by simp only [erPt])) (yha hv44) ha4 ha4)))
   refine kc w45 (fun hc2_45 => ?_) (fun hc2_45 => ?_)
   ·replace h := yma hc2_45 h
    refine kG [(4, .p (.bool false))] [] trivial ?_
    refine yva (q_r ?_)
    obtain rfl := oi h
    exact er [(.p (.bool false), 4)]
   replace h := yna hc2_45 h
   refine yja (q_n ?_)
   exact jx () h
  replace h := yna hc2_41 h
  refine yja (q_n ?_)
  exact jx () h
 refine yya (l1 := [(5, .box (sP v2.1)), (6, .box (eRt v2.2)), (7, .box (eRt v3.1)), (8, .p (.bool v3.2)), (11, .p (.string v5.1)), (12, .p (.bool v5.2)), (17, .box (eRt v8.1)), (19, .box (oP 57 v9.1)), (20, .p (.bool v9.2)), (259, .p (.bool (v7.2 && ((decide (v2.2.1 ≥ (w64 ((-900) * v2.2.2)))) && (decide (v2.2.1 ≤ (w64 (900 * v2.2.2))))))))]) ?_ ?_
 ·rcases ft v7.2 with ha3 | ha3
  ·rcases ft (decide (v2.2.1 ≥ (w64 ((-900) * v2.2.2)))) with ha4 | ha4
   ·exact RegOk.of_eq (l2 := [(5, .box (sP v2.1)), (6, .box (eRt v2.2)), (7, .box (eRt v3.1)), (8, .p (.bool v3.2)), (11, .p (.string v5.1)), (12, .p (.bool v5.2)), (17, .box (eRt v8.1)), (19, .box (oP 57 v9.1)), (20, .p (.bool v9.2)), (259, .p (.bool (v7.2 && ((decide (v2.2.1 ≥ (w64 ((-900) * v2.2.2)))) && (decide (v2.2.1 ≤ (w64 (900 * v2.2.2))))))))]) (r_gq [(5, .box (sP v2.1)), (6, .box (eRt v2.2)), (7, .box (eRt v3.1)), (8, .p (.bool v3.2)), (11, .p (.string v5.1)), (12, .p (.bool v5.2)), (17, .box (eRt v8.1)), (19, .box (oP 57 v9.1)), (20, .p (.bool v9.2)), (259, .p (.bool (decide (v2.2.1 ≤ (w64 (900 * v2.2.2))))))] [(2, gT), (3, gT), (4, gT), (5, gT), (6, gT), (7, gT), (8, bT), (10, gT), (11, gT), (12, gT), (13, gT), (14, gT), (15, gT), (16, bT)] (B6 ha3 ha3 ha3 ha3 ha3 ha3 (B6 ha3 ha4 ha4 ha4 ha4 ha4 (A2 ha4 ha4)))) (by simp [ha3, ha4])
   exact RegOk.of_eq (l2 := [(5, .box (sP v2.1)), (6, .box (eRt v2.2)), (7, .box (eRt v3.1)), (8, .p (.bool v3.2)), (11, .p (.string v5.1)), (12, .p (.bool v5.2)), (17, .box (eRt v8.1)), (19, .box (oP 57 v9.1)), (20, .p (.bool v9.2)), (259, .p (.bool (v7.2 && ((decide (v2.2.1 ≥ (w64 ((-900) * v2.2.2)))) && (decide (v2.2.1 ≤ (w64 (900 * v2.2.2))))))))]) (r_gq [(5, .box (sP v2.1)), (6, .box (eRt v2.2)), (7, .box (eRt v3.1)), (8, .p (.bool v3.2)), (11, .p (.string v5.1)), (12, .p (.bool v5.2)), (17, .box (eRt v8.1)), (19, .box (oP 57 v9.1)), (20, .p (.bool v9.2)), (259, .p (.bool false))] [(2, gT), (3, gT), (4, gT), (5, gT), (6, gT), (7, gT), (8, bT), (10, gF), (11, gF), (12, gF), (13, gF), (14, gF), (15, gF), (16, bF)] (B6 ha3 ha3 ha3 ha3 ha3 ha3 (B6 ha3 ha4 ha4 ha4 ha4 ha4 (A2 ha4 ha4)))) (by simp [ha3, ha4])
  exact RegOk.of_eq (l2 := [(5, .box (sP v2.1)), (6, .box (eRt v2.2)), (7, .box (eRt v3.1)), (8, .p (.bool v3.2)), (11, .p (.string v5.1)), (12, .p (.bool v5.2)), (17, .box (eRt v8.1)), (19, .box (oP 57 v9.1)), (20, .p (.bool v9.2)), (259, .p (.bool (v7.2 && ((decide (v2.2.1 ≥ (w64 ((-900) * v2.2.2)))) && (decide (v2.2.1 ≤ (w64 (900 * v2.2.2))))))))]) (r_gq [(5, .box (sP v2.1)), (6, .box (eRt v2.2)), (7, .box (eRt v3.1)), (8, .p (.bool v3.2)), (11, .p (.string v5.1)), (12, .p (.bool v5.2)), (17, .box (eRt v8.1)), (19, .box (oP 57 v9.1)), (20, .p (.bool v9.2)), (259, .p (.bool false))] [(2, gF), (3, gF), (4, gF), (5, gF), (6, gF), (7, gF), (8, bF), (10, gF), (11, gF), (12, gF), (13, gF), (14, gF), (15, gF), (16, bF)] (B6 ha3 ha3 ha3 ha3 ha3 ha3 (B6 ha3 fF fF fF fF fF (A2 fF fF)))) (by simp [ha3])
 refine kc (v7.2 && ((decide (v2.2.1 ≥ (w64 ((-900) * v2.2.2)))) && (decide (v2.2.1 ≤ (w64 (900 * v2.2.2)))))) (fun hc2_46 => ?_) (fun hc2_46 => ?_)
 ·obtain ⟨v48, hv48, h⟩ := bs (yma hc2_46 h)
  refine kG [(5, .box (sP v2.1)), (6, .box (eRt v2.2)), (7, .box (eRt v3.1)), (8, .p (.bool v3.2)), (11, .p (.string v5.1)), (12, .p (.bool v5.2)), (17, .box (eRt v8.1)), (19, .box (oP 57 v9.1)), (20, .p (.bool v9.2)), (33, .box (eRt v48.1)), (34, .p (.bool v48.2))] [(0, bT), (9, (cN [.p (vRt v48.1), .p (.bool v48.2)]))] (A2 (frE v2.1) (yco hv48)) ?_
  obtain ⟨v49, hv49, h⟩ := bs h
  refine yya (l1 := [(5, .box (sP v2.1)), (6, .box (eRt v2.2)), (7, .box (eRt v3.1)), (8, .p (.bool v3.2)), (11, .p (.string v5.1)), (12, .p (.bool v5.2)), (19, .box (oP 57 v9.1)), (20, .p (.bool v9.2)), (296, .p (.bool (v49 && (v48.2 && (!((v48.1.1 == (w64 (v8.1.1 + v8.1.2))) && (v48.1.2 == v8.1.2)))))))]) ?_ ?_
  ·rcases ft v49 with ha4 | ha4
   ·rcases ft v48.2 with ha5 | ha5
    ·exact RegOk.of_eq (l2 := [(5, .box (sP v2.1)), (6, .box (eRt v2.2)), (7, .box (eRt v3.1)), (8, .p (.bool v3.2)), (11, .p (.string v5.1)), (12, .p (.bool v5.2)), (19, .box (oP 57 v9.1)), (20, .p (.bool v9.2)), (296, .p (.bool (v49 && (v48.2 && (!((v48.1.1 == (w64 (v8.1.1 + v8.1.2))) && (v48.1.2 == v8.1.2)))))))]) (r_gq [(5, .box (sP v2.1)), (6, .box (eRt v2.2)), (7, .box (eRt v3.1)), (8, .p (.bool v3.2)), (11, .p (.string v5.1)), (12, .p (.bool v5.2)), (19, .box (oP 57 v9.1)), (20, .p (.bool v9.2)), (296, .p (.bool (!((v48.1.1 == (w64 (v8.1.1 + v8.1.2))) && (v48.1.2 == v8.1.2)))))] [(8, (cN [.p (.bool v49)])), (10, gT), (11, bT), (13, gT), (14, gT), (15, gT), (16, gT), (17, gT), (18, gT), (19, gT), (20, gT), (21, gT), (22, {g := some true, pv := some (.bool (!((v48.1.1 == (w64 (v8.1.1 + v8.1.2))) && (v48.1.2 == v8.1.2))))}), (23, bT)] (B6 (ycp hv49) ha4 ha4 ha5 ha5 ha5 (B6 ha5 ha5 ha5 ha5 ha5 ha5 (A3 ha5 (show PureAt Tryz.prog (.binOp .neq 27 (.tmp 286) (.tmp 294) 27) [vRt v48.1, .agg #[.int .i64 (w64 (v8.1.1 + v8.1.2)), .int .i64 v8.1.2]] (.bool (!((v48.1.1 == (w64 (v8.1.1 + v8.1.2))) && (v48.1.2 == v8.1.2)))) from (ygi (by kernel_rfl))) ha5)))) (by simp [ha4, ha5])
    exact RegOk.of_eq (l2 := [(5, .box (sP v2.1)), (6, .box (eRt v2.2)), (7, .box (eRt v3.1)), (8, .p (.bool v3.2)), (11, .p (.string v5.1)), (12, .p (.bool v5.2)), (19, .box (oP 57 v9.1)), (20, .p (.bool v9.2)), (296, .p (.bool (v49 && (v48.2 && (!((v48.1.1 == (w64 (v8.1.1 + v8.1.2))) && (v48.1.2 == v8.1.2)))))))]) (r_gq [(5, .box (sP v2.1)), (6, .box (eRt v2.2)), (7, .box (eRt v3.1)), (8, .p (.bool v3.2)), (11, .p (.string v5.1)), (12, .p (.bool v5.2)), (19, .box (oP 57 v9.1)), (20, .p (.bool v9.2)), (296, .p (.bool false))] [(8, (cN [.p (.bool v49)])), (10, gT), (11, bT), (13, gF), (14, gF), (15, gF), (16, gF), (17, gF), (18, gF), (19, gF), (20, gF), (21, gF), (22, gF), (23, bF)] (B6 (ycp hv49) ha4 ha4 ha5 ha5 ha5 (B6 ha5 ha5 ha5 ha5 ha5 ha5 (A2 ha5 ha5)))) (by simp [ha4, ha5])
   exact RegOk.of_eq (l2 := [(5, .box (sP v2.1)), (6, .box (eRt v2.2)), (7, .box (eRt v3.1)), (8, .p (.bool v3.2)), (11, .p (.string v5.1)), (12, .p (.bool v5.2)), (19, .box (oP 57 v9.1)), (20, .p (.bool v9.2)), (296, .p (.bool (v49 && (v48.2 && (!((v48.1.1 == (w64 (v8.1.1 + v8.1.2))) && (v48.1.2 == v8.1.2)))))))]) (r_gq [(5, .box (sP v2.1)), (6, .box (eRt v2.2)), (7, .box (eRt v3.1)), (8, .p (.bool v3.2)), (11, .p (.string v5.1)), (12, .p (.bool v5.2)), (19, .box (oP 57 v9.1)), (20, .p (.bool v9.2)), (296, .p (.bool false))] [(8, (cN [.p (.bool v49)])), (10, gF), (11, bF), (13, gF), (14, gF), (15, gF), (16, gF), (17, gF), (18, gF), (19, gF), (20, gF), (21, gF), (22, gF), (23, bF)] (B6 (ycp hv49) ha4 ha4 fF fF fF (B6 fF fF fF fF fF fF (A2 fF fF)))) (by simp [ha4])
  refine kc (v49 && (v48.2 && (!((v48.1.1 == (w64 (v8.1.1 + v8.1.2))) && (v48.1.2 == v8.1.2))))) (fun hc2_49 => ?_) (fun hc2_49 => ?_)
  ·replace h := yma hc2_49 h
   refine kG [(4, .p (.bool false))] [] trivial ?_
   refine yva (q_r ?_)
   obtain rfl := oi h
   exact er [(.p (.bool false), 4)]
  replace h := yna hc2_49 h
  refine yja (q_n ?_)
  exact jx () h
 replace h := yna hc2_46 h
 refine yja (q_n ?_)
 exact jx () h
end Go.PV

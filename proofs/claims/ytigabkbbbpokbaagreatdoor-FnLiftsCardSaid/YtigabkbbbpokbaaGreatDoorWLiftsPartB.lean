/-
  Walks through the functions that the law reaches: each answers as its plain definition does.
  Conditions: none.
-/
import Derived.KernelRfl
import Derived.Shelf.LaysM
import Derived.Shelf.Strconv.Itoa3
import Derived.Shelf.Strings.Builder1
import Derived.Shelf.Strings.Cut
import Derived.Shelf.LaysC
import Derived.Test.YtigabkbbbpokbaaGreatDoorWLiftsPartA
import Derived.Test.YtigabkbbbpokbaaGreatDoorProg
import Derived.Test.YtigabkbbbpokbaaGreatDoorPvCx
import Derived.Test.YtigabkbbbpokbaaGreatDoorBackYtigabkbbbpokbaaGreatDoor
open Go Go.PV Go.Proofs
set_option linter.all false
namespace Go.PV
attribute [local irreducible] pvC pvL pvD sOp seqQ blockQ Meets MeetsB Ok OkL RegOk agree endQ seqL blockL loopQ endL endLB
theorem yjt {a0 : (List Qp)} {a1 : Qr}  {r : (Qr × Bool)} (h : ysc a0 a1 = some r) : Meets Tryz.prog 6 [.d true (sP a0), .v (vRt a1)] { vals := [.p (vRt r.1), .p (.bool r.2)] } := by
 refine mo Tryz.func6 [(0, .d true (sP a0)), (1, .p (vRt a1))] ?_
 unfold ysc at h
 refine kG [(2, .box (sP a0)), (3, .box (eRt a1)), (4, .box zR)] [] trivial ?_
 refine yqb ?_
 obtain ⟨v1, hv1, h⟩ := bs h
 obtain ⟨w3, hw3, h⟩ := bs h
 refine yya (l1 := [(2, .box (sP a0)), (3, .box (eRt a1)), (4, .box zR), (24, .p (.bool w3))]) ?_ ?_
 ·clear h
  rcases ft (!v1) with ha0 | ha0
  ·replace hw3 := yma ha0 hw3
   have hw3 := oi hw3
   subst hw3
   exact (r_gq [(2, .box (sP a0)), (3, .box (eRt a1)), (4, .box zR), (24, .p (.bool true))] [(0, bT), (1, (cN [.p (.bool v1)])), (4, gT), (5, gT), (6, gT), (7, bT)] (A6 (frE a0) (yrc hv1) ha0 ha0 ha0 ha0))
  obtain ⟨v2, hv2, hw3⟩ := bs (yna ha0 hw3)
  have hw3 := oi hw3
  subst hw3
  exact (r_gq [(2, .box (sP a0)), (3, .box (eRt a1)), (4, .box zR), (24, .p (.bool (!v2)))] [(0, bT), (1, (cN [.p (.bool v1)])), (4, gF), (5, (gN [.p (.bool v2)])), (6, gF), (7, bF)] (B6 (frE a0) (yrc hv1) ha0 ha0 (yzn hv2) ha0 (A1 ha0)))
 refine kc w3 (fun hc2_3 => ?_) (fun hc2_3 => ?_)
 ·replace h := yma hc2_3 h
  refine kG [(4, .box zR), (5, .p (.bool false))] [] trivial ?_
  refine yva (q_r ?_)
  obtain rfl := oi h
  exact er [(.p (.agg #[.int .i64 0, .int .i64 0]), 4), (.p (.bool false), 5)]
 replace h := yna hc2_3 h
 refine yja (q_n ?_)
 obtain ⟨v5, hv5, h⟩ := bs h
 refine kG [(2, .box (sP a0)), (3, .box (eRt a1)), (4, .box zR), (6, .box (ePt v5))] [(1, bT), (2, {row := some (ePt v5)})] (A3 (frE a0) (yba hv5).1 (yia ePt (yba hv5).2)) ?_
 obtain ⟨v6, hv6, h⟩ := bs h
 obtain ⟨v7, hv7, h⟩ := bs h
 refine yya (r_dq yca 4 [] [(2, .box (sP a0)), (3, .box (eRt a1)), (4, .box zR), (6, .box (ePt v5)), (7, .p (iV (w64 (v6 - v7))))] [(1, (cN [.p (iV v6)])), (4, (cN [.p (iV v7)]))] (A2 (ywh hv6) (ywh hv7))) ?_
 refine yhd (J := fun (x : Int) => [(2, .box (sP a0)), (3, .box (eRt a1)), (4, .box zR), (6, .box (ePt v5)), (7, .p (iV x))]) (K := fun x => ygb a0 a1 v5 x = some r) (fun x8 h => ?_) ?_
 ·unfold ygb at h
  obtain ⟨v9, hv9, h⟩ := bs h
  obtain ⟨v10, hv10, h⟩ := bs h
  refine yya (r_dq yca 9 [(8, 8)] [(2, .box (sP a0)), (4, .box zR), (6, .box (ePt v5)), (7, .p (iV x8)), (8, .box (eRt v10.1)), (9, .p (.bool v10.2))] [(2, (cN [.p (vRt v9)])), (3, (cN [.p (vRt v10.1), .p (.bool v10.2)]))] (A2 (yub hv9) (ymg hv10))) ?_
  refine yqb (kG [(2, .box (sP a0)), (4, .box zR), (6, .box (ePt v5)), (7, .p (iV x8)), (8, .box (eRt v10.1)), (53, .p (.bool (!v10.2)))] [] trivial ?_)
  refine kc (!v10.2) (fun hc2_10 => ?_) (fun hc2_10 => ?_)
  ·replace h := yma hc2_10 h
   refine kG [(4, .box zR), (5, .p (.bool false))] [] trivial ?_
   refine yva (q_r ?_)
   obtain rfl := oi h
   exact er [(.p (.agg #[.int .i64 0, .int .i64 0]), 4), (.p (.bool false), 5)]
  replace h := yna hc2_10 h
  refine yja (q_n (kG [(2, .box (sP a0)), (4, .box zR), (6, .box (ePt v5)), (7, .p (iV x8)), (8, .box (eRt v10.1)), (10, .box (eRt v5.1))] [] trivial ?_))
  refine yhd (J := fun (x : Qr) => [(2, .box (sP a0)), (4, .box zR), (6, .box (ePt v5)), (7, .p (iV x8)), (10, .box (eRt x))]) (K := fun x => yoc a0 v5 x8 x = some r) (fun x12 h => ?_) ?_
  ·unfold yoc at h
   refine yhd (J := fun (x : Qr) => [(4, .box zR), (7, .p (iV x8)), (10, .box (eRt x))]) (K := fun x => yob x8 x = some r) (fun x13 h => ?_) ?_
   ·unfold yob at h
    obtain ⟨v14, hv14, h⟩ := bs h
    obtain ⟨v15, hv15, h⟩ := bs h
    refine yya (r_dq yca 3 [] [(4, .box (eRt v15.1)), (5, .p (.bool v15.2))] [(2, (cN [.p (vRt v14)])), (3, (cN [.p (vRt v15.1), .p (.bool v15.2)]))] (A2 (yub hv14) (yfk hv15))) ?_
    refine yva ?_
    obtain rfl := oi h
    exact er [(.p (vRt v15.1), 4), (.p (.bool v15.2), 5)]
   refine kG [(2, .box (sP a0)), (4, .box zR), (7, .p (iV x8)), (10, .box (eRt x12)), (101, .p (.bool ((x12.1 == v5.1.1) && (x12.2 == v5.1.2))))] [(3, {pv := some (.bool ((x12.1 == v5.1.1) && (x12.2 == v5.1.2)))})] (A1 (show PureAt Tryz.prog (.binOp .eql 27 (.tmp 98) (.tmp 100) 27) [vRt x12, vRt v5.1] (.bool ((x12.1 == v5.1.1) && (x12.2 == v5.1.2))) from (ygg (by kernel_rfl)))) ?_
   refine kc ((x12.1 == v5.1.1) && (x12.2 == v5.1.2)) (fun hc2_15 => ?_) (fun hc2_15 => ?_)
   ·replace h := yma hc2_15 h
    refine kG [(2, .box (sP a0)), (4, .box zR), (7, .p (iV x8)), (10, .box (eRt x12)), (16, .p (iV (w64 ((a0.length : Int) - 1))))] [(1, bT), (2, {n := some a0.length})] (A2 (frE a0) (lnP a0)) ?_
    refine yhd (J := fun (x : Int) => [(2, .box (sP a0)), (4, .box zR), (7, .p (iV x8)), (10, .box (eRt x12)), (16, .p (iV x))]) (K := fun x => yze a0 x8 x12 x = some r) (fun x17 h => ?_) ?_
    ·unfold yze at h
     refine kG [(2, .box (sP a0)), (4, .box zR), (7, .p (iV x8)), (10, .box (eRt x12)), (16, .p (iV x17)), (131, .p (.bool (decide (x17 < (w64 ((a0.length : Int) - 1))))))] [(2, bT), (3, {n := some a0.length})] (A2 (frE a0) (lnP a0)) ?_
     refine kc (decide (x17 < (w64 ((a0.length : Int) - 1)))) (fun hc2_17 => ?_) (fun hc2_17 => ?_)
     ·obtain ⟨v19, hv19, h⟩ := bs (yma hc2_17 h)
      obtain ⟨v20, hv20, h⟩ := bs h
      refine yff (r_gq [(4, .box zR), (7, .p (iV x8)), (10, .box (eRt v20))] [(1, bT), (3, {row := some (ePt v19)}), (6, (cN [.p (vRt v20)]))] (A4 (frE a0) (yba hv19).1 (yia ePt (yba hv19).2) (yid hv20))) ?_
      refine q_n ?_
      exact jx v20 h
     replace h := yna hc2_17 h
     refine yja (q_n ?_)
     exact jx x12 h
    refine ywa ?_
    obtain ⟨y22, hl_x21, hk_x21⟩ := bs h
    clear h
    refine yuh (J := fun (x : Int) => [(2, .box (sP a0)), (4, .box zR), (7, .p (iV x8)), (10, .box (eRt x12)), (16, .p (iV x))]) hl_x21 wkk (fun x21 o_x21 h hy_x21 => ?_)
    unfold yaf at h
    refine yqb ?_
    obtain ⟨w25, hw25, h⟩ := bs h
    refine yya (l1 := [(2, .box (sP a0)), (4, .box zR), (7, .p (iV x8)), (10, .box (eRt x12)), (16, .p (iV x21)), (123, .p (.bool w25))]) ?_ ?_
    ·clear h
     rcases ft (decide (x21 > 0)) with ha3 | ha3
     ·obtain ⟨v23, hv23, hw25⟩ := bs (yma ha3 hw25)
      obtain ⟨v24, hv24, hw25⟩ := bs hw25
      have hw25 := oi hw25
      subst hw25
      exact (r_dq yca 16 [] [(2, .box (sP a0)), (4, .box zR), (7, .p (iV x8)), (10, .box (eRt x12)), (16, .p (iV x21)), (123, .p (.bool ((v23.2.1 == v24.2.1) && (v23.2.2 == v24.2.2))))] [(3, gT), (4, {g := some true, b := some true}), (5, gT), (6, gT), (7, {g := some true, row := some (ePt v23)}), (8, gT), (9, gT), (10, gT), (11, {g := some true, b := some true}), (12, gT), (13, {g := some true, row := some (ePt v24)}), (14, gT), (15, gT), (16, {g := some true, pv := some (.bool ((v23.2.1 == v24.2.1) && (v23.2.2 == v24.2.2)))}), (17, bT)] (B6 ha3 ha3 (frE a0) ha3 ha3 ha3 (B6 (yba hv23).1 (yia ePt (yba hv23).2) ha3 ha3 ha3 ha3 (B6 (frE a0) ha3 ha3 (yba hv24).1 (yia ePt (yba hv24).2) ha3 (A4 ha3 ha3 (show PureAt Tryz.prog (.binOp .eql 27 (.tmp 115) (.tmp 121) 27) [vRt v23.2, vRt v24.2] (.bool ((v23.2.1 == v24.2.1) && (v23.2.2 == v24.2.2))) from (ygg (by kernel_rfl))) ha3)))))
     replace hw25 := yna ha3 hw25
     have hw25 := oi hw25
     subst hw25
     exact (r_dq yca 16 [] [(2, .box (sP a0)), (4, .box zR), (7, .p (iV x8)), (10, .box (eRt x12)), (16, .p (iV x21)), (123, .p (.bool false))] [(3, gF), (4, gF), (5, gF), (6, gF), (7, gF), (8, gF), (9, gF), (10, gF), (11, gF), (12, gF), (13, gF), (14, gF), (15, gF), (16, gF), (17, bF)] (B6 ha3 ha3 ha3 ha3 ha3 ha3 (B6 ha3 ha3 ha3 ha3 ha3 ha3 (A3 ha3 ha3 ha3))))
    refine kc w25 (fun hc6_25 => ?_) (fun hc6_25 => ?_)
    ·replace h := yma hc6_25 h
     refine yja (q_n (ywa (yff (r_gq [(2, .box (sP a0)), (4, .box zR), (7, .p (iV x8)), (10, .box (eRt x12)), (16, .p (iV (w64 (x21 - 1))))] [] trivial) ?_)))
     refine b_n ?_
     exact lqn (w64 (x21 - 1)) h
    replace h := yna hc6_25 h
    refine ykg (q_x (lq_x (b_x ?_)))
    have hyy := hy_x21 _ (oi h).symm
    subst hyy
    have h := hk_x21
    refine q_n ?_
    exact jx x21 h
   replace h := yna hc2_15 h
   refine yja (q_n ?_)
   exact jx x12 h
  refine kG [(2, .box (sP a0)), (4, .box zR), (6, .box (ePt v5)), (7, .p (iV x8)), (8, .box (eRt v10.1)), (10, .box (eRt v5.1)), (11, .p (iV 1))] [] trivial ?_
  refine ywa ?_
  obtain ⟨y28, hl_x27, hk_x27⟩ := bs h
  clear h
  refine yuh (J := fun (x : (Int × Int × Int)) => [(2, .box (sP a0)), (4, .box zR), (6, .box (ePt v5)), (7, .p (iV x8)), (8, .box (eRt v10.1)), (10, .box [rI x.1, rI x.2.1]), (11, .p (iV x.2.2))]) hl_x27 wkk (fun x27 o_x27 h hy_x27 => ?_)
  unfold ypb at h
  refine yqb (kG [(2, .box (sP a0)), (4, .box zR), (6, .box (ePt v5)), (7, .p (iV x8)), (8, .box (eRt v10.1)), (10, .box [rI x27.1, rI x27.2.1]), (11, .p (iV x27.2.2)), (61, .p (.bool (decide (x27.2.2 < (a0.length : Int)))))] [(2, bT), (3, {n := some a0.length})] (A2 (frE a0) (lnP a0)) ?_)
  refine kc (decide (x27.2.2 < (a0.length : Int))) (fun hc5_28 => ?_) (fun hc5_28 => ?_)
  ·replace h := yma hc5_28 h
   refine yja (q_n (yqb (ywa ?_)))
   obtain ⟨v30, hv30, h⟩ := bs h
   obtain ⟨v31, hv31, h⟩ := bs h
   refine yya (r_dq yca 14 [(13, 12)] [(2, .box (sP a0)), (4, .box zR), (6, .box (ePt v5)), (7, .p (iV x8)), (8, .box (eRt v10.1)), (10, .box [rI x27.1, rI x27.2.1]), (11, .p (iV x27.2.2)), (12, .box (ePt v30)), (13, .box (ePt v31))] [(1, bT), (4, {row := some (ePt v30)}), (7, bT), (9, {row := some (ePt v31)})] (A6 (frE a0) (yba hv30).1 (yia ePt (yba hv30).2) (frE a0) (yba hv31).1 (yia ePt (yba hv31).2))) ?_
   obtain ⟨v32, hv32, h⟩ := bs h
   obtain ⟨w34, hw34, h⟩ := bs h
   refine yya (l1 := [(2, .box (sP a0)), (4, .box zR), (6, .box (ePt v5)), (7, .p (iV x8)), (8, .box (eRt v10.1)), (10, .box [rI x27.1, rI x27.2.1]), (11, .p (iV x27.2.2)), (12, .box (ePt v30)), (13, .box (ePt v31)), (86, .p (.bool w34))]) ?_ ?_
   ·clear h
    rcases ft (decide (v32 < 0)) with ha3 | ha3
    ·obtain ⟨v33, hv33, hw34⟩ := bs (yma ha3 hw34)
     have hw34 := oi hw34
     subst hw34
     exact (r_gq [(2, .box (sP a0)), (4, .box zR), (6, .box (ePt v5)), (7, .p (iV x8)), (8, .box (eRt v10.1)), (10, .box [rI x27.1, rI x27.2.1]), (11, .p (iV x27.2.2)), (12, .box (ePt v30)), (13, .box (ePt v31)), (86, .p (.bool (decide (v33 ≤ 0))))] [(3, (cN [.p (iV v32)])), (6, gT), (7, gT), (8, gT), (9, {g := some true, call := some (none, [.p (iV v33)], true)}), (10, gT), (11, bT)] (B6 (yhb hv32) ha3 ha3 ha3 ha3 (yhb hv33) (A2 ha3 ha3)))
    replace hw34 := yna ha3 hw34
    have hw34 := oi hw34
    subst hw34
    exact (r_gq [(2, .box (sP a0)), (4, .box zR), (6, .box (ePt v5)), (7, .p (iV x8)), (8, .box (eRt v10.1)), (10, .box [rI x27.1, rI x27.2.1]), (11, .p (iV x27.2.2)), (12, .box (ePt v30)), (13, .box (ePt v31)), (86, .p (.bool false))] [(3, (cN [.p (iV v32)])), (6, gF), (7, gF), (8, gF), (9, gF), (10, gF), (11, bF)] (B6 (yhb hv32) ha3 ha3 ha3 ha3 ha3 (A1 ha3)))
   refine kc w34 (fun hc6_34 => ?_) (fun hc6_34 => ?_)
   ·obtain ⟨v36, hv36, h⟩ := bs (yma hc6_34 h)
    refine kG [(2, .box (sP a0)), (4, .box zR), (6, .box (ePt v5)), (7, .p (iV x8)), (8, .box (eRt v10.1)), (10, .box [rI x27.1, rI x27.2.1]), (11, .p (iV x27.2.2)), (14, .box (eRt v36.1)), (15, .p (.bool v36.2))] [(3, (cN [.p (vRt v36.1), .p (.bool v36.2)]))] (A1 (yrx hv36)) ?_
    refine yqb (kG [(2, .box (sP a0)), (4, .box zR), (6, .box (ePt v5)), (7, .p (iV x8)), (8, .box (eRt v10.1)), (10, .box [rI x27.1, rI x27.2.1]), (11, .p (iV x27.2.2)), (14, .box (eRt v36.1)), (95, .p (.bool (!v36.2)))] [] trivial ?_)
    refine kc (!v36.2) (fun hc7_36 => ?_) (fun hc7_36 => ?_)
    ·replace h := yma hc7_36 h
     refine kG [(4, .box zR), (5, .p (.bool false))] [] trivial ?_
     refine yva (q_r (b_r (q_r (lq_r ?_))))
     refine b_r (q_r ?_)
     have hyy := hy_x27 _ (oi h).symm
     subst hyy
     have h := hk_x27
     dsimp only [Sum.elim] at h
     obtain rfl := oi h
     exact er [(.p (.agg #[.int .i64 0, .int .i64 0]), 4), (.p (.bool false), 5)]
    replace h := yna hc7_36 h
    refine yja (q_n (yff (r_gq [(2, .box (sP a0)), (4, .box zR), (6, .box (ePt v5)), (7, .p (iV x8)), (8, .box (eRt v10.1)), (10, .box (eRt v36.1)), (11, .p (iV x27.2.2))] [] trivial) ?_))
    refine b_n (q_n (yff (r_gq [(2, .box (sP a0)), (4, .box zR), (6, .box (ePt v5)), (7, .p (iV x8)), (8, .box (eRt v10.1)), (10, .box (eRt v36.1)), (11, .p (iV (w64 (x27.2.2 + 1))))] [] trivial) ?_))
    exact lqn (v36.1.1, v36.1.2, (w64 (x27.2.2 + 1))) h
   replace h := yna hc6_34 h
   refine yja (b_n (q_n (yff (r_gq [(2, .box (sP a0)), (4, .box zR), (6, .box (ePt v5)), (7, .p (iV x8)), (8, .box (eRt v10.1)), (10, .box [rI x27.1, rI x27.2.1]), (11, .p (iV (w64 (x27.2.2 + 1))))] [] trivial) ?_)))
   exact lqn (x27.1, x27.2.1, (w64 (x27.2.2 + 1))) h
  replace h := yna hc5_28 h
  refine ykg (q_x (lq_x (b_x ?_)))
  have hyy := hy_x27 _ (oi h).symm
  subst hyy
  have h := hk_x27
  dsimp only [Sum.elim] at h
  refine q_n ?_
  exact jx (x27.1, x27.2.1) h
 obtain ⟨v38, hv38, h⟩ := bs h
 obtain ⟨v39, hv39, h⟩ := bs h
 obtain ⟨v40, hv40, h⟩ := bs h
 refine yya (r_dq yca 4 [] [(2, .box (sP a0)), (3, .box (eRt a1)), (4, .box zR), (6, .box (ePt v5)), (7, .p (iV (w64 (v6 - v7)))), (42, .p (.bool (decide (v40 < 0))))] [(1, (cN [.p (vRt v38)])), (4, (cN [.p (vRt v39)])), (5, (cN [.p (iV v40)]))] (A3 (yds hv38) (yds hv39) (yhb hv40))) ?_
 refine kc (decide (v40 < 0)) (fun hc2_40 => ?_) (fun hc2_40 => ?_)
 ·replace h := yma hc2_40 h
  refine yff (r_gq [(2, .box (sP a0)), (3, .box (eRt a1)), (4, .box zR), (6, .box (ePt v5)), (7, .p (iV (w64 ((w64 (v6 - v7)) - 1))))] [] trivial) ?_
  refine q_n ?_
  exact jx (w64 ((w64 (v6 - v7)) - 1)) h
 replace h := yna hc2_40 h
 refine yja (q_n ?_)
 exact jx (w64 (v6 - v7)) h
end Go.PV
namespace Go.Proofs
open Go.Shelf
def Tryz.laysC172_ren : Go.Shelf.Ren := ⟨fun | 172 => 128 | 244 => 140 | 245 => 141 | 247 => 148 | 279 => 149 | 280 => 150 | 281 => 151 | 282 => 152 | 287 => 159 | 316 => 160 | 171 => 117 | 205 => 161 | 321 => 167 | 322 => 168 | 243 => 135 | 246 => 142 | 283 => 153 | 284 => 154 | 285 => 155 | 286 => 156 | 129 => 163 | 317 => 162 | 318 => 164 | 319 => 165 | 320 => 166 | 337 => 169 | 338 => 170 | n => n, fun | 9 => 9 | 3 => 3 | 75 => 102 | 76 => 103 | 4 => 4 | 5 => 5 | 167 => 134 | 37 => 22 | 0 => 0 | 85 => 135 | 2 => 2 | 168 => 137 | 53 => 70 | 175 => 148 | 46 => 129 | 210 => 152 | 127 => 121 | 145 => 162 | 143 => 160 | 21 => 21 | 171 => 140 | 173 => 143 | 212 => 155 | 51 => 145 | 20 => 20 | 213 => 156 | 232 => 164 | 233 => 165 | 80 => 106 | n => n, fun | 15 => 1 | 16 => 2 | 17 => 3 | 18 => 4 | 19 => 5 | n => n⟩
theorem Tryz.laysC172 : Go.Proofs.LaysC.n172 Tryz.prog Tryz.laysC172_ren := {
 mixed := by kernel_rfl
 f129 := Tryz.func163.trans (congrArg some (by kernel_rfl))
 f171 := Tryz.func117.trans (congrArg some (by kernel_rfl))
 f172 := Tryz.func128.trans (congrArg some (by kernel_rfl))
 f205 := Tryz.func161.trans (congrArg some (by kernel_rfl))
 f243 := Tryz.func135.trans (congrArg some (by kernel_rfl))
 f244 := Tryz.func140.trans (congrArg some (by kernel_rfl))
 f245 := Tryz.func141.trans (congrArg some (by kernel_rfl))
 f246 := Tryz.func142.trans (congrArg some (by kernel_rfl))
 f247 := Tryz.func148.trans (congrArg some (by kernel_rfl))
 f279 := Tryz.func149.trans (congrArg some (by kernel_rfl))
 f280 := Tryz.func150.trans (congrArg some (by kernel_rfl))
 f281 := Tryz.func151.trans (congrArg some (by kernel_rfl))
 f282 := Tryz.func152.trans (congrArg some (by kernel_rfl))
 f283 := Tryz.func153.trans (congrArg some (by kernel_rfl))
 f284 := Tryz.func154.trans (congrArg some (by kernel_rfl))
 f285 := Tryz.func155.trans (congrArg some (by kernel_rfl))
 f286 := Tryz.func156.trans (congrArg some (by kernel_rfl))
 f287 := Tryz.func159.trans (congrArg some (by kernel_rfl))
 f316 := Tryz.func160.trans (congrArg some (by kernel_rfl))
 f317 := Tryz.func162.trans (congrArg some (by kernel_rfl))
 f318 := Tryz.func164.trans (congrArg some (by kernel_rfl))
 f319 := Tryz.func165.trans (congrArg some (by kernel_rfl))
 f320 := Tryz.func166.trans (congrArg some (by kernel_rfl))
 f321 := Tryz.func167.trans (congrArg some (by kernel_rfl))
 f322 := Tryz.func168.trans (congrArg some (by kernel_rfl))
 f337 := Tryz.func169.trans (congrArg some (by kernel_rfl))
 f338 := Tryz.func170.trans (congrArg some (by kernel_rfl))
 t0 := Tryz.underlying0
 a0 := Tryz.isAgg0
 z0 := Tryz.sizeOf0
 v0 := Tryz.zeroValue0
 t2 := Tryz.underlying2
 a2 := Tryz.isAgg2
 z2 := Tryz.sizeOf2
 v2 := Tryz.zeroValue2
 t3 := Tryz.underlying3
 a3 := Tryz.isAgg3
 z3 := Tryz.sizeOf3
 v3 := Tryz.zeroValue3
 t4 := Tryz.underlying4
 a4 := Tryz.isAgg4
 z4 := Tryz.sizeOf4
 v4 := Tryz.zeroValue4
 t5 := Tryz.underlying5
 a5 := Tryz.isAgg5
 z5 := Tryz.sizeOf5
 v5 := Tryz.zeroValue5
 t9 := Tryz.underlying9
 a9 := Tryz.isAgg9
 z9 := Tryz.sizeOf9
 v9 := Tryz.zeroValue9
 t20 := Tryz.underlying20
 a20 := Tryz.isAgg20
 z20 := Tryz.sizeOf20
 v20 := Tryz.zeroValue20
 t21 := Tryz.underlying21
 a21 := Tryz.isAgg21
 z21 := Tryz.sizeOf21
 v21 := Tryz.zeroValue21
 t37 := Tryz.underlying22
 a37 := Tryz.isAgg22
 z37 := Tryz.sizeOf22
 v37 := Tryz.zeroValue22
 t46 := Tryz.underlying129
 a46 := Tryz.isAgg129
 z46 := Tryz.sizeOf129
 v46 := Tryz.zeroValue129
 t51 := Tryz.underlying145
 a51 := Tryz.isAgg145
 z51 := Tryz.sizeOf145
 v51 := Tryz.zeroValue145
 t53 := Tryz.underlying70
 a53 := Tryz.isAgg70
 z53 := Tryz.sizeOf70
 v53 := Tryz.zeroValue70
 t75 := Tryz.underlying102
 a75 := Tryz.isAgg102
 z75 := Tryz.sizeOf102
 v75 := Tryz.zeroValue102
 t76 := Tryz.underlying103
 a76 := Tryz.isAgg103
 z76 := Tryz.sizeOf103
 v76 := Tryz.zeroValue103
 t85 := Tryz.underlying135
 a85 := Tryz.isAgg135
 z85 := Tryz.sizeOf135
 v85 := Tryz.zeroValue135
 t127 := Tryz.underlying121
 a127 := Tryz.isAgg121
 z127 := Tryz.sizeOf121
 v127 := Tryz.zeroValue121
 t143 := Tryz.underlying160
 a143 := Tryz.isAgg160
 z143 := Tryz.sizeOf160
 v143 := Tryz.zeroValue160
 t145 := Tryz.underlying162
 a145 := Tryz.isAgg162
 z145 := Tryz.sizeOf162
 v145 := Tryz.zeroValue162
 t167 := Tryz.underlying134
 a167 := Tryz.isAgg134
 z167 := Tryz.sizeOf134
 v167 := Tryz.zeroValue134
 t168 := Tryz.underlying137
 a168 := Tryz.isAgg137
 z168 := Tryz.sizeOf137
 v168 := Tryz.zeroValue137
 t171 := Tryz.underlying140
 a171 := Tryz.isAgg140
 z171 := Tryz.sizeOf140
 v171 := Tryz.zeroValue140
 t173 := Tryz.underlying143
 a173 := Tryz.isAgg143
 z173 := Tryz.sizeOf143
 v173 := Tryz.zeroValue143
 t175 := Tryz.underlying148
 a175 := Tryz.isAgg148
 z175 := Tryz.sizeOf148
 v175 := Tryz.zeroValue148
 t210 := Tryz.underlying152
 a210 := Tryz.isAgg152
 z210 := Tryz.sizeOf152
 v210 := Tryz.zeroValue152
 t212 := Tryz.underlying155
 a212 := Tryz.isAgg155
 z212 := Tryz.sizeOf155
 v212 := Tryz.zeroValue155
 t213 := Tryz.underlying156
 a213 := Tryz.isAgg156
 z213 := Tryz.sizeOf156
 t232 := Tryz.underlying164
 a232 := Tryz.isAgg164
 z232 := Tryz.sizeOf164
 v232 := Tryz.zeroValue164
 t233 := Tryz.underlying165
 a233 := Tryz.isAgg165
 z233 := Tryz.sizeOf165
 v233 := Tryz.zeroValue165
 g15 := by kernel_rfl
 g16 := by kernel_rfl
 g17 := by kernel_rfl
 g18 := by kernel_rfl
 g19 := by kernel_rfl
 t80 := Tryz.underlying106
 a80 := Tryz.isAgg106
 z80 := Tryz.sizeOf106
 v80 := Tryz.zeroValue106
 i0 := by kernel_rfl
 i2 := by kernel_rfl
 i3 := by kernel_rfl
 i4 := by kernel_rfl
 i5 := by kernel_rfl
 i9 := by kernel_rfl
 i20 := by kernel_rfl
 i21 := by kernel_rfl
 i37 := by kernel_rfl
 i46 := by kernel_rfl
 i51 := by kernel_rfl
 i53 := by kernel_rfl
 i75 := by kernel_rfl
 i76 := by kernel_rfl
 i80 := by kernel_rfl
 i85 := by kernel_rfl
 i127 := by kernel_rfl
 i143 := by kernel_rfl
 i145 := by kernel_rfl
 i167 := by kernel_rfl
 i168 := by kernel_rfl
 i171 := by kernel_rfl
 i173 := by kernel_rfl
 i175 := by kernel_rfl
 i210 := by kernel_rfl
 i212 := by kernel_rfl
 i232 := by kernel_rfl
 i233 := by kernel_rfl
 m15 := by kernel_rfl
 m16 := by kernel_rfl
 m17 := by kernel_rfl
 m18 := by kernel_rfl
 m19 := by kernel_rfl
 c0 := by kernel_rfl
 c2 := by kernel_rfl
 c3 := by kernel_rfl
 c4 := by kernel_rfl
 c5 := by kernel_rfl
 c9 := by kernel_rfl
 c20 := by kernel_rfl
 c21 := by kernel_rfl
 c37 := by kernel_rfl
 c46 := by kernel_rfl
 c51 := by kernel_rfl
 c53 := by kernel_rfl
 c75 := by kernel_rfl
 c76 := by kernel_rfl
 c80 := by kernel_rfl
 c85 := by kernel_rfl
 c127 := by kernel_rfl
 c143 := by kernel_rfl
 c145 := by kernel_rfl
 c167 := by kernel_rfl
 c168 := by kernel_rfl
 c171 := by kernel_rfl
 c173 := by kernel_rfl
 c175 := by kernel_rfl
 c210 := by kernel_rfl
 c212 := by kernel_rfl
 c213 := by kernel_rfl
 c232 := by kernel_rfl
 c233 := by kernel_rfl }
def Tryz.lays169_ren : Go.Shelf.Ren := ⟨fun | 169 => 89 | n => n, fun | 70 => 98 | 9 => 9 | 0 => 0 | 72 => 100 | 37 => 22 | 127 => 121 | 3 => 3 | 5 => 5 | n => n, fun | n => n⟩
theorem Tryz.lays169 : Go.Proofs.Lays.n169 Tryz.prog Tryz.lays169_ren := {
 mixed := by kernel_rfl
 f169 := Tryz.func89.trans (congrArg some (by kernel_rfl))
 t0 := Tryz.underlying0
 a0 := Tryz.isAgg0
 z0 := Tryz.sizeOf0
 v0 := Tryz.zeroValue0
 t3 := Tryz.underlying3
 a3 := Tryz.isAgg3
 z3 := Tryz.sizeOf3
 v3 := Tryz.zeroValue3
 t9 := Tryz.underlying9
 a9 := Tryz.isAgg9
 z9 := Tryz.sizeOf9
 v9 := Tryz.zeroValue9
 t37 := Tryz.underlying22
 a37 := Tryz.isAgg22
 z37 := Tryz.sizeOf22
 v37 := Tryz.zeroValue22
 t70 := Tryz.underlying98
 a70 := Tryz.isAgg98
 z70 := Tryz.sizeOf98
 v70 := Tryz.zeroValue98
 t72 := Tryz.underlying100
 a72 := Tryz.isAgg100
 z72 := Tryz.sizeOf100
 v72 := Tryz.zeroValue100
 t127 := Tryz.underlying121
 a127 := Tryz.isAgg121
 z127 := Tryz.sizeOf121
 v127 := Tryz.zeroValue121 }
theorem Tryz.Builder_Extra_169 : Builder.Extra Tryz.prog Tryz.lays169_ren := {
 sizeBuilder := by kernel_rfl
 liesBuilder := by kernel_rfl
 t5 := Tryz.underlying5
 a5 := Tryz.isAgg5
 z5 := Tryz.sizeOf5
 v5 := Tryz.zeroValue5
 infoByte := by kernel_rfl
 cellsByte := by kernel_rfl
 sizeByte := by kernel_rfl
 neB5 := by decide }
def Tryz.laysM171_ren : Go.Shelf.Ren := ⟨fun | 171 => 117 | 243 => 135 | 246 => 142 | 283 => 153 | 284 => 154 | 285 => 155 | 286 => 156 | 129 => 163 | 317 => 162 | 318 => 164 | 319 => 165 | 320 => 166 | 337 => 169 | 338 => 170 | n => n, fun | 3 => 3 | 9 => 9 | 2 => 2 | 4 => 4 | 171 => 140 | 0 => 0 | 53 => 70 | 37 => 22 | 5 => 5 | 173 => 143 | 212 => 155 | 51 => 145 | 20 => 20 | 213 => 156 | 46 => 129 | 232 => 164 | 233 => 165 | n => n, fun | 17 => 3 | 18 => 4 | 19 => 5 | n => n⟩
theorem Tryz.laysM171 : Go.Proofs.LaysM.n171 Tryz.prog Tryz.laysM171_ren := {
 mixed := by kernel_rfl
 f129 := Tryz.func163.trans (congrArg some (by kernel_rfl))
 f171 := Tryz.func117.trans (congrArg some (by kernel_rfl))
 f243 := Tryz.func135.trans (congrArg some (by kernel_rfl))
 f246 := Tryz.func142.trans (congrArg some (by kernel_rfl))
 f283 := Tryz.func153.trans (congrArg some (by kernel_rfl))
 f284 := Tryz.func154.trans (congrArg some (by kernel_rfl))
 f285 := Tryz.func155.trans (congrArg some (by kernel_rfl))
 f286 := Tryz.func156.trans (congrArg some (by kernel_rfl))
 f317 := Tryz.func162.trans (congrArg some (by kernel_rfl))
 f318 := Tryz.func164.trans (congrArg some (by kernel_rfl))
 f319 := Tryz.func165.trans (congrArg some (by kernel_rfl))
 f320 := Tryz.func166.trans (congrArg some (by kernel_rfl))
 f337 := Tryz.func169.trans (congrArg some (by kernel_rfl))
 f338 := Tryz.func170.trans (congrArg some (by kernel_rfl))
 t0 := Tryz.underlying0
 a0 := Tryz.isAgg0
 z0 := Tryz.sizeOf0
 v0 := Tryz.zeroValue0
 t2 := Tryz.underlying2
 a2 := Tryz.isAgg2
 z2 := Tryz.sizeOf2
 v2 := Tryz.zeroValue2
 t3 := Tryz.underlying3
 a3 := Tryz.isAgg3
 z3 := Tryz.sizeOf3
 v3 := Tryz.zeroValue3
 t4 := Tryz.underlying4
 a4 := Tryz.isAgg4
 z4 := Tryz.sizeOf4
 v4 := Tryz.zeroValue4
 t5 := Tryz.underlying5
 a5 := Tryz.isAgg5
 z5 := Tryz.sizeOf5
 v5 := Tryz.zeroValue5
 t9 := Tryz.underlying9
 a9 := Tryz.isAgg9
 z9 := Tryz.sizeOf9
 v9 := Tryz.zeroValue9
 t20 := Tryz.underlying20
 a20 := Tryz.isAgg20
 z20 := Tryz.sizeOf20
 v20 := Tryz.zeroValue20
 t37 := Tryz.underlying22
 a37 := Tryz.isAgg22
 z37 := Tryz.sizeOf22
 v37 := Tryz.zeroValue22
 t46 := Tryz.underlying129
 a46 := Tryz.isAgg129
 z46 := Tryz.sizeOf129
 v46 := Tryz.zeroValue129
 t51 := Tryz.underlying145
 a51 := Tryz.isAgg145
 z51 := Tryz.sizeOf145
 v51 := Tryz.zeroValue145
 t53 := Tryz.underlying70
 a53 := Tryz.isAgg70
 z53 := Tryz.sizeOf70
 v53 := Tryz.zeroValue70
 t171 := Tryz.underlying140
 a171 := Tryz.isAgg140
 z171 := Tryz.sizeOf140
 v171 := Tryz.zeroValue140
 t173 := Tryz.underlying143
 a173 := Tryz.isAgg143
 z173 := Tryz.sizeOf143
 v173 := Tryz.zeroValue143
 t212 := Tryz.underlying155
 a212 := Tryz.isAgg155
 z212 := Tryz.sizeOf155
 v212 := Tryz.zeroValue155
 t213 := Tryz.underlying156
 a213 := Tryz.isAgg156
 z213 := Tryz.sizeOf156
 t232 := Tryz.underlying164
 a232 := Tryz.isAgg164
 z232 := Tryz.sizeOf164
 v232 := Tryz.zeroValue164
 t233 := Tryz.underlying165
 a233 := Tryz.isAgg165
 z233 := Tryz.sizeOf165
 v233 := Tryz.zeroValue165
 g17 := by kernel_rfl
 g18 := by kernel_rfl
 g19 := by kernel_rfl
 i0 := by kernel_rfl
 i2 := by kernel_rfl
 i3 := by kernel_rfl
 i4 := by kernel_rfl
 i5 := by kernel_rfl
 i9 := by kernel_rfl
 i20 := by kernel_rfl
 i37 := by kernel_rfl
 i46 := by kernel_rfl
 i51 := by kernel_rfl
 i53 := by kernel_rfl
 i171 := by kernel_rfl
 i173 := by kernel_rfl
 i212 := by kernel_rfl
 i232 := by kernel_rfl
 i233 := by kernel_rfl
 m17 := by kernel_rfl
 m18 := by kernel_rfl
 m19 := by kernel_rfl }
open Go.RowKit Go.Sort Go.Lib in
theorem Tryz.strconv_Itoa (n : Int) (h0 : -9223372036854775808 ≤ n) (h1 : n ≤ 9223372036854775807) (w : World) (htab : Lib.TabIs Tryz.prog w "internal/strconv.uint64pow10" .u64 Lib.pow10Tab) :
  Calls Tryz.prog 117 #[.int .i64 n] w fun e w' => e = .returned (.string ⟨(Lib.itoa n).toArray⟩) ∧ ∃ k os, w' = grow (w.drewN k) os := Any.strconv_Itoa Tryz.laysM171 n h0 h1 w htab
def Tryz.lays145_ren : Go.Shelf.Ren := ⟨fun | 145 => 98 | 220 => 127 | 219 => 139 | 217 => 144 | 225 => 145 | 224 => 146 | 267 => 147 | 266 => 157 | 314 => 158 | n => n, fun | 9 => 9 | 4 => 4 | 59 => 113 | 3 => 3 | 5 => 5 | 46 => 129 | 146 => 146 | 51 => 145 | n => n, fun | 1 => 0 | n => n⟩
theorem Tryz.lays145 : Go.Proofs.Lays.n145 Tryz.prog Tryz.lays145_ren := {
 mixed := by kernel_rfl
 f145 := Tryz.func98.trans (congrArg some (by kernel_rfl))
 f217 := Tryz.func144.trans (congrArg some (by kernel_rfl))
 f219 := Tryz.func139.trans (congrArg some (by kernel_rfl))
 f220 := Tryz.func127.trans (congrArg some (by kernel_rfl))
 f224 := Tryz.func146.trans (congrArg some (by kernel_rfl))
 f225 := Tryz.func145.trans (congrArg some (by kernel_rfl))
 f266 := Tryz.func157.trans (congrArg some (by kernel_rfl))
 f267 := Tryz.func147.trans (congrArg some (by kernel_rfl))
 f314 := Tryz.func158.trans (congrArg some (by kernel_rfl))
 t3 := Tryz.underlying3
 a3 := Tryz.isAgg3
 z3 := Tryz.sizeOf3
 v3 := Tryz.zeroValue3
 t4 := Tryz.underlying4
 a4 := Tryz.isAgg4
 z4 := Tryz.sizeOf4
 v4 := Tryz.zeroValue4
 t5 := Tryz.underlying5
 a5 := Tryz.isAgg5
 z5 := Tryz.sizeOf5
 v5 := Tryz.zeroValue5
 t9 := Tryz.underlying9
 a9 := Tryz.isAgg9
 z9 := Tryz.sizeOf9
 v9 := Tryz.zeroValue9
 t46 := Tryz.underlying129
 a46 := Tryz.isAgg129
 z46 := Tryz.sizeOf129
 v46 := Tryz.zeroValue129
 t51 := Tryz.underlying145
 a51 := Tryz.isAgg145
 z51 := Tryz.sizeOf145
 v51 := Tryz.zeroValue145
 t59 := Tryz.underlying113
 a59 := Tryz.isAgg113
 z59 := Tryz.sizeOf113
 v59 := Tryz.zeroValue113
 t146 := Tryz.underlying146
 a146 := Tryz.isAgg146
 z146 := Tryz.sizeOf146
 v146 := Tryz.zeroValue146
 g1 := by kernel_rfl }
end Go.Proofs
namespace Go.PV
open Go Go.PV Go.Proofs
theorem ynq {a0 : Int} {r : ByteArray} (h : strconv_Itoa a0 = some r) : Meets Tryz.prog 117 [wI a0] { vals := [.p (.string r)] } := by
 unfold strconv_Itoa at h
 obtain ⟨u1, hu1, h⟩ := bind_some' h
 have hg := yea hu1
 obtain rfl := Option.some.inj h
 exact ygg1 (by kernel_rfl) (by kernel_rfl) fun w hw => Go.Proofs.Tryz.strconv_Itoa a0 hg.1 hg.2 w hw
theorem yjm {a0 : Qr}  {r : ByteArray} (h : yqf a0 = some r) : Meets Tryz.prog 88 [.v (vRt a0)] { vals := [.p (.string r)] } := by
 refine mo Tryz.func88 [(0, .p (vRt a0))] ?_
 unfold yqf at h
 refine kG [(1, .box (eRt a0))] [] trivial ?_
 obtain ⟨v1, hv1, h⟩ := bs h
 obtain ⟨u2, hu2, h⟩ := bs h
 obtain ⟨v3, hv3, h⟩ := bs h
 obtain ⟨u4, hu4, h⟩ := bs h
 refine yya (r_dq yca 7 [] [(2, .p (.string ((v1 ++ (ByteArray.mk #[47])) ++ v3)))] [(2, (cN [.p (.string v1)])), (6, (cN [.p (.string v3)]))] (A4 (ynq hv1) (yea hu2) (ynq hv3) (yea hu4))) ?_
 refine yva ?_
 obtain rfl := oi h
 exact er [(.p (.string ((v1 ++ (ByteArray.mk #[47])) ++ v3)), 2)]
end Go.PV
namespace Go.Proofs
open Go.Shelf Go.RowKit
set_option maxHeartbeats 1000000 in
set_option maxRecDepth 100000 in
theorem Tryz.bld_used (b : Nat) (w : World) (h0 : w.cell? ⟨b, 0, none⟩ = some (.pointer (some ⟨b, 0, none⟩))) :
  Calls Tryz.prog 116 #[.pointer (some ⟨b, 0, none⟩)] w fun e w' => e = .returned (.tuple #[]) ∧ w' = w := by
 have hsz : (Tryz.prog.info? 100).map (·.size) = some 2 := by kernel_rfl
 obtain ⟨j, hj, _⟩ := Option.map_eq_some_iff.1 hsz
 have mixed : Tryz.prog.follows .mixedOrders = true := by kernel_rfl
 have t72 := Tryz.underlying100; have a72 := Tryz.isAgg100; have z72 := Tryz.sizeOf100; have v72 := Tryz.zeroValue100; have u72 := run_underlying Tryz.underlying100
 have t70 := Tryz.underlying98; have a70 := Tryz.isAgg98; have z70 := Tryz.sizeOf98; have v70 := Tryz.zeroValue98; have u70 := run_underlying Tryz.underlying98
 have t4 := Tryz.underlying4; have a4 := Tryz.isAgg4; have z4 := Tryz.sizeOf4; have v4 := Tryz.zeroValue4; have u4 := run_underlying Tryz.underlying4
 go_enter Tryz.func116, Tryz.ntmps116
 go_wp2
 rw [Lib.run_neq_ptr_same w _ Tryz.underlying98 hj]
 go_wp2
 go_end0
 exact ⟨rfl, rfl⟩
set_option maxHeartbeats 1000000 in
set_option maxRecDepth 100000 in
theorem Tryz.bld_fresh (b : Nat) (w : World) (h0 : w.cell? ⟨b, 0, none⟩ = some (.pointer none)) (hsh : w.shape? b = some (100, 2)) (hfz : w.frozen? ⟨b, 0, none⟩ = false) :
  Calls Tryz.prog 116 #[.pointer (some ⟨b, 0, none⟩)] w fun e w' => e = .returned (.tuple #[]) ∧ w' = w.setCell ⟨b, 0, none⟩ (.pointer (some ⟨b, 0, none⟩)) := by
 have hsz : (Tryz.prog.info? 100).map (·.size) = some 2 := by kernel_rfl
 have hlies : liesAt Tryz.prog Tryz.prog.depth 100 (2 / Tryz.prog.cellsOf 100) 0 100 1 = true := by kernel_rfl
 obtain ⟨j, hj, hjs⟩ := Option.map_eq_some_iff.1 hsz
 have mixed : Tryz.prog.follows .mixedOrders = true := by kernel_rfl
 have t72 := Tryz.underlying100; have a72 := Tryz.isAgg100; have z72 := Tryz.sizeOf100; have v72 := Tryz.zeroValue100; have u72 := run_underlying Tryz.underlying100
 have t70 := Tryz.underlying98; have a70 := Tryz.isAgg98; have z70 := Tryz.sizeOf98; have v70 := Tryz.zeroValue98; have u70 := run_underlying Tryz.underlying98
 have t4 := Tryz.underlying4; have a4 := Tryz.isAgg4; have z4 := Tryz.sizeOf4; have v4 := Tryz.zeroValue4; have u4 := run_underlying Tryz.underlying4
 have t164 := Tryz.underlying127; have a164 := Tryz.isAgg127; have z164 := Tryz.sizeOf127; have v164 := Tryz.zeroValue127; have u164 := run_underlying Tryz.underlying127
 go_enter Tryz.func116, Tryz.ntmps116
 go_wp2
 rw [Lib.run_to_unsafe w ⟨b, 0, none⟩ Tryz.underlying98 Tryz.underlying127 hj (by rw [hjs]; decide) hsh (Nat.zero_lt_succ 1)]
 simp only [Result.andThen]
 rw [Oper.upon_value]
 go_wp2
 rw [run_callFunc_extern Tryz.func134 (by kernel_rfl) (by kernel_rfl) (by kernel_rfl) (e := Extern.AbiNoEscape.same) (by kernel_rfl)]
 rw [Lib.run_noEscape]
 simp only [Result.andThen]
 rw [Oper.upon_value]
 go_wp2
 rw [Lib.run_from_unsafe w ⟨b, 0, none⟩ Tryz.underlying127 Tryz.underlying98 hj hsh hlies]
 simp only [Result.andThen]
 rw [Oper.upon_value]
 go_wp2
 go_end0
 exact ⟨rfl, rfl⟩
end Go.Proofs
namespace Go.PV
open Go Go.PV Go.Proofs
theorem ygl {a0 : (Unit × (List Int))} {r : (Unit × (List Int))} (h : yad a0 = some r) : MeetsB Tryz.prog 116 (.box [.bp 100, .sl (some 5) (a0.2.map (eU .u8))]) [] [] (.box [.bp 100, .sl (some 5) (r.2.map (eU .u8))]) := by
 unfold yad at h
 obtain rfl := Option.some.inj h
 exact yfw (by kernel_rfl) (fun b w h => Go.Proofs.Tryz.bld_used b w h) (fun b w h1 h2 h3 => Go.Proofs.Tryz.bld_fresh b w h1 h2 h3)
theorem ylk {a0 : (Unit × (List Int))} {a1 : ByteArray}  {r : (Int × Unit × (Unit × (List Int)))} (h : yic a0 a1 = some r) : MeetsB Tryz.prog 87 (.box [.bp 100, .sl (some 5) (a0.2.map (eU .u8))]) [.v (.string a1)] [.p (iV r.1), .p (.nilIface)] (.box [.bp 100, .sl (some 5) (r.2.2.2.map (eU .u8))]) := by
 refine mob Tryz.func87 [(0, .box [.bp 100, .sl (some 5) (a0.2.map (eU .u8))]), (1, .p (.string a1))] ?_
 unfold yic at h
 refine kG [(0, .box [.bp 100, .sl (some 5) (a0.2.map (eU .u8))]), (1, .p (.string a1))] [] trivial ?_
 obtain ⟨v1, hv1, h⟩ := bs h
 refine kG [(0, .box [.bp 100, .sl (some 5) (v1.2.map (eU .u8))]), (1, .p (.string a1))] [(1, (lNf [] (.box [.bp 100, .sl (some 5) (v1.2.map (eU .u8))])))] (A1 (ygl hv1)) ?_
 obtain ⟨u2, hu2, h⟩ := bs h
 refine kG [(0, .box [.bp 100, .sl (some 5) ((v1.2 ++ bytesL a1).map (eU .u8))]), (1, .p (.string a1))] [(6, {take := some (12, [.sl (some 5) (v1.2.map (eU .u8))]), fix := some (14, .ov false [.sl (some 5) ((v1.2 ++ bytesL a1).map (eU .u8))])})] (A4 (show frR [.sl (some 5) (v1.2.map (eU .u8))] = false from rfl) (show getRow [[.bp 100, .sl (some 5) (v1.2.map (eU .u8))]] [(0, 1)] = some [.sl (some 5) (v1.2.map (eU .u8))] from rfl) (show List.length ((v1.2.map (eU .u8)) : List (List C)) + a1.size ≤ 1099511627776 from (by have hg := (yea hu2); simpa using hg)) (show (SV.ov false [.sl (some 5) ((v1.2.map (eU .u8)) ++ bytesR a1)] : SV) = .ov false [.sl (some 5) ((v1.2 ++ bytesL a1).map (eU .u8))] from (congrArg (fun z => SV.ov false [.sl (some 5) z]) (ynp1 v1.2 a1)))) ?_
 refine kG [(0, .box [.bp 100, .sl (some 5) ((v1.2 ++ bytesL a1).map (eU .u8))]), (4, .p (iV (a1.size : Int))), (5, .p (.nilIface))] [] trivial ?_
 refine yva ?_
 obtain rfl := oi h
 exact ebr [(.p (iV (a1.size : Int)), 4), (.p (.nilIface), 5)]
theorem yen {a0 : (Unit × (List Int))} {r : ByteArray} (h : ype a0 = some r) : MeetsB Tryz.prog 89 (.box [.bp 100, .sl (some 5) (a0.2.map (eU .u8))]) [] [.p (.string r)] .u := by
 unfold ype at h
 obtain ⟨u1, hu1, h⟩ := bind_some' h
 have hg := yea hu1
 obtain rfl := Option.some.inj h
 rw [yig1 hg.2]
 exact ytz Go.Proofs.Tryz.lays169 Go.Proofs.Tryz.Builder_Extra_169 (by simpa using hg.1) (by kernel_rfl) (by kernel_rfl)
theorem ykt {a0 : (List Qp)}  {r : ByteArray} (h : ydi a0 = some r) : Meets Tryz.prog 43 [.d false (sP a0)] { vals := [.p (.string r)] } := by
 refine mo Tryz.func43 [(0, .d false (sP a0))] ?_
 unfold ydi at h
 refine kG [(0, .d false (sP a0))] [] trivial ?_
 refine kG [(0, .d false (sP a0)), (3, .box [.bp 100, .sl (some 5) []])] [] trivial ?_
 refine yhd (J := fun (x : (List Int)) => [(3, .box [.bp 100, .sl (some 5) (x.map (eU .u8))])]) (K := fun x => yjh x = some r) (fun x1 h => ?_) ?_
 ·unfold yjh at h
  obtain ⟨v2, hv2, h⟩ := bs h
  refine kG [(2, .p (.string v2))] [(0, {lend := some (none, [.p (.string v2)], .u, true)})] (A1 (yen hv2)) ?_
  refine yva ?_
  obtain rfl := oi h
  exact er [(.p (.string v2), 2)]
 refine kG [(3, .box [.bp 100, .sl (some 5) []]), (6, .d false (sP a0)), (7, .p (iV (a0.length : Int))), (8, .p (iV 0))] [(1, {n := some a0.length})] (A1 (lnP a0)) ?_
 refine ywa ?_
 obtain ⟨y4, hl_x3, hk_x3⟩ := bs h
 clear h
 refine yuh (J := fun (x : ((List Int) × Int)) => [(3, .box [.bp 100, .sl (some 5) (x.1.map (eU .u8))]), (6, .d false (sP a0)), (7, .p (iV (a0.length : Int))), (8, .p (iV x.2))]) hl_x3 wkk (fun x3 o_x3 h hy_x3 => ?_)
 unfold ysd at h
 refine kG [(3, .box [.bp 100, .sl (some 5) (x3.1.map (eU .u8))]), (6, .d false (sP a0)), (7, .p (iV (a0.length : Int))), (8, .p (iV x3.2)), (9, .p (.bool (decide (x3.2 < (a0.length : Int)))))] [] trivial ?_
 refine yqb (kc (decide (x3.2 < (a0.length : Int))) (fun hc5_4 => ?_) (fun hc5_4 => ?_))
 ·replace h := yma hc5_4 h
  refine yja (q_n (yqb (ywa ?_)))
  obtain ⟨v6, hv6, h⟩ := bs h
  refine kG [(3, .box [.bp 100, .sl (some 5) (x3.1.map (eU .u8))]), (5, .box (ePt v6)), (6, .d false (sP a0)), (7, .p (iV (a0.length : Int))), (8, .p (iV x3.2))] [(0, {row := some (ePt v6)})] (A2 (yba hv6).1 (yia ePt (yba hv6).2)) ?_
  obtain ⟨v7, hv7, h⟩ := bs h
  obtain ⟨u8, hu8, h⟩ := bs h
  obtain ⟨v9, hv9, h⟩ := bs h
  obtain ⟨u10, hu10, h⟩ := bs h
  obtain ⟨u11, hu11, h⟩ := bs h
  obtain ⟨v12, hv12, h⟩ := bs h
  refine yff (r_dq yca 7 [] [(3, .box [.bp 100, .sl (some 5) (v12.2.2.2.map (eU .u8))]), (6, .d false (sP a0)), (7, .p (iV (a0.length : Int))), (8, .p (iV x3.2))] [(2, (cN [.p (.string v7)])), (6, (cN [.p (.string v9)])), (9, (lNf [.p (iV v12.1), .p (.nilIface)] (.box [.bp 100, .sl (some 5) (v12.2.2.2.map (eU .u8))])))] (A6 (yjm hv7) (yea hu8) (yjm hv9) (yea hu10) (yea hu11) (ylk hv12))) ?_
  refine b_n (q_n (yff (r_gq [(3, .box [.bp 100, .sl (some 5) (v12.2.2.2.map (eU .u8))]), (6, .d false (sP a0)), (7, .p (iV (a0.length : Int))), (8, .p (iV (w64 (x3.2 + 1))))] [] trivial) ?_))
  exact lqn (v12.2.2.2, (w64 (x3.2 + 1))) h
 replace h := yna hc5_4 h
 refine ykg (q_x (lq_x (b_x ?_)))
 have hyy := hy_x3 _ (oi h).symm
 subst hyy
 have h := hk_x3
 refine q_n ?_
 exact jx x3.1 h
theorem ymv {a0 : (List Qp)}  {r : (ByteArray × Bool)} (h : yjk a0 = some r) : Meets Tryz.prog 7 [.d true (sP a0)] { vals := [.p (.string r.1), .p (.bool r.2)] } := by
 refine mo Tryz.func7 [(0, .d true (sP a0))] ?_
 unfold yjk at h
 refine kG [(1, .box (sP a0))] [] trivial ?_
 refine yqb ?_
 obtain ⟨v1, hv1, h⟩ := bs h
 refine kG [(1, .box (sP a0)), (6, .p (.bool (!v1)))] [(0, bT), (1, (cN [.p (.bool v1)]))] (A2 (frE a0) (yac hv1)) ?_
 refine kc (!v1) (fun hc2_1 => ?_) (fun hc2_1 => ?_)
 ·replace h := yma hc2_1 h
  refine kG [(2, .p (.string ByteArray.empty)), (3, .p (.bool false))] [] trivial ?_
  refine yva (q_r ?_)
  obtain rfl := oi h
  exact er [(.p (.string ByteArray.empty), 2), (.p (.bool false), 3)]
 replace h := yna hc2_1 h
 refine yja (q_n ?_)
 obtain ⟨v3, hv3, h⟩ := bs h
 refine kG [(2, .p (.string v3)), (3, .p (.bool true))] [(1, bT), (2, (cN [.p (.string v3)]))] (A2 (frE a0) (ykt hv3)) ?_
 refine yva ?_
 obtain rfl := oi h
 exact er [(.p (.string v3), 2), (.p (.bool true), 3)]
theorem yhw {rc : (Int → Option ByteArray)} {a0 : Int} (hrc : ∀ x0 y, rc x0 = some y → Meets Tryz.prog 119 [wI x0] { vals := [.p (.string y)] }) {r : ByteArray} (h : yyg rc a0 = some r) : Meets Tryz.prog 119 [wI a0] { vals := [.p (.string r)] } := by
 refine mo Tryz.func119 [(0, .p (iV a0))] ?_
 unfold yyg at h
 refine kG [(0, .p (iV a0))] [] trivial ?_
 refine yqb (kG [(0, .p (iV a0)), (4, .p (.bool (decide (a0 < 10))))] [] trivial ?_)
 refine kc (decide (a0 < 10)) (fun hc2_0 => ?_) (fun hc2_0 => ?_)
 ·replace h := yma hc2_0 h
  refine kG [(2, .p (.string (byteB (IntKind.wrap .u8 (w64 (48 + a0))))))] [(2, {pv := some (.int .u8 (IntKind.wrap .u8 (w64 (48 + a0))))}), (4, {bts := some [UInt8.ofNat (Int.toNat (IntKind.wrap .u8 (w64 (48 + a0))))]})] (A2 (show PureAt Tryz.prog (.convert 3 5 (.tmp 6)) [.int .i64 (w64 (48 + a0))] (.int .u8 (IntKind.wrap .u8 (w64 (48 + a0)))) from (yxp ybq yzu)) (show ([UInt8.ofNat (Int.toNat (IntKind.wrap .u8 (w64 (48 + a0))))] ≠ [] ∧ [[C.raw (.int .u8 (IntKind.wrap .u8 (w64 (48 + a0))))]] = [UInt8.ofNat (Int.toNat (IntKind.wrap .u8 (w64 (48 + a0))))].map fun c => [C.raw (.int .u8 (c.toNat : Int))]) from bts1)) ?_
  refine yva (q_r ?_)
  obtain rfl := oi h
  exact er [(.p (.string (byteB (IntKind.wrap .u8 (w64 (48 + a0))))), 2)]
 replace h := yna hc2_0 h
 refine yja (q_n ?_)
 obtain ⟨v2, hv2, h⟩ := bs h
 obtain ⟨u3, hu3, h⟩ := bs h
 refine yya (r_dq yca 9 [] [(2, .p (.string (v2 ++ (byteB (IntKind.wrap .u8 (w64 (48 + (Int.tmod a0 10))))))))] [(2, (cN [.p (.string v2)])), (6, {pv := some (.int .u8 (IntKind.wrap .u8 (w64 (48 + (Int.tmod a0 10)))))}), (8, {bts := some [UInt8.ofNat (Int.toNat (IntKind.wrap .u8 (w64 (48 + (Int.tmod a0 10)))))]})] (A6 (show 10 ≠ (0 : Int) from (by decide)) (hrc _ _ hv2) (show 10 ≠ (0 : Int) from (by decide)) (show PureAt Tryz.prog (.convert 3 5 (.tmp 15)) [.int .i64 (w64 (48 + (Int.tmod a0 10)))] (.int .u8 (IntKind.wrap .u8 (w64 (48 + (Int.tmod a0 10))))) from (yxp ybq yzu)) (show ([UInt8.ofNat (Int.toNat (IntKind.wrap .u8 (w64 (48 + (Int.tmod a0 10)))))] ≠ [] ∧ [[C.raw (.int .u8 (IntKind.wrap .u8 (w64 (48 + (Int.tmod a0 10)))))]] = [UInt8.ofNat (Int.toNat (IntKind.wrap .u8 (w64 (48 + (Int.tmod a0 10)))))].map fun c => [C.raw (.int .u8 (c.toNat : Int))]) from bts1) (yea hu3))) ?_
 refine yva ?_
 obtain rfl := oi h
 exact er [(.p (.string (v2 ++ (byteB (IntKind.wrap .u8 (w64 (48 + (Int.tmod a0 10))))))), 2)]
theorem yoq : ∀ (k : Nat) {a0 : Int} {r : ByteArray} (h : yse k a0 = some r), Meets Tryz.prog 119 [wI a0] { vals := [.p (.string r)] }
 | 0, _, _, h => by cases h
 | k + 1, _, _, h => yhw (fun _ _ hy => yoq k hy) h
theorem yyo {a0 : Int} {r : ByteArray} (h : ytl a0 = some r) : Meets Tryz.prog 119 [wI a0] { vals := [.p (.string r)] } := by
 obtain ⟨k, hk⟩ := yzf1 h
 exact yoq k hk
theorem yxz {a0 : Int}  {r : ByteArray} (h : ypp a0 = some r) : Meets Tryz.prog 118 [wI a0] { vals := [.p (.string r)] } := by
 refine mo Tryz.func118 [(0, .p (iV a0))] ?_
 unfold ypp at h
 refine kG [(0, .p (iV a0))] [] trivial ?_
 refine yqb (kG [(0, .p (iV a0)), (4, .p (.bool (decide (a0 < 0))))] [] trivial ?_)
 refine kc (decide (a0 < 0)) (fun hc2_0 => ?_) (fun hc2_0 => ?_)
 ·obtain ⟨v2, hv2, h⟩ := bs (yma hc2_0 h)
  obtain ⟨u3, hu3, h⟩ := bs h
  refine kG [(2, .p (.string ((ByteArray.mk #[45]) ++ v2)))] [(2, (cN [.p (.string v2)]))] (A2 (yyo hv2) (yea hu3)) ?_
  refine yva (q_r ?_)
  obtain rfl := oi h
  exact er [(.p (.string ((ByteArray.mk #[45]) ++ v2)), 2)]
 replace h := yna hc2_0 h
 refine yja (q_n ?_)
 obtain ⟨v4, hv4, h⟩ := bs h
 refine kG [(2, .p (.string v4))] [(1, (cN [.p (.string v4)]))] (A1 (yyo hv4)) ?_
 refine yva ?_
 obtain rfl := oi h
 exact er [(.p (.string v4), 2)]
theorem yao {a0 : Qr}  {r : ByteArray} (h : yhh a0 = some r) : Meets Tryz.prog 90 [.v (vRt a0)] { vals := [.p (.string r)] } := by
 refine mo Tryz.func90 [(0, .p (vRt a0))] ?_
 unfold yhh at h
 refine kG [(1, .box (eRt a0))] [] trivial ?_
 obtain ⟨v1, hv1, h⟩ := bs h
 obtain ⟨u2, hu2, h⟩ := bs h
 obtain ⟨v3, hv3, h⟩ := bs h
 obtain ⟨u4, hu4, h⟩ := bs h
 refine yya (r_dq yca 7 [] [(2, .p (.string ((v1 ++ (ByteArray.mk #[47])) ++ v3)))] [(2, (cN [.p (.string v1)])), (6, (cN [.p (.string v3)]))] (A4 (yxz hv1) (yea hu2) (yyo hv3) (yea hu4))) ?_
 refine yva ?_
 obtain rfl := oi h
 exact er [(.p (.string ((v1 ++ (ByteArray.mk #[47])) ++ v3)), 2)]
theorem ybo {a0 : (List Qp)}  {r : ByteArray} (h : yxj a0 = some r) : Meets Tryz.prog 44 [.d false (sP a0)] { vals := [.p (.string r)] } := by
 refine mo Tryz.func44 [(0, .d false (sP a0))] ?_
 unfold yxj at h
 refine kG [(0, .d false (sP a0))] [] trivial ?_
 refine kG [(0, .d false (sP a0)), (3, .p (.string ByteArray.empty))] [] trivial ?_
 refine yhd (J := fun (x : ByteArray) => [(3, .p (.string x))]) (K := fun x => yjo x = some r) (fun x1 h => ?_) ?_
 ·unfold yjo at h
  refine kG [(2, .p (.string x1))] [] trivial ?_
  refine yva ?_
  obtain rfl := oi h
  exact er [(.p (.string x1), 2)]
 refine kG [(3, .p (.string ByteArray.empty)), (6, .d false (sP a0)), (7, .p (iV (a0.length : Int))), (8, .p (iV 0))] [(1, {n := some a0.length})] (A1 (lnP a0)) ?_
 refine ywa ?_
 obtain ⟨y3, hl_x2, hk_x2⟩ := bs h
 clear h
 refine yuh (J := fun (x : (ByteArray × Int)) => [(3, .p (.string x.1)), (6, .d false (sP a0)), (7, .p (iV (a0.length : Int))), (8, .p (iV x.2))]) hl_x2 wkk (fun x2 o_x2 h hy_x2 => ?_)
 unfold yih at h
 refine kG [(3, .p (.string x2.1)), (6, .d false (sP a0)), (7, .p (iV (a0.length : Int))), (8, .p (iV x2.2)), (9, .p (.bool (decide (x2.2 < (a0.length : Int)))))] [] trivial ?_
 refine yqb (kc (decide (x2.2 < (a0.length : Int))) (fun hc5_3 => ?_) (fun hc5_3 => ?_))
 ·replace h := yma hc5_3 h
  refine yja (q_n (yqb (ywa ?_)))
  obtain ⟨v5, hv5, h⟩ := bs h
  refine kG [(3, .p (.string x2.1)), (5, .box (ePt v5)), (6, .d false (sP a0)), (7, .p (iV (a0.length : Int))), (8, .p (iV x2.2))] [(0, {row := some (ePt v5)})] (A2 (yba hv5).1 (yia ePt (yba hv5).2)) ?_
  obtain ⟨v6, hv6, h⟩ := bs h
  obtain ⟨u7, hu7, h⟩ := bs h
  obtain ⟨v8, hv8, h⟩ := bs h
  obtain ⟨u9, hu9, h⟩ := bs h
  obtain ⟨u10, hu10, h⟩ := bs h
  obtain ⟨u11, hu11, h⟩ := bs h
  refine yff (r_dq yca 10 [] [(3, .p (.string (x2.1 ++ (((v6 ++ (ByteArray.mk #[32])) ++ v8) ++ (ByteArray.mk #[59]))))), (6, .d false (sP a0)), (7, .p (iV (a0.length : Int))), (8, .p (iV x2.2))] [(3, (cN [.p (.string v6)])), (7, (cN [.p (.string v8)]))] (A6 (yao hv6) (yea hu7) (yao hv8) (yea hu9) (yea hu10) (yea hu11))) ?_
  refine b_n (q_n (yff (r_gq [(3, .p (.string (x2.1 ++ (((v6 ++ (ByteArray.mk #[32])) ++ v8) ++ (ByteArray.mk #[59]))))), (6, .d false (sP a0)), (7, .p (iV (a0.length : Int))), (8, .p (iV (w64 (x2.2 + 1))))] [] trivial) ?_))
  exact lqn ((x2.1 ++ (((v6 ++ (ByteArray.mk #[32])) ++ v8) ++ (ByteArray.mk #[59]))), (w64 (x2.2 + 1))) h
 replace h := yna hc5_3 h
 refine ykg (q_x (lq_x (b_x ?_)))
 have hyy := hy_x2 _ (oi h).symm
 subst hyy
 have h := hk_x2
 refine q_n ?_
 exact jx x2.1 h
theorem ynv {a0 : (List Qp)}  {r : (ByteArray × Bool)} (h : ykk a0 = some r) : Meets Tryz.prog 8 [.d true (sP a0)] { vals := [.p (.string r.1), .p (.bool r.2)] } := by
 refine mo Tryz.func8 [(0, .d true (sP a0))] ?_
 unfold ykk at h
 refine kG [(1, .box (sP a0))] [] trivial ?_
 refine yqb ?_
 obtain ⟨v1, hv1, h⟩ := bs h
 refine kG [(1, .box (sP a0)), (6, .p (.bool (!v1)))] [(0, bT), (1, (cN [.p (.bool v1)]))] (A2 (frE a0) (yrc hv1)) ?_
 refine kc (!v1) (fun hc2_1 => ?_) (fun hc2_1 => ?_)
 ·replace h := yma hc2_1 h
  refine kG [(2, .p (.string ByteArray.empty)), (3, .p (.bool false))] [] trivial ?_
  refine yva (q_r ?_)
  obtain rfl := oi h
  exact er [(.p (.string ByteArray.empty), 2), (.p (.bool false), 3)]
 replace h := yna hc2_1 h
 refine yja (q_n ?_)
 obtain ⟨v3, hv3, h⟩ := bs h
 refine kG [(2, .p (.string v3)), (3, .p (.bool true))] [(1, bT), (2, (cN [.p (.string v3)]))] (A2 (frE a0) (ybo hv3)) ?_
 refine yva ?_
 obtain rfl := oi h
 exact er [(.p (.string v3), 2), (.p (.bool true), 3)]
theorem ygu {a0 : Qp} {c0 : Qr}  {r : Bool} (h : yhj a0 c0 = some r) : Meets Tryz.prog 136 [.v (vPt a0), .d false [.pt (eRt c0)]] { vals := [.p (.bool r)] } := by
 refine mo Tryz.func136 [(0, .p (vPt a0)), (1, .d false [.pt (eRt c0)])] ?_
 unfold yhj at h
 refine kG [(1, .d false [.pt (eRt c0)]), (2, .box (ePt a0))] [] trivial ?_
 obtain ⟨v1, hv1, h⟩ := bs h
 refine kG [(3, .p (.bool (!v1)))] [(3, (cN [.p (.bool v1)]))] (A1 (ydd hv1)) ?_
 refine yva ?_
 obtain rfl := oi h
 exact er [(.p (.bool (!v1)), 3)]
theorem yiw {a0 : (List Qp)} {a1 : Qr}  {r : Int} (h : ypl a0 a1 = some r) : Meets Tryz.prog 120 [.d false (sP a0), .v (vRt a1)] { vals := [.p (iV r)] } := by
 refine mo Tryz.func120 [(0, .d false (sP a0)), (1, .p (vRt a1))] ?_
 unfold ypl at h
 refine kG [(0, .d false (sP a0)), (3, .box (eRt a1))] [] trivial ?_
 refine yrr1 3 (eRt a1) (eRt a1) [(0, .d false (sP a0)), (3, .d false [.pt (eRt a1)])] (by kernel_rfl) (yxc1 (yxc1 rfl)) (by kernel_rfl) (by kernel_rfl) ?_
 obtain ⟨v1, hv1, h⟩ := bs h
 refine kG [(5, .p (iV v1))] [(2, (cN [.p (iV v1)]))] (A1 (show Meets Tryz.prog 76 ([.d false (sP a0), .d false [.fn 136 [(false, [.pt (eRt a1)])]]] ++ []) { vals := [.p (iV v1)] } from (ybc (fun x0 y hy => ygu hy) hv1))) ?_
 refine kG [(4, .p (iV (if (w64 (v1 - 1)) < 0 then 0 else (w64 (v1 - 1)))))] [] trivial ?_
 refine yva ?_
 obtain rfl := oi h
 exact er [(.p (iV (if (w64 (v1 - 1)) < 0 then 0 else (w64 (v1 - 1)))), 4)]
theorem ydr {a0 : Qr} {a1 : Qr}  {r : (Qr × Bool)} (h : ytf a0 a1 = some r) : Meets Tryz.prog 143 [.v (vRt a0), .v (vRt a1)] { vals := [.p (vRt r.1), .p (.bool r.2)] } := by
 refine mo Tryz.func143 [(0, .p (vRt a0)), (1, .p (vRt a1))] ?_
 unfold ytf at h
 refine kG [(2, .box (eRt a0)), (3, .box (eRt a1)), (4, .box zR)] [] trivial ?_
 refine yqb ?_
 obtain ⟨v1, hv1, h⟩ := bs h
 refine kG [(2, .box (eRt a0)), (3, .box (eRt a1)), (4, .box zR), (10, .p (.bool (!v1)))] [(3, (cS [.d false [.sl none (([a0, a1]).map eRt)]] [.p (.bool v1)]))] (A2 (show ([.d false [.sl none (eraL (([a0, a1]).map eRt))]] : List Arg) = [.d false [.sl none (([a0, a1]).map eRt)]] from (by simp only [yza (h := eRt) (ysm er_I er_I)])) (ybk hv1)) ?_
 refine kc (!v1) (fun hc2_1 => ?_) (fun hc2_1 => ?_)
 ·replace h := yma hc2_1 h
  refine kG [(4, .box zR), (5, .p (.bool false))] [] trivial ?_
  refine yva (q_r ?_)
  obtain rfl := oi h
  exact er [(.p (.agg #[.int .i64 0, .int .i64 0]), 4), (.p (.bool false), 5)]
 replace h := yna hc2_1 h
 refine yja (q_n ?_)
 obtain ⟨v3, hv3, h⟩ := bs h
 refine kG [(4, .box (eRt v3.1)), (5, .p (.bool v3.2))] [(10, (cN [.p (vRt v3.1), .p (.bool v3.2)]))] (A1 (yyn hv3)) ?_
 refine yva ?_
 obtain rfl := oi h
 exact er [(.p (vRt v3.1), 4), (.p (.bool v3.2), 5)]
theorem yov {a0 : Bool} {a1 : Qr} {a2 : Qr}  {r : (Qr × Bool)} (h : yhk a0 a1 a2 = some r) : MeetsB Tryz.prog 137 (.box [.raw (.bool a0)]) [.v (vRt a1), .v (vRt a2)] [.p (vRt r.1)] (.box [.raw (.bool r.2)]) := by
 refine mob Tryz.func137 [(0, .box [.raw (.bool a0)]), (1, .p (vRt a1)), (2, .p (vRt a2))] ?_
 unfold yhk at h
 refine kG [(0, .box [.raw (.bool a0)]), (4, .box (eRt a1)), (5, .box (eRt a2)), (6, .box zR)] [] trivial ?_
 obtain ⟨v1, hv1, h⟩ := bs h
 obtain ⟨v2, hv2, h⟩ := bs h
 refine kG [(0, .box [.raw (.bool v2.2)]), (6, .box (eRt v2.1))] [(3, (cN [.p (vRt v1.1), .p (.bool v1.2)])), (6, (lNt [.p (vRt v2.1)] (.box [.raw (.bool v2.2)])))] (A2 (ydr hv1) (yhi hv2)) ?_
 refine yva ?_
 obtain rfl := oi h
 exact ebr [(.p (vRt v2.1), 6)]
theorem yhu {a0 : Bool} {a1 : Qp} {a2 : Qr} {a3 : Qr}  {r : (Qr × Bool)} (h : yij a0 a1 a2 a3 = some r) : MeetsB Tryz.prog 121 (.box [.raw (.bool a0)]) [.v (vPt a1), .v (vRt a2), .v (vRt a3)] [.p (vRt r.1)] (.box [.raw (.bool r.2)]) := by
 refine mob Tryz.func121 [(0, .box [.raw (.bool a0)]), (1, .p (vPt a1)), (2, .p (vRt a2)), (3, .p (vRt a3))] ?_
 unfold yij at h
 refine kG [(0, .box [.raw (.bool a0)]), (5, .box (ePt a1)), (6, .box (eRt a2)), (7, .box (eRt a3)), (8, .box zR)] [] trivial ?_
 obtain ⟨v1, hv1, h⟩ := bs h
 obtain ⟨v2, hv2, h⟩ := bs h
 obtain ⟨v3, hv3, h⟩ := bs h
 refine yya (r_dq yca 11 [(9, 0), (10, 0)] [(0, .box [.raw (.bool v3.2)]), (8, .box (eRt v3.1))] [(9, (lNt [.p (vRt v1.1)] (.box [.raw (.bool v1.2)]))), (10, (lNt [.p (vRt v2.1)] (.box [.raw (.bool v2.2)]))), (11, (lNt [.p (vRt v3.1)] (.box [.raw (.bool v3.2)])))] (A3 (ytc hv1) (yov hv2) (ylg hv3))) ?_
 refine yva ?_
 obtain rfl := oi h
 exact ebr [(.p (vRt v3.1), 8)]
theorem ylt {a0 : Bool} {a1 : (List Qp)} {a2 : Qr}  {r : (Qr × Bool)} (h : yag a0 a1 a2 = some r) : MeetsB Tryz.prog 91 (.box [.raw (.bool a0)]) [.d false (sP a1), .v (vRt a2)] [.p (vRt r.1)] (.box [.raw (.bool r.2)]) := by
 refine mob Tryz.func91 [(0, .box [.raw (.bool a0)]), (1, .d false (sP a1)), (2, .p (vRt a2))] ?_
 unfold yag at h
 refine kG [(0, .box [.raw (.bool a0)]), (1, .d false (sP a1)), (5, .box (eRt a2)), (6, .box zR)] [] trivial ?_
 obtain ⟨v1, hv1, h⟩ := bs h
 refine kG [(0, .box [.raw (.bool a0)]), (1, .d false (sP a1)), (5, .box (eRt a2)), (6, .box zR), (7, .p (iV v1))] [(2, (cN [.p (iV v1)]))] (A1 (yiw hv1)) ?_
 obtain ⟨v2, hv2, h⟩ := bs h
 obtain ⟨v3, hv3, h⟩ := bs h
 obtain ⟨v4, hv4, h⟩ := bs h
 obtain ⟨v5, hv5, h⟩ := bs h
 refine yya (r_dq yca 17 [(15, 0)] [(0, .box [.raw (.bool v5.2)]), (6, .box (eRt v5.1))] [(3, {row := some (ePt v2)}), (8, {row := some (ePt v2)}), (13, {row := some (ePt v3)}), (15, (lNt [.p (vRt v4.1)] (.box [.raw (.bool v4.2)]))), (17, (lNt [.p (vRt v5.1)] (.box [.raw (.bool v5.2)])))] (B6 (yba hv2).1 (yia ePt (yba hv2).2) (yba hv2).1 (yia ePt (yba hv2).2) (yba hv3).1 (yia ePt (yba hv3).2) (A2 (ydn hv4) (yhu hv5)))) ?_
 refine yva ?_
 obtain rfl := oi h
 exact ebr [(.p (vRt v5.1), 6)]
theorem yiu {a0 : Bool} {a1 : (List Qp)} {a2 : Qr}  {r : (Qr × Bool)} (h : yjj a0 a1 a2 = some r) : MeetsB Tryz.prog 45 (.box [.raw (.bool a0)]) [.d true (sP a1), .v (vRt a2)] [.p (vRt r.1)] (.box [.raw (.bool r.2)]) := by
 refine mob Tryz.func45 [(0, .box [.raw (.bool a0)]), (1, .d true (sP a1)), (2, .p (vRt a2))] ?_
 unfold yjj at h
 refine kG [(0, .box [.raw (.bool a0)]), (4, .box (sP a1)), (5, .box (eRt a2)), (6, .box zR)] [] trivial ?_
 obtain ⟨v1, hv1, h⟩ := bs h
 obtain ⟨v2, hv2, h⟩ := bs h
 refine kG [(0, .box [.raw (.bool a0)]), (4, .box (sP a1)), (5, .box (eRt a2)), (6, .box zR), (7, .box (eRt v2))] [(1, (cN [.p (iV v1)])), (2, (cN [.p (vRt v2)]))] (A2 (ygk hv1) (yge hv2)) ?_
 obtain ⟨v3, hv3, h⟩ := bs h
 obtain ⟨v4, hv4, h⟩ := bs h
 obtain ⟨v5, hv5, h⟩ := bs h
 refine yya (r_dq yca 10 [(7, 0), (8, 0)] [(0, .box [.raw (.bool v5.2)]), (6, .box (eRt v5.1))] [(3, bT), (7, (lNt [.p (vRt v3.1)] (.box [.raw (.bool v3.2)]))), (8, (lNt [.p (vRt v4.1)] (.box [.raw (.bool v4.2)]))), (10, (lNt [.p (vRt v5.1)] (.box [.raw (.bool v5.2)])))] (A4 (frE a1) (ytc hv3) (ylt hv4) (ylg hv5))) ?_
 refine yva ?_
 obtain rfl := oi h
 exact ebr [(.p (vRt v5.1), 6)]
theorem yco {a0 : (List Qp)} {a1 : Qr}  {r : (Qr × Bool)} (h : yui a0 a1 = some r) : Meets Tryz.prog 9 [.d true (sP a0), .v (vRt a1)] { vals := [.p (vRt r.1), .p (.bool r.2)] } := by
 refine mo Tryz.func9 [(0, .d true (sP a0)), (1, .p (vRt a1))] ?_
 unfold yui at h
 refine kG [(2, .box (sP a0)), (3, .box (eRt a1)), (4, .box zR)] [] trivial ?_
 refine yqb ?_
 obtain ⟨v1, hv1, h⟩ := bs h
 obtain ⟨w3, hw3, h⟩ := bs h
 refine yya (l1 := [(2, .box (sP a0)), (3, .box (eRt a1)), (4, .box zR), (15, .p (.bool w3))]) ?_ ?_
 ·clear h
  rcases ft (!v1) with ha0 | ha0
  ·replace hw3 := yma ha0 hw3
   have hw3 := oi hw3
   subst hw3
   exact (r_gq [(2, .box (sP a0)), (3, .box (eRt a1)), (4, .box zR), (15, .p (.bool true))] [(0, bT), (1, (cN [.p (.bool v1)])), (4, gT), (5, gT), (6, gT), (7, bT)] (A6 (frE a0) (yac hv1) ha0 ha0 ha0 ha0))
  obtain ⟨v2, hv2, hw3⟩ := bs (yna ha0 hw3)
  have hw3 := oi hw3
  subst hw3
  exact (r_gq [(2, .box (sP a0)), (3, .box (eRt a1)), (4, .box zR), (15, .p (.bool (!v2)))] [(0, bT), (1, (cN [.p (.bool v1)])), (4, gF), (5, (gN [.p (.bool v2)])), (6, gF), (7, bF)] (B6 (frE a0) (yac hv1) ha0 ha0 (ywo hv2) ha0 (A1 ha0)))
 refine kc w3 (fun hc2_3 => ?_) (fun hc2_3 => ?_)
 ·replace h := yma hc2_3 h
  refine kG [(4, .box zR), (5, .p (.bool false))] [] trivial ?_
  refine yva (q_r ?_)
  obtain rfl := oi h
  exact er [(.p (.agg #[.int .i64 0, .int .i64 0]), 4), (.p (.bool false), 5)]
 replace h := yna hc2_3 h
 refine yja (q_n (kG [(2, .box (sP a0)), (3, .box (eRt a1)), (4, .box zR), (6, .box [.raw (.bool false)])] [] trivial ?_))
 obtain ⟨v5, hv5, h⟩ := bs h
 refine kG [(4, .box zR), (6, .box [.raw (.bool v5.2)]), (7, .box (eRt v5.1))] [(0, bT), (2, (lNt [.p (vRt v5.1)] (.box [.raw (.bool v5.2)])))] (A2 (frE a0) (yiu hv5)) ?_
 refine yqb (kG [(4, .box zR), (7, .box (eRt v5.1)), (21, .p (.bool v5.2))] [] trivial ?_)
 refine kc v5.2 (fun hc2_5 => ?_) (fun hc2_5 => ?_)
 ·replace h := yma hc2_5 h
  refine kG [(4, .box zR), (5, .p (.bool false))] [] trivial ?_
  refine yva (q_r ?_)
  obtain rfl := oi h
  exact er [(.p (.agg #[.int .i64 0, .int .i64 0]), 4), (.p (.bool false), 5)]
 replace h := yna hc2_5 h
 refine yja (q_n (kG [(4, .box (eRt v5.1)), (5, .p (.bool true))] [] trivial ?_))
 refine yva ?_
 obtain rfl := oi h
 exact er [(.p (vRt v5.1), 4), (.p (.bool true), 5)]
theorem yjw {a0 : (List Qp)} {a1 : Qr}  {r : Int} (h : yql a0 a1 = some r) : Meets Tryz.prog 122 [.d false (sP a0), .v (vRt a1)] { vals := [.p (iV r)] } := by
 refine mo Tryz.func122 [(0, .d false (sP a0)), (1, .p (vRt a1))] ?_
 unfold yql at h
 refine kG [(0, .d false (sP a0)), (3, .box (eRt a1))] [] trivial ?_
 refine kG [(0, .d false (sP a0)), (3, .box (eRt a1)), (5, .p (iV 0))] [] trivial ?_
 refine yhd (J := fun (x : Int) => [(5, .p (iV x))]) (K := fun x => yrm x = some r) (fun x1 h => ?_) ?_
 ·unfold yrm at h
  refine kG [(4, .p (iV x1))] [] trivial ?_
  refine yva ?_
  obtain rfl := oi h
  exact er [(.p (iV x1), 4)]
 refine ywa ?_
 obtain ⟨y3, hl_x2, hk_x2⟩ := bs h
 clear h
 refine yuh (J := fun (x : Int) => [(0, .d false (sP a0)), (3, .box (eRt a1)), (5, .p (iV x))]) hl_x2 wkk (fun x2 o_x2 h hy_x2 => ?_)
 unfold yai at h
 refine yqb ?_
 obtain ⟨w6, hw6, h⟩ := bs h
 refine yya (l1 := [(0, .d false (sP a0)), (3, .box (eRt a1)), (5, .p (iV x2)), (21, .p (.bool w6))]) ?_ ?_
 ·clear h
  rcases ft (decide ((w64 (x2 + 2)) < (a0.length : Int))) with ha0 | ha0
  ·obtain ⟨v4, hv4, hw6⟩ := bs (yma ha0 hw6)
   obtain ⟨v5, hv5, hw6⟩ := bs hw6
   have hw6 := oi hw6
   subst hw6
   exact (r_dq yca 13 [] [(0, .d false (sP a0)), (3, .box (eRt a1)), (5, .p (iV x2)), (21, .p (.bool (decide (v5 < 0))))] [(3, {n := some a0.length}), (6, gT), (7, gT), (8, gT), (9, {g := some true, row := some (ePt v4)}), (10, gT), (11, gT), (12, gT), (13, {g := some true, call := some (none, [.p (iV v5)], true)}), (14, gT), (15, bT)] (B6 (lnP a0) ha0 ha0 ha0 ha0 (yba hv4).1 (B6 (yia ePt (yba hv4).2) ha0 ha0 ha0 ha0 (yhb hv5) (A2 ha0 ha0))))
  replace hw6 := yna ha0 hw6
  have hw6 := oi hw6
  subst hw6
  exact (r_dq yca 13 [] [(0, .d false (sP a0)), (3, .box (eRt a1)), (5, .p (iV x2)), (21, .p (.bool false))] [(3, {n := some a0.length}), (6, gF), (7, gF), (8, gF), (9, gF), (10, gF), (11, gF), (12, gF), (13, gF), (14, gF), (15, bF)] (B6 (lnP a0) ha0 ha0 ha0 ha0 ha0 (A5 ha0 ha0 ha0 ha0 ha0)))
 refine kc w6 (fun hc5_6 => ?_) (fun hc5_6 => ?_)
 ·replace h := yma hc5_6 h
  refine yja (q_n (ywa (yff (r_gq [(0, .d false (sP a0)), (3, .box (eRt a1)), (5, .p (iV (w64 (x2 + 1))))] [] trivial) ?_)))
  refine b_n ?_
  exact lqn (w64 (x2 + 1)) h
 replace h := yna hc5_6 h
 refine ykg (q_x (lq_x (b_x ?_)))
 have hyy := hy_x2 _ (oi h).symm
 subst hyy
 have h := hk_x2
 refine q_n ?_
 exact jx x2 h
theorem yyz {a0 : Qr} {a1 : Qr}  {r : (Qr × Bool)} (h : yrl a0 a1 = some r) : Meets Tryz.prog 138 [.v (vRt a0), .v (vRt a1)] { vals := [.p (vRt r.1), .p (.bool r.2)] } := by
 refine mo Tryz.func138 [(0, .p (vRt a0)), (1, .p (vRt a1))] ?_
 unfold yrl at h
 refine kG [(2, .box (eRt a0)), (3, .box (eRt a1)), (4, .box zR)] [] trivial ?_
 obtain ⟨v1, hv1, h⟩ := bs h
 refine kG [(4, .box (eRt v1.1)), (5, .p (.bool v1.2))] [(10, (cN [.p (vRt v1.1), .p (.bool v1.2)]))] (A1 (yfe hv1)) ?_
 refine yva ?_
 obtain rfl := oi h
 exact er [(.p (vRt v1.1), 4), (.p (.bool v1.2), 5)]
theorem ytb1 {a0 : Qp} {a1 : Qp} {a2 : Qr}  {r : (Qr × Bool)} (h : ycv a0 a1 a2 = some r) : Meets Tryz.prog 123 [.v (vPt a0), .v (vPt a1), .v (vRt a2)] { vals := [.p (vRt r.1), .p (.bool r.2)] } := by
 refine mo Tryz.func123 [(0, .p (vPt a0)), (1, .p (vPt a1)), (2, .p (vRt a2))] ?_
 unfold ycv at h
 refine kG [(3, .box (ePt a0)), (4, .box (ePt a1)), (5, .box (eRt a2)), (6, .box zR)] [] trivial ?_
 obtain ⟨v1, hv1, h⟩ := bs h
 refine kG [(3, .box (ePt a0)), (4, .box (ePt a1)), (6, .box zR), (8, .box (eRt v1.1)), (9, .p (.bool v1.2))] [(3, (cN [.p (vRt v1.1), .p (.bool v1.2)]))] (A1 (ymg hv1)) ?_
 obtain ⟨v2, hv2, h⟩ := bs h
 obtain ⟨v3, hv3, h⟩ := bs h
 refine yya (r_dq yca 10 [(9, 10)] [(3, .box (ePt a0)), (6, .box zR), (9, .p (.bool v1.2)), (10, .box (eRt v3.1)), (11, .p (.bool v3.2))] [(3, (cN [.p (vRt v2)])), (4, (cN [.p (vRt v3.1), .p (.bool v3.2)]))] (A2 (ymq hv2) (yyz hv3))) ?_
 refine yqb (yya (l1 := [(3, .box (ePt a0)), (6, .box zR), (10, .box (eRt v3.1)), (32, .p (.bool ((!v1.2) || (!v3.2))))]) ?_ ?_)
 ·rcases ft (!v1.2) with ha0 | ha0
  ·exact RegOk.of_eq (l2 := [(3, .box (ePt a0)), (6, .box zR), (10, .box (eRt v3.1)), (32, .p (.bool ((!v1.2) || (!v3.2))))]) (r_gq [(3, .box (ePt a0)), (6, .box zR), (10, .box (eRt v3.1)), (32, .p (.bool true))] [(3, gT), (4, gT), (5, bT)] (A3 ha0 ha0 ha0)) (by simp [ha0])
  exact RegOk.of_eq (l2 := [(3, .box (ePt a0)), (6, .box zR), (10, .box (eRt v3.1)), (32, .p (.bool ((!v1.2) || (!v3.2))))]) (r_gq [(3, .box (ePt a0)), (6, .box zR), (10, .box (eRt v3.1)), (32, .p (.bool (!v3.2)))] [(3, gF), (4, gF), (5, bF)] (A3 ha0 ha0 ha0)) (by simp [ha0])
 refine kc ((!v1.2) || (!v3.2)) (fun hc2_3 => ?_) (fun hc2_3 => ?_)
 ·replace h := yma hc2_3 h
  refine kG [(6, .box zR), (7, .p (.bool false))] [] trivial ?_
  refine yva (q_r ?_)
  obtain rfl := oi h
  exact er [(.p (.agg #[.int .i64 0, .int .i64 0]), 6), (.p (.bool false), 7)]
 replace h := yna hc2_3 h
 refine yja (q_n ?_)
 obtain ⟨v5, hv5, h⟩ := bs h
 refine kG [(6, .box (eRt v5.1)), (7, .p (.bool v5.2))] [(3, (cN [.p (vRt v5.1), .p (.bool v5.2)]))] (A1 (yfk hv5)) ?_
 refine yva ?_
 obtain rfl := oi h
 exact er [(.p (vRt v5.1), 6), (.p (.bool v5.2), 7)]
theorem yub1 {a0 : (List Qp)} {a1 : Qr}  {r : (Qr × Bool)} (h : yfq a0 a1 = some r) : Meets Tryz.prog 92 [.d false (sP a0), .v (vRt a1)] { vals := [.p (vRt r.1), .p (.bool r.2)] } := by
 refine mo Tryz.func92 [(0, .d false (sP a0)), (1, .p (vRt a1))] ?_
 unfold yfq at h
 refine kG [(0, .d false (sP a0)), (3, .box (eRt a1)), (4, .box zR)] [] trivial ?_
 obtain ⟨v1, hv1, h⟩ := bs h
 refine kG [(0, .d false (sP a0)), (3, .box (eRt a1)), (4, .box zR), (6, .p (iV v1))] [(2, (cN [.p (iV v1)]))] (A1 (yjw hv1)) ?_
 obtain ⟨v2, hv2, h⟩ := bs h
 obtain ⟨v3, hv3, h⟩ := bs h
 obtain ⟨v4, hv4, h⟩ := bs h
 refine yya (r_dq yca 10 [] [(4, .box (eRt v4.1)), (5, .p (.bool v4.2))] [(2, {row := some (ePt v2)}), (7, {row := some (ePt v3)}), (10, (cN [.p (vRt v4.1), .p (.bool v4.2)]))] (A5 (yba hv2).1 (yia ePt (yba hv2).2) (yba hv3).1 (yia ePt (yba hv3).2) (ytb1 hv4))) ?_
 refine yva ?_
 obtain rfl := oi h
 exact er [(.p (vRt v4.1), 4), (.p (.bool v4.2), 5)]
theorem yvb1 {a0 : (List Qp)} {a1 : Qr}  {r : (Qr × Bool)} (h : ysk a0 a1 = some r) : Meets Tryz.prog 46 [.d true (sP a0), .v (vRt a1)] { vals := [.p (vRt r.1), .p (.bool r.2)] } := by
 refine mo Tryz.func46 [(0, .d true (sP a0)), (1, .p (vRt a1))] ?_
 unfold ysk at h
 refine kG [(2, .box (sP a0)), (3, .box (eRt a1)), (4, .box zR)] [] trivial ?_
 obtain ⟨v1, hv1, h⟩ := bs h
 refine kG [(2, .box (sP a0)), (3, .box (eRt a1)), (4, .box zR), (6, .p (iV v1))] [(1, (cN [.p (iV v1)]))] (A1 (ywh hv1)) ?_
 obtain ⟨v2, hv2, h⟩ := bs h
 obtain ⟨v3, hv3, h⟩ := bs h
 refine yya (r_dq yca 12 [(11, 7)] [(4, .box zR), (6, .p (iV v1)), (7, .box (eRt v3.1)), (8, .p (.bool v3.2))] [(1, bT), (5, (cN [.p (vRt v2)])), (6, (cN [.p (vRt v3.1), .p (.bool v3.2)]))] (A3 (frE a0) (yid hv2) (yub1 hv3))) ?_
 refine yqb (kG [(4, .box zR), (6, .p (iV v1)), (7, .box (eRt v3.1)), (22, .p (.bool (!v3.2)))] [] trivial ?_)
 refine kc (!v3.2) (fun hc2_3 => ?_) (fun hc2_3 => ?_)
 ·replace h := yma hc2_3 h
  refine kG [(4, .box zR), (5, .p (.bool false))] [] trivial ?_
  refine yva (q_r ?_)
  obtain rfl := oi h
  exact er [(.p (.agg #[.int .i64 0, .int .i64 0]), 4), (.p (.bool false), 5)]
 replace h := yna hc2_3 h
 refine yja (q_n ?_)
 obtain ⟨v5, hv5, h⟩ := bs h
 obtain ⟨v6, hv6, h⟩ := bs h
 refine yya (r_dq yca 3 [] [(4, .box (eRt v6.1)), (5, .p (.bool v6.2))] [(2, (cN [.p (vRt v5)])), (3, (cN [.p (vRt v6.1), .p (.bool v6.2)]))] (A2 (yub hv5) (yfk hv6))) ?_
 refine yva ?_
 obtain rfl := oi h
 exact er [(.p (vRt v6.1), 4), (.p (.bool v6.2), 5)]
theorem ysx {a0 : (List Qp)} {a1 : Qr}  {r : (Qr × Bool)} (h : ywj a0 a1 = some r) : Meets Tryz.prog 10 [.d true (sP a0), .v (vRt a1)] { vals := [.p (vRt r.1), .p (.bool r.2)] } := by
 refine mo Tryz.func10 [(0, .d true (sP a0)), (1, .p (vRt a1))] ?_
 unfold ywj at h
 refine kG [(2, .box (sP a0)), (3, .box (eRt a1)), (4, .box zR)] [] trivial ?_
 refine yqb ?_
 obtain ⟨v1, hv1, h⟩ := bs h
 obtain ⟨w3, hw3, h⟩ := bs h
 refine yya (l1 := [(2, .box (sP a0)), (3, .box (eRt a1)), (4, .box zR), (13, .p (.bool w3))]) ?_ ?_
 ·clear h
  rcases ft (!v1) with ha0 | ha0
  ·replace hw3 := yma ha0 hw3
   have hw3 := oi hw3
   subst hw3
   exact (r_gq [(2, .box (sP a0)), (3, .box (eRt a1)), (4, .box zR), (13, .p (.bool true))] [(0, bT), (1, (cN [.p (.bool v1)])), (4, gT), (5, gT), (6, gT), (7, bT)] (A6 (frE a0) (yrc hv1) ha0 ha0 ha0 ha0))
  obtain ⟨v2, hv2, hw3⟩ := bs (yna ha0 hw3)
  have hw3 := oi hw3
  subst hw3
  exact (r_gq [(2, .box (sP a0)), (3, .box (eRt a1)), (4, .box zR), (13, .p (.bool (!v2)))] [(0, bT), (1, (cN [.p (.bool v1)])), (4, gF), (5, (gN [.p (.bool v2)])), (6, gF), (7, bF)] (B6 (frE a0) (yrc hv1) ha0 ha0 (yzn hv2) ha0 (A1 ha0)))
 refine kc w3 (fun hc2_3 => ?_) (fun hc2_3 => ?_)
 ·replace h := yma hc2_3 h
  refine kG [(4, .box zR), (5, .p (.bool false))] [] trivial ?_
  refine yva (q_r ?_)
  obtain rfl := oi h
  exact er [(.p (.agg #[.int .i64 0, .int .i64 0]), 4), (.p (.bool false), 5)]
 replace h := yna hc2_3 h
 refine yja (q_n ?_)
 obtain ⟨v5, hv5, h⟩ := bs h
 refine kG [(4, .box (eRt v5.1)), (5, .p (.bool v5.2))] [(0, bT), (2, (cN [.p (vRt v5.1), .p (.bool v5.2)]))] (A2 (frE a0) (yvb1 hv5)) ?_
 refine yva ?_
 obtain rfl := oi h
 exact er [(.p (vRt v5.1), 4), (.p (.bool v5.2), 5)]
theorem yzo {a0 : Qr}  {r : Qr} (h : yfm a0 = some r) : Meets Tryz.prog 48 [.v (vRt a0)] { vals := [.p (vRt r)] } := by
 refine mo Tryz.func48 [(0, .p (vRt a0))] ?_
 unfold yfm at h
 refine kG [(1, .box (eRt a0)), (2, .box zR)] [] trivial ?_
 refine kG [(2, .box [rI (w64 (a0.2 - a0.1)), rI a0.2])] [] trivial ?_
 refine yva ?_
 obtain rfl := oi h
 exact er [(.p (.agg #[.int .i64 (w64 (a0.2 - a0.1)), .int .i64 a0.2]), 2)]
theorem ymg1 (a0 : (List Qp)) : Meets Tryz.prog 47 [.d false (sP a0)] { vals := [.d false [.fn 93 [(false, [.pt (sP a0)])]]] } := by
 refine mo Tryz.func47 [(0, .d false (sP a0))] ?_
 refine kG [(1, .box (sP a0))] [] trivial ?_
 refine yrr1 1 (sP a0) (sP a0) [(1, .d false [.pt (sP a0)])] (by kernel_rfl) (yul (yza (ysm (ysm er_I er_I) (ysm er_I er_I))) rfl) (by kernel_rfl) (by kernel_rfl) ?_
 refine kG [(2, .d false [.fn 93 [(false, [.pt (sP a0)])]])] [] trivial ?_
 refine yva ?_
 exact er [(.d false [.fn 93 [(false, [.pt (sP a0)])]], 2)]
theorem yyl {a0 : (List Qp)} {r : ((List Qp) × Bool)} (h : ycf a0 = some r) : Meets Tryz.prog 11 [.d true (sP a0)] { vals := [.ov true (oP 57 r.1), .p (.bool r.2)] } := by
 refine mof Tryz.func11 [(0, .d true (sP a0))] ?_
 unfold ycf at h
 refine ywp1 (yfj1 [(1, .box (sP a0)), (2, .box (oN 57))] [] trivial) ?_
 obtain ⟨v1, hv1, h⟩ := bs h
 refine f_sq (ylg1 (yfj1 [(1, .box (sP a0)), (2, .box (oN 57)), (9, .p (.bool (!v1)))] [(0, bT), (1, (cN [.p (.bool v1)]))] (A2 (frE a0) (yac hv1))) ?_)
 refine xc (!v1) (fun hc1 => ?_) (fun hc1 => ?_)
 ·replace h := yma hc1 h
  refine ylg1 (yfj1 [(2, .box (oN 57)), (3, .p (.bool false))] [(0, bT)] trivial) ?_
  refine yxr1 (q_r ?_)
  obtain rfl := oi h
  exact ⟨rfl, fe [(.ov true (oN 57), 2), (.p (.bool false), 3)]⟩
 replace h := yna hc1 h
 refine yqp1 (q_n ?_)
 obtain ⟨u2, hu2, h⟩ := bs h
 have hlen := yea hu2
 refine ywp1 (yfj1 [(1, .box (sP a0)), (2, .box (oN 57)), (4, .box (oN 57))] [] trivial) ?_
 refine yup1 (yas1 (yfj1 [(2, .box (oN 57)), (4, .box (oN 57)), (13, .d false [.fn 93 [(false, [.pt (sP a0)])]])] [(1, bT), (2, {call := some (none, [.d false [.fn 93 [(false, [.pt (sP a0)])]]], false)})] (A2 (frE a0) (ymg1 a0))) ?_)
 have hrev : ((List.finRange a0.length).map fun x : Fin a0.length => oppP a0[a0.length - 1 - x.1]) = a0.reverse.map oppP := by
  refine List.ext_getElem (by simp) fun i h1 h2 => ?_
  simp
 refine yvp1 (α := Fin a0.length) (f := 93) (e1 := fun x => .int .i64 ((a0.length - 1 - x.1 : Nat) : Int)) (e2 := fun x => .agg #[.int .i64 a0[a0.length - 1 - x.1].1.1, .int .i64 a0[a0.length - 1 - x.1].1.2, .int .i64 a0[a0.length - 1 - x.1].2.1, .int .i64 a0[a0.length - 1 - x.1].2.2]) (by kernel_rfl) (by kernel_rfl) (yuz a0 hlen)
  5 4 6 57 [(2, .box (oN 57))] (fun x => .box [rI a0[a0.length - 1 - x.1].1.1, rI a0[a0.length - 1 - x.1].1.2, rI a0[a0.length - 1 - x.1].2.1, rI a0[a0.length - 1 - x.1].2.2]) (fun pre => (pre.map fun x => oppP a0[a0.length - 1 - x.1]).map ePt)
  wkk rfl (fun _ => rfl) rfl (by decide) (by decide) ⟨by decide, by decide, by decide, by decide, by decide⟩ (fun pre => yjm1 _ _ _ fun _ => rfl) (by kernel_rfl) (by kernel_rfl) (by kernel_rfl) (fun ro pre x => ?_) (fun ro pre x hpre => ?_) (fun ds xs hxs => ?_)
 ·obtain ⟨q, hq⟩ : ∃ q, q = a0[a0.length - 1 - x.1] := ⟨_, rfl⟩
  obtain ⟨ys, hys⟩ : ∃ ys, ys = pre.map fun x => oppP a0[a0.length - 1 - x.1] := ⟨_, rfl⟩
  rw [← hq, ← hys]
  exact yxs1 (yfj1 [(6, .box (ePt q)), (4, .box (oP 57 ys)), (2, .box (oN 57))] [] trivial) ⟨rfl, ybp1 (by kernel_rfl) (by kernel_rfl)⟩
 ·have hl : (pre.map fun x => oppP a0[a0.length - 1 - x.1]).length + 1 ≤ 1099511627776 := by rw [List.length_map]; omega
  rw [List.map_append]
  show OkX _ _ _ _ _ _ (fun ex l' => ex = Ex.normal ∧ wk l' [(4, .box (oP 57 ((pre.map fun x => oppP a0[a0.length - 1 - x.1]) ++ [oppP a0[a0.length - 1 - x.1]]))), (2, .box (oN 57))])
  obtain ⟨q, hq⟩ : ∃ q, q = a0[a0.length - 1 - x.1] := ⟨_, rfl⟩
  obtain ⟨ys, hys⟩ : ∃ ys, ys = pre.map fun x => oppP a0[a0.length - 1 - x.1] := ⟨_, rfl⟩
  rw [← hys] at hl ⊢
  rw [← hq]
  have ho1 : yfm q.1 = some (oppP q).1 := rfl
  have ho2 : yfm q.2 = some (oppP q).2 := rfl
  have hop : oppP q = ((oppP q).1, (oppP q).2) := rfl
  rw [hop]
  generalize (oppP q).1 = v10 at ho1 ⊢
  generalize (oppP q).2 = v11 at ho2 ⊢
  refine yrp1 (yxs1 (ybt1 yca 10 [] [(4, .box (oP 57 (ys ++ [(v10, v11)]))), (2, .box (oN 57))] [(4, (cN [.p (vRt v10)])), (7, (cN [.p (vRt v11)])), (10, {take := some (17, (oP 57 ys)), fix := some (26, .ov false (oP 57 (ys ++ [(v10, v11)])))})] (B6 (frO 57 ys) (yzo ho1) (yzo ho2) (show getRow [(oP 57 ys)] [(0, 0)] = some (oP 57 ys) from rfl) (show List.length ((ys.map ePt) : List (List C)) + List.length ((([(v10, v11)]).map ePt) : List (List C)) ≤ 1099511627776 from (by simpa using hl)) (show ∀ row ∈ ((([(v10, v11)]).map ePt) : List (List C)), row.length = 4 from (ydg fun _ => rfl)) (A1 (show (SV.ov false [.sl (some 57) ((ys.map ePt) ++ (([(v10, v11)]).map ePt))] : SV) = .ov false (oP 57 (ys ++ [(v10, v11)])) from (congrArg (fun z => SV.ov false [.sl (some 57) z]) (List.map_append ..).symm))))) ?_)
  refine b_n ?_
  exact ⟨rfl, ybp1 (by kernel_rfl) (by kernel_rfl)⟩
 subst hxs
 rw [hrev]
 obtain ⟨ys, hys⟩ : ∃ ys, ys = a0.reverse.map oppP := ⟨_, rfl⟩
 rw [← hys] at h ⊢
 obtain ⟨v4, hv4, h⟩ := bs h
 refine yus1 (ylg1 (yfj1 [(2, .box (oN 57)), (4, .box (oP 57 ys)), (30, .p (.bool (!v4)))] [(1, (cS [.d true (sP ys)] [.p (.bool v4)]))] (A3 (frO 57 ys) (show ([.d true [.sl none (eraL (ys.map ePt))]] : List Arg) = [.d true (sP ys)] from (by simp only [erPt])) (yac hv4))) ?_)
 refine xc (!v4) (fun hc4 => ?_) (fun hc4 => ?_)
 ·replace h := yma hc4 h
  refine ylg1 (yfj1 [(2, .box (oN 57)), (3, .p (.bool false))] [(0, bT)] trivial) ?_
  refine yxr1 (q_r ?_)
  obtain rfl := oi h
  exact ⟨.inr rfl, rfl, fe [(.ov true (oN 57), 2), (.p (.bool false), 3)]⟩
 replace h := yna hc4 h
 refine yqp1 (q_n (ylg1 (yfj1 [(2, .box (oP 57 ys)), (3, .p (.bool true))] [] (A1 (frO 57 ys))) ?_))
 refine yxr1 ?_
 obtain rfl := oi h
 exact ⟨.inr rfl, rfl, fe [(.ov true (oP 57 ys), 2), (.p (.bool true), 3)]⟩
theorem yap {a0 : Qr}  {r : Qr} (h : yik a0 = some r) : Meets Tryz.prog 49 [.v (vRt a0)] { vals := [.p (vRt r)] } := by
 refine mo Tryz.func49 [(0, .p (vRt a0))] ?_
 unfold yik at h
 refine kG [(1, .box (eRt a0)), (2, .box zR)] [] trivial ?_
 refine kG [(2, .box [rI (w64 (a0.2 - a0.1)), rI a0.2])] [] trivial ?_
 refine yva ?_
 obtain rfl := oi h
 exact er [(.p (.agg #[.int .i64 (w64 (a0.2 - a0.1)), .int .i64 a0.2]), 2)]
theorem ypv {a0 : (List Qp)}  {r : ((List Qp) × Bool)} (h : yio a0 = some r) : Meets Tryz.prog 50 [.d false (sP a0)] { vals := [.ov true (sP r.1), .p (.bool r.2)] } := by
 refine mo Tryz.func50 [(0, .d false (sP a0))] ?_
 unfold yio at h
 refine kG [(0, .d false (sP a0)), (2, .box (oN 57))] [] trivial ?_
 refine kG [(2, .box (oN 57)), (4, .box (sP a0))] [] trivial ?_
 refine yqb ?_
 obtain ⟨v1, hv1, h⟩ := bs h
 refine kG [(2, .box (oN 57)), (4, .box (sP a0)), (9, .p (.bool (!v1)))] [(0, bT), (1, (cN [.p (.bool v1)]))] (A2 (frE a0) (yrc hv1)) ?_
 refine kc (!v1) (fun hc2_1 => ?_) (fun hc2_1 => ?_)
 ·replace h := yma hc2_1 h
  refine kG [(2, .box [.sl none []]), (3, .p (.bool false))] [] trivial ?_
  refine yva (q_r ?_)
  obtain rfl := oi h
  exact er [(.ov true [.sl none []], 2), (.p (.bool false), 3)]
 replace h := yna hc2_1 h
 refine yja (q_n (kG [(2, .box (sP a0)), (3, .p (.bool true))] [(0, bT)] (A1 (frE a0)) ?_))
 refine yva ?_
 obtain rfl := oi h
 exact er [(.ov true (sP a0), 2), (.p (.bool true), 3)]
theorem yfs {a0 : (List Qp)}  {r : ((List Qp) × Bool)} (h : yah a0 = some r) : Meets Tryz.prog 12 [.d true (sP a0)] { vals := [.ov true (sP r.1), .p (.bool r.2)] } := by
 refine mo Tryz.func12 [(0, .d true (sP a0))] ?_
 unfold yah at h
 refine kG [(1, .box (sP a0)), (2, .box (oN 57))] [] trivial ?_
 refine yqb ?_
 obtain ⟨v1, hv1, h⟩ := bs h
 refine kG [(1, .box (sP a0)), (2, .box (oN 57)), (9, .p (.bool (!v1)))] [(0, bT), (1, (cN [.p (.bool v1)]))] (A2 (frE a0) (yrc hv1)) ?_
 refine kc (!v1) (fun hc2_1 => ?_) (fun hc2_1 => ?_)
 ·replace h := yma hc2_1 h
  refine kG [(2, .box [.sl none []]), (3, .p (.bool false))] [] trivial ?_
  refine yva (q_r ?_)
  obtain rfl := oi h
  exact er [(.ov true [.sl none []], 2), (.p (.bool false), 3)]
 replace h := yna hc2_1 h
 refine yja (q_n (kG [(1, .box (sP a0)), (2, .box (oN 57)), (4, .ov false (oN 57))] [] trivial ?_))
 refine yhd (J := fun (x : (List Qp)) => [(2, .box (oN 57)), (4, .ov false (oP 57 x))]) (K := fun x => yhg x = some r) (fun x3 h => ?_) ?_
 ·unfold yhg at h
  obtain ⟨v4, hv4, h⟩ := bs h
  refine kG [(2, .box (sP v4.1)), (3, .p (.bool v4.2))] [(1, {call := some (some [.d false (sP x3)], [.ov true (sP v4.1), .p (.bool v4.2)], false), fix := some (4, .d false (sP x3))})] (A3 (show ([.d false [.sl none (eraL (x3.map ePt))]] : List Arg) = [.d false (sP x3)] from (by simp only [erPt])) (ypv hv4) (show (SV.d false (eraR (oP 57 x3)) : SV) = .d false (sP x3) from (congrArg (fun z => SV.d false z) (yul (yza (ysm (ysm er_I er_I) (ysm er_I er_I))) rfl)))) ?_
  refine yva ?_
  obtain rfl := oi h
  exact er [(.ov true (sP v4.1), 2), (.p (.bool v4.2), 3)]
 refine kG [(1, .box (sP a0)), (2, .box (oN 57)), (4, .ov false (oN 57)), (5, .p (iV (w64 ((a0.length : Int) - 1))))] [(1, bT), (2, {n := some a0.length})] (A2 (frE a0) (lnP a0)) ?_
 refine ywa ?_
 obtain ⟨y6, hl_x5, hk_x5⟩ := bs h
 clear h
 refine yuh (J := fun (x : ((List Qp) × Int)) => [(1, .box (sP a0)), (2, .box (oN 57)), (4, .ov false (oP 57 x.1)), (5, .p (iV x.2))]) hl_x5 wkk (fun x5 o_x5 h hy_x5 => ?_)
 unfold ybd at h
 refine yqb (kG [(1, .box (sP a0)), (2, .box (oN 57)), (4, .ov false (oP 57 x5.1)), (5, .p (iV x5.2)), (16, .p (.bool (decide (x5.2 ≥ 0))))] [] trivial ?_)
 refine kc (decide (x5.2 ≥ 0)) (fun hc5_6 => ?_) (fun hc5_6 => ?_)
 ·replace h := yma hc5_6 h
  refine yja (q_n (yqb (ywa ?_)))
  obtain ⟨v8, hv8, h⟩ := bs h
  refine kG [(1, .box (sP a0)), (2, .box (oN 57)), (4, .ov false (oP 57 x5.1)), (5, .p (iV x5.2)), (6, .box (ePt v8))] [(1, bT), (3, {row := some (ePt v8)})] (A3 (frE a0) (yba hv8).1 (yia ePt (yba hv8).2)) ?_
  obtain ⟨v9, hv9, h⟩ := bs h
  obtain ⟨v10, hv10, h⟩ := bs h
  obtain ⟨u11, hu11, h⟩ := bs h
  refine yff (r_dq yca 9 [] [(1, .box (sP a0)), (2, .box (oN 57)), (4, .ov false (oP 57 (x5.1 ++ [(v9, v10)]))), (5, .p (iV x5.2))] [(3, (cN [.p (vRt v9)])), (6, (cN [.p (vRt v10)])), (9, {fix := some (33, .ov false (oP 57 (x5.1 ++ [(v9, v10)])))})] (A5 (yap hv9) (yap hv10) (show List.length ((x5.1.map ePt) : List (List C)) + List.length ((([(v9, v10)]).map ePt) : List (List C)) ≤ 1099511627776 from (by have hg := (yea hu11); simpa using hg)) (show ∀ row ∈ ((([(v9, v10)]).map ePt) : List (List C)), row.length = 4 from (ydg fun _ => rfl)) (show (SV.ov false [.sl (some 57) ((x5.1.map ePt) ++ (([(v9, v10)]).map ePt))] : SV) = .ov false (oP 57 (x5.1 ++ [(v9, v10)])) from (congrArg (fun z => SV.ov false [.sl (some 57) z]) (List.map_append ..).symm)))) ?_
  refine b_n (q_n (yff (r_gq [(1, .box (sP a0)), (2, .box (oN 57)), (4, .ov false (oP 57 (x5.1 ++ [(v9, v10)]))), (5, .p (iV (w64 (x5.2 - 1))))] [] trivial) ?_))
  exact lqn ((x5.1 ++ [(v9, v10)]), (w64 (x5.2 - 1))) h
 replace h := yna hc5_6 h
 refine ykg (q_x (lq_x (b_x ?_)))
 have hyy := hy_x5 _ (oi h).symm
 subst hyy
 have h := hk_x5
 refine q_n ?_
 exact jx x5.1 h
theorem yer {a0 : Cu} {a1 : ByteArray} {a2 : ByteArray}  {r : (ByteArray × Cu)} (h : yuf a0 a1 a2 = some r) : MeetsB Tryz.prog 53 (.box (eCu a0)) [.v (.string a1), .v (.string a2)] [.p (.string r.1)] (.box (eCu r.2)) := by
 refine mob Tryz.func53 [(0, .box (eCu a0)), (1, .p (.string a1)), (2, .p (.string a2))] ?_
 unfold yuf at h
 refine kG [(0, .box (eCu a0)), (1, .p (.string a1)), (2, .p (.string a2))] [] trivial ?_
 refine yhd (J := fun (x : ((List Int) × Int × Int × ByteArray)) => [(0, .box (eCu (x.1, x.2.1, x.2.2.1))), (1, .p (.string x.2.2.2))]) (K := fun x => yni x = some r) (fun x1 h => ?_) ?_
 ·unfold yni at h
  refine kG [(0, .box (eCu (x1.1, x1.2.1, x1.2.2.1))), (6, .p (.string x1.2.2.2))] [] trivial ?_
  refine yva ?_
  obtain rfl := oi h
  exact ebr [(.p (.string x1.2.2.2), 6)]
 obtain ⟨v2, hv2, h⟩ := bs h
 refine kG [(0, .box (eCu v2.2)), (1, .p (.string a1)), (2, .p (.string a2)), (7, .p (iV (w64 (1 + v2.1))))] [(1, (lNf [.p (iV v2.1)] (.box (eCu v2.2))))] (A1 (yla hv2)) ?_
 refine ywa ?_
 obtain ⟨y4, hl_x3, hk_x3⟩ := bs h
 clear h
 refine yuh (J := fun (x : ((List Int) × Int × Int × ByteArray × Int)) => [(0, .box (eCu (x.1, x.2.1, x.2.2.1))), (1, .p (.string x.2.2.2.1)), (2, .p (.string a2)), (7, .p (iV x.2.2.2.2))]) hl_x3 wkk (fun x3 o_x3 h hy_x3 => ?_)
 unfold yoi at h
 refine yqb (yya (l1 := [(0, .box (eCu (x3.1, x3.2.1, x3.2.2.1))), (1, .p (.string x3.2.2.2.1)), (2, .p (.string a2)), (7, .p (iV x3.2.2.2.2)), (19, .p (.bool ((decide (x3.2.2.2.2 > 0)) && (decide ((x3.2.2.2.1.size : Int) > 0)))))]) ?_ ?_)
 ·rcases ft (decide (x3.2.2.2.2 > 0)) with ha0 | ha0
  ·exact RegOk.of_eq (l2 := [(0, .box (eCu (x3.1, x3.2.1, x3.2.2.1))), (1, .p (.string x3.2.2.2.1)), (2, .p (.string a2)), (7, .p (iV x3.2.2.2.2)), (19, .p (.bool ((decide (x3.2.2.2.2 > 0)) && (decide ((x3.2.2.2.1.size : Int) > 0)))))]) (r_gq [(0, .box (eCu (x3.1, x3.2.1, x3.2.2.1))), (1, .p (.string x3.2.2.2.1)), (2, .p (.string a2)), (7, .p (iV x3.2.2.2.2)), (19, .p (.bool (decide ((x3.2.2.2.1.size : Int) > 0))))] [(3, gT), (4, gT), (5, gT), (6, bT)] (A4 ha0 ha0 ha0 ha0)) (by simp [ha0])
  exact RegOk.of_eq (l2 := [(0, .box (eCu (x3.1, x3.2.1, x3.2.2.1))), (1, .p (.string x3.2.2.2.1)), (2, .p (.string a2)), (7, .p (iV x3.2.2.2.2)), (19, .p (.bool ((decide (x3.2.2.2.2 > 0)) && (decide ((x3.2.2.2.1.size : Int) > 0)))))]) (r_gq [(0, .box (eCu (x3.1, x3.2.1, x3.2.2.1))), (1, .p (.string x3.2.2.2.1)), (2, .p (.string a2)), (7, .p (iV x3.2.2.2.2)), (19, .p (.bool false))] [(3, gF), (4, gF), (5, gF), (6, bF)] (A4 ha0 ha0 ha0 ha0)) (by simp [ha0])
 refine kc ((decide (x3.2.2.2.2 > 0)) && (decide ((x3.2.2.2.1.size : Int) > 0))) (fun hc5_4 => ?_) (fun hc5_4 => ?_)
 ·replace h := yma hc5_4 h
  refine yja (q_n (yqb (ywa ?_)))
  obtain ⟨v6, hv6, h⟩ := bs h
  refine kG [(0, .box (eCu v6.2)), (1, .p (.string x3.2.2.2.1)), (2, .p (.string a2)), (7, .p (iV x3.2.2.2.2)), (8, .p (iV v6.1))] [(3, (lNf [.p (iV v6.1)] (.box (eCu v6.2))))] (A1 (yla hv6)) ?_
  obtain ⟨v7, hv7, h⟩ := bs h
  obtain ⟨u8, hu8, h⟩ := bs h
  refine kG [(0, .box (eCu v7.2)), (1, .p (.string x3.2.2.2.1)), (2, .p (.string a2)), (7, .p (iV x3.2.2.2.2)), (8, .p (iV v6.1)), (9, .p (.string (byteB (strAt a2 v7.1))))] [(4, (lNf [.p (iV v7.1)] (.box (eCu v7.2)))), (5, {pv := some (.int .u8 (strAt a2 v7.1))}), (7, {bts := some [UInt8.ofNat (Int.toNat (strAt a2 v7.1))]})] (A3 (yla hv7) (show PureAt Tryz.prog (.index 9 (.tmp 26) (.tmp 30)) [.string a2, .int .i64 v7.1] (.int .u8 (strAt a2 v7.1)) from (yok (by kernel_rfl) (yea hu8))) (show ([UInt8.ofNat (Int.toNat (strAt a2 v7.1))] ≠ [] ∧ [[C.raw (.int .u8 (strAt a2 v7.1))]] = [UInt8.ofNat (Int.toNat (strAt a2 v7.1))].map fun c => [C.raw (.int .u8 (c.toNat : Int))]) from yur1)) ?_
  obtain ⟨v9, hv9, h⟩ := bs h
  refine kG [(0, .box (eCu v9.2)), (1, .p (.string x3.2.2.2.1)), (2, .p (.string a2)), (7, .p (iV x3.2.2.2.2)), (8, .p (iV v6.1)), (9, .p (.string (byteB (strAt a2 v7.1)))), (35, .p (iV v9.1))] [(1, (lNf [.p (iV v9.1)] (.box (eCu v9.2))))] (A1 (yla hv9)) ?_
  refine ywa (kG [(0, .box (eCu v9.2)), (1, .p (.string x3.2.2.2.1)), (2, .p (.string a2)), (7, .p (iV x3.2.2.2.2)), (8, .p (iV v6.1)), (9, .p (.string (byteB (strAt a2 v7.1)))), (35, .p (iV v9.1)), (44, .p (.bool (v9.1 == 0)))] [] trivial ?_)
  refine kc (v9.1 == 0) (fun hc7_9 => ?_) (fun hc7_9 => ?_)
  ·obtain ⟨u11, hu11, h⟩ := bs (yma hc7_9 h)
   obtain ⟨u12, hu12, h⟩ := bs h
   obtain ⟨u13, hu13, h⟩ := bs h
   refine yff (r_dq yca 8 [] [(0, .box (eCu v9.2)), (1, .p (.string (((strCut x3.2.2.2.1 0 v6.1) ++ (byteB (strAt a2 v7.1))) ++ (strCut x3.2.2.2.1 v6.1 (x3.2.2.2.1.size : Int))))), (2, .p (.string a2)), (7, .p (iV x3.2.2.2.2))] [(2, {pv := some (.string (strCut x3.2.2.2.1 0 v6.1))}), (7, {pv := some (.string (strCut x3.2.2.2.1 v6.1 (x3.2.2.2.1.size : Int)))})] (A4 (show PureAt Tryz.prog (.slice 9 (.tmp 46) none (some (.tmp 47)) none) [.string x3.2.2.2.1, .int .i64 v6.1] (.string (strCut x3.2.2.2.1 0 v6.1)) from (yob1 (by kernel_rfl) (yea hu11))) (yea hu12) (show PureAt Tryz.prog (.slice 9 (.tmp 51) (some (.tmp 52)) none none) [.string x3.2.2.2.1, .int .i64 v6.1] (.string (strCut x3.2.2.2.1 v6.1 (x3.2.2.2.1.size : Int))) from (yro (by kernel_rfl) (yea hu11))) (yea hu13))) ?_
   refine b_n (b_n (q_n (yff (r_gq [(0, .box (eCu v9.2)), (1, .p (.string (((strCut x3.2.2.2.1 0 v6.1) ++ (byteB (strAt a2 v7.1))) ++ (strCut x3.2.2.2.1 v6.1 (x3.2.2.2.1.size : Int))))), (2, .p (.string a2)), (7, .p (iV (w64 (x3.2.2.2.2 - 1))))] [] trivial) ?_)))
   exact lqn (v9.2.1, v9.2.2.1, v9.2.2.2, (((strCut x3.2.2.2.1 0 v6.1) ++ (byteB (strAt a2 v7.1))) ++ (strCut x3.2.2.2.1 v6.1 (x3.2.2.2.1.size : Int))), (w64 (x3.2.2.2.2 - 1))) h
  replace h := yna hc7_9 h
  refine kG [(0, .box (eCu v9.2)), (1, .p (.string x3.2.2.2.1)), (2, .p (.string a2)), (7, .p (iV x3.2.2.2.2)), (8, .p (iV v6.1)), (9, .p (.string (byteB (strAt a2 v7.1)))), (55, .p (.bool (v9.1 == 1)))] [] trivial ?_
  refine kc (v9.1 == 1) (fun hc7_13 => ?_) (fun hc7_13 => ?_)
  ·obtain ⟨u15, hu15, h⟩ := bs (yma hc7_13 h)
   obtain ⟨u16, hu16, h⟩ := bs h
   obtain ⟨u17, hu17, h⟩ := bs h
   obtain ⟨u18, hu18, h⟩ := bs h
   refine yff (r_dq yca 9 [] [(0, .box (eCu v9.2)), (1, .p (.string (((strCut x3.2.2.2.1 0 v6.1) ++ (byteB (strAt a2 v7.1))) ++ (strCut x3.2.2.2.1 (w64 (v6.1 + 1)) (x3.2.2.2.1.size : Int))))), (2, .p (.string a2)), (7, .p (iV x3.2.2.2.2))] [(2, {pv := some (.string (strCut x3.2.2.2.1 0 v6.1))}), (8, {pv := some (.string (strCut x3.2.2.2.1 (w64 (v6.1 + 1)) (x3.2.2.2.1.size : Int)))})] (A4 (show PureAt Tryz.prog (.slice 9 (.tmp 57) none (some (.tmp 58)) none) [.string x3.2.2.2.1, .int .i64 v6.1] (.string (strCut x3.2.2.2.1 0 v6.1)) from (yob1 (by kernel_rfl) (yea hu15))) (yea hu16) (show PureAt Tryz.prog (.slice 9 (.tmp 62) (some (.tmp 64)) none none) [.string x3.2.2.2.1, .int .i64 (w64 (v6.1 + 1))] (.string (strCut x3.2.2.2.1 (w64 (v6.1 + 1)) (x3.2.2.2.1.size : Int))) from (yro (by kernel_rfl) (yea hu17))) (yea hu18))) ?_
   refine b_n (b_n (q_n (yff (r_gq [(0, .box (eCu v9.2)), (1, .p (.string (((strCut x3.2.2.2.1 0 v6.1) ++ (byteB (strAt a2 v7.1))) ++ (strCut x3.2.2.2.1 (w64 (v6.1 + 1)) (x3.2.2.2.1.size : Int))))), (2, .p (.string a2)), (7, .p (iV (w64 (x3.2.2.2.2 - 1))))] [] trivial) ?_)))
   exact lqn (v9.2.1, v9.2.2.1, v9.2.2.2, (((strCut x3.2.2.2.1 0 v6.1) ++ (byteB (strAt a2 v7.1))) ++ (strCut x3.2.2.2.1 (w64 (v6.1 + 1)) (x3.2.2.2.1.size : Int))), (w64 (x3.2.2.2.2 - 1))) h
  obtain ⟨u19, hu19, h⟩ := bs (yna hc7_13 h)
  obtain ⟨u20, hu20, h⟩ := bs h
  obtain ⟨u21, hu21, h⟩ := bs h
  refine yff (r_dq yca 7 [] [(0, .box (eCu v9.2)), (1, .p (.string ((strCut x3.2.2.2.1 0 v6.1) ++ (strCut x3.2.2.2.1 (w64 (v6.1 + 1)) (x3.2.2.2.1.size : Int))))), (2, .p (.string a2)), (7, .p (iV x3.2.2.2.2))] [(2, {pv := some (.string (strCut x3.2.2.2.1 0 v6.1))}), (6, {pv := some (.string (strCut x3.2.2.2.1 (w64 (v6.1 + 1)) (x3.2.2.2.1.size : Int)))})] (A3 (show PureAt Tryz.prog (.slice 9 (.tmp 36) none (some (.tmp 37)) none) [.string x3.2.2.2.1, .int .i64 v6.1] (.string (strCut x3.2.2.2.1 0 v6.1)) from (yob1 (by kernel_rfl) (yea hu19))) (show PureAt Tryz.prog (.slice 9 (.tmp 39) (some (.tmp 41)) none none) [.string x3.2.2.2.1, .int .i64 (w64 (v6.1 + 1))] (.string (strCut x3.2.2.2.1 (w64 (v6.1 + 1)) (x3.2.2.2.1.size : Int))) from (yro (by kernel_rfl) (yea hu20))) (yea hu21))) ?_
  refine b_n (b_n (q_n (yff (r_gq [(0, .box (eCu v9.2)), (1, .p (.string ((strCut x3.2.2.2.1 0 v6.1) ++ (strCut x3.2.2.2.1 (w64 (v6.1 + 1)) (x3.2.2.2.1.size : Int))))), (2, .p (.string a2)), (7, .p (iV (w64 (x3.2.2.2.2 - 1))))] [] trivial) ?_)))
  exact lqn (v9.2.1, v9.2.2.1, v9.2.2.2, ((strCut x3.2.2.2.1 0 v6.1) ++ (strCut x3.2.2.2.1 (w64 (v6.1 + 1)) (x3.2.2.2.1.size : Int))), (w64 (x3.2.2.2.2 - 1))) h
 replace h := yna hc5_4 h
 refine ykg (q_x (lq_x (b_x ?_)))
 have hyy := hy_x3 _ (oi h).symm
 subst hyy
 have h := hk_x3
 refine q_n ?_
 exact jx (x3.1, x3.2.1, x3.2.2.1, x3.2.2.2.1) h
theorem yhq {a0 : (List Int)}  {r : ByteArray} (h : ydf a0 = some r) : Meets Tryz.prog 13 [.d false [.sl none (a0.map (eU .u8))]] { vals := [.p (.string r)] } := by
 refine mo Tryz.func13 [(0, .d false [.sl none (a0.map (eU .u8))])] ?_
 unfold ydf at h
 refine kG [(0, .d false [.sl none (a0.map (eU .u8))])] [] trivial ?_
 refine kG [(3, .addr 7 [(0, 0)]), (7, .box (eCu (a0, 0, 0)))] [] trivial ?_
 obtain ⟨v1, hv1, h⟩ := bs h
 obtain ⟨v2, hv2, h⟩ := bs h
 refine kG [(3, .addr 7 [(0, 0)]), (4, .p (.string v2)), (7, .box (eCu v1.2))] [(1, (lNf [.ov true (oP 57 v1.1)] (.box (eCu v1.2)))), (3, (cS [.d false (sP v1.1)] [.p (.string v2)]))] (A3 (ybn hv1) (show ([.d false [.sl none (eraL (v1.1.map ePt))]] : List Arg) = [.d false (sP v1.1)] from (by simp only [erPt])) (ybo hv2)) ?_
 refine yqb ?_
 obtain ⟨v3, hv3, h⟩ := bs h
 refine kG [(3, .addr 7 [(0, 0)]), (4, .p (.string v2)), (7, .box (eCu v3.2)), (13, .p (.bool v3.1))] [(1, (lNf [.p (.bool v3.1)] (.box (eCu v3.2))))] (A1 (yrf hv3)) ?_
 refine kc v3.1 (fun hc2_3 => ?_) (fun hc2_3 => ?_)
 ·obtain ⟨v5, hv5, h⟩ := bs (yma hc2_3 h)
  refine kG [(2, .p (.string v5.1))] [(2, (lNf [.p (.string v5.1)] (.box (eCu v5.2))))] (A1 (yer hv5)) ?_
  refine yva (q_r ?_)
  obtain rfl := oi h
  exact er [(.p (.string v5.1), 2)]
 replace h := yna hc2_3 h
 refine yja (q_n (kG [(2, .p (.string v2))] [] trivial ?_))
 refine yva ?_
 obtain rfl := oi h
 exact er [(.p (.string v2), 2)]
theorem ydo {a0 : ByteArray} {a1 : ByteArray} {r : (ByteArray × ByteArray × Bool)} (h : strings_Cut a0 a1 = some r) : Meets Tryz.prog 98 [.v (.string a0), .v (.string a1)] { vals := [.p (.string r.1), .p (.string r.2.1), .p (.bool r.2.2)] } := by
 unfold strings_Cut at h
 obtain ⟨u1, hu1, h⟩ := bind_some' h
 have hg := yea hu1
 obtain rfl := Option.some.inj h
 exact ycj1 (g := (Tryz.prog.globalNamed "internal/bytealg.MaxLen").getD 0) (by kernel_rfl) (by kernel_rfl) fun m w hm => Go.Proofs.Any.strings_Cut Go.Proofs.Tryz.lays145 a0 a1 m w hg hm
theorem ypq {a0 : ByteArray} {r : (Int × Bool)} (h : yyj a0 = some r) : Meets Tryz.prog 128 [.v (.string a0)] { vals := [.p (iV r.1), .d false [.er r.2]] } := by
 unfold yyj at h
 obtain ⟨u1, hu1, h⟩ := bind_some' h
 have hg := yea hu1
 obtain rfl := Option.some.inj h
 exact yjg1 (g1 := (Tryz.prog.globalNamed "strconv.ErrSyntax").getD 0) (g2 := (Tryz.prog.globalNamed "strconv.ErrRange").getD 0) (by kernel_rfl) (by kernel_rfl) (by kernel_rfl) (yfm1 Go.Proofs.Tryz.laysC172 a0 hg)
theorem ybp {a0 : ByteArray}  {r : (Qr × Bool)} (h : ykf a0 = some r) : Meets Tryz.prog 99 [.v (.string a0)] { vals := [.p (vRt r.1), .p (.bool r.2)] } := by
 refine mo Tryz.func99 [(0, .p (.string a0))] ?_
 unfold ykf at h
 refine kG [(0, .p (.string a0)), (2, .box zR)] [] trivial ?_
 obtain ⟨v1, hv1, h⟩ := bs h
 refine kG [(0, .p (.string a0)), (2, .box zR), (4, .p (.string v1.1)), (5, .p (.string v1.2.1)), (6, .p (.bool v1.2.2))] [(1, (cN [.p (.string v1.1), .p (.string v1.2.1), .p (.bool v1.2.2)]))] (A1 (ydo hv1)) ?_
 obtain ⟨v2, hv2, h⟩ := bs h
 refine kG [(0, .p (.string a0)), (2, .box zR), (5, .p (.string v1.2.1)), (6, .p (.bool v1.2.2)), (7, .p (iV v2.1)), (8, .d false [.er v2.2])] [(1, {call := some (none, [.p (iV v2.1), .d false [.er v2.2]], false)})] (A1 (ypq hv2)) ?_
 obtain ⟨v3, hv3, h⟩ := bs h
 refine kG [(0, .p (.string a0)), (2, .box zR), (6, .p (.bool v1.2.2)), (7, .p (iV v2.1)), (8, .d false [.er v2.2]), (9, .p (iV v3.1)), (10, .d false [.er v3.2])] [(1, {call := some (none, [.p (iV v3.1), .d false [.er v3.2]], false)})] (A1 (ypq hv3)) ?_
 refine kG [(0, .p (.string a0)), (2, .box zR), (6, .p (.bool v1.2.2)), (8, .d false [.er v2.2]), (10, .d false [.er v3.2]), (11, .box [rI v2.1, rI v3.1])] [] trivial ?_
 refine yqb ?_
 obtain ⟨w6, hw6, h⟩ := bs h
 refine yya (l1 := [(2, .box zR), (11, .box [rI v2.1, rI v3.1]), (51, .p (.bool w6))]) ?_ ?_
 ·clear h
  rcases ft (!v1.2.2) with ha0 | ha0
  ·replace hw6 := yma ha0 hw6
   have hw6 := oi hw6
   subst hw6
   exact (r_gq [(2, .box zR), (11, .box [rI v2.1, rI v3.1]), (51, .p (.bool true))] [(3, gT), (4, gT), (5, bT), (7, gT), (8, gT), (9, bT), (11, gT), (12, gT), (13, gT), (14, bT), (16, gT), (17, gT), (18, gT), (19, gT), (20, bT)] (B6 ha0 ha0 ha0 tT tT tT (B6 tT tT tT tT tT tT (A3 tT tT tT))))
  replace hw6 := yna ha0 hw6
  rcases ft (!v2.2) with ha1 | ha1
  ·replace hw6 := yma ha1 hw6
   have hw6 := oi hw6
   subst hw6
   exact (r_gq [(2, .box zR), (11, .box [rI v2.1, rI v3.1]), (51, .p (.bool true))] [(3, gF), (4, gF), (5, bF), (7, gT), (8, gT), (9, bT), (11, gT), (12, gT), (13, gT), (14, bT), (16, gT), (17, gT), (18, gT), (19, gT), (20, bT)] (B6 ha0 ha0 (show Tryz.prog.underlying 102 = some (.interface (Tryz.prog.methodsAt 102)) from (by kernel_rfl)) ha0 ha1 ha1 (B6 ha1 tT tT tT tT tT (A4 tT tT tT tT))))
  replace hw6 := yna ha1 hw6
  rcases ft (!v3.2) with ha2 | ha2
  ·replace hw6 := yma ha2 hw6
   have hw6 := oi hw6
   subst hw6
   exact (r_gq [(2, .box zR), (11, .box [rI v2.1, rI v3.1]), (51, .p (.bool true))] [(3, gF), (4, gF), (5, bF), (7, gF), (8, gF), (9, bF), (11, gT), (12, gT), (13, gT), (14, bT), (16, gT), (17, gT), (18, gT), (19, gT), (20, bT)] (B6 ha0 ha0 (show Tryz.prog.underlying 102 = some (.interface (Tryz.prog.methodsAt 102)) from (by kernel_rfl)) ha0 ha1 ha1 (B6 (show Tryz.prog.underlying 102 = some (.interface (Tryz.prog.methodsAt 102)) from (by kernel_rfl)) ha1 ha2 ha2 ha2 ha2 (A5 tT tT tT tT tT))))
  obtain ⟨v4, hv4, hw6⟩ := bs (yna ha2 hw6)
  rcases ft (!v4) with ha3 | ha3
  ·replace hw6 := yma ha3 hw6
   have hw6 := oi hw6
   subst hw6
   exact (r_gq [(2, .box zR), (11, .box [rI v2.1, rI v3.1]), (51, .p (.bool true))] [(3, gF), (4, gF), (5, bF), (7, gF), (8, gF), (9, bF), (11, gF), (12, (gN [.p (.bool v4)])), (13, gF), (14, bF), (16, gT), (17, gT), (18, gT), (19, gT), (20, bT)] (B6 ha0 ha0 (show Tryz.prog.underlying 102 = some (.interface (Tryz.prog.methodsAt 102)) from (by kernel_rfl)) ha0 ha1 ha1 (B6 (show Tryz.prog.underlying 102 = some (.interface (Tryz.prog.methodsAt 102)) from (by kernel_rfl)) ha1 ha2 ha2 (ykb hv4) ha2 (A6 ha2 ha3 ha3 ha3 ha3 ha3))))
  obtain ⟨v5, hv5, hw6⟩ := bs (yna ha3 hw6)
  have hw6 := oi hw6
  subst hw6
  exact (r_gq [(2, .box zR), (11, .box [rI v2.1, rI v3.1]), (51, .p (.bool (!(v5.toList == a0.toList))))] [(3, gF), (4, gF), (5, bF), (7, gF), (8, gF), (9, bF), (11, gF), (12, (gN [.p (.bool v4)])), (13, gF), (14, bF), (16, gF), (17, (gN [.p (.string v5)])), (18, gF), (19, gF), (20, bF)] (B6 ha0 ha0 (show Tryz.prog.underlying 102 = some (.interface (Tryz.prog.methodsAt 102)) from (by kernel_rfl)) ha0 ha1 ha1 (B6 (show Tryz.prog.underlying 102 = some (.interface (Tryz.prog.methodsAt 102)) from (by kernel_rfl)) ha1 ha2 ha2 (ykb hv4) ha2 (B6 ha2 ha3 ha3 (yjm hv5) ha3 ha3 (A1 ha3)))))
 refine kc w6 (fun hc2_6 => ?_) (fun hc2_6 => ?_)
 ·replace h := yma hc2_6 h
  refine kG [(2, .box zR), (3, .p (.bool false))] [] trivial ?_
  refine yva (q_r ?_)
  obtain rfl := oi h
  exact er [(.p (.agg #[.int .i64 0, .int .i64 0]), 2), (.p (.bool false), 3)]
 replace h := yna hc2_6 h
 refine yja (q_n (kG [(2, .box [rI v2.1, rI v3.1]), (3, .p (.bool true))] [] trivial ?_))
 refine yva ?_
 obtain rfl := oi h
 exact er [(.p (.agg #[.int .i64 v2.1, .int .i64 v3.1]), 2), (.p (.bool true), 3)]
theorem ymt {a0 : ByteArray}  {r : ((List Qp) × Bool)} (h : yte a0 = some r) : Meets Tryz.prog 54 [.v (.string a0)] { vals := [.ov false (oP 57 r.1), .p (.bool r.2)] } := by
 refine mo Tryz.func54 [(0, .p (.string a0))] ?_
 unfold yte at h
 refine kG [(0, .p (.string a0))] [] trivial ?_
 refine kG [(0, .p (.string a0)), (4, .ov false (oN 57))] [] trivial ?_
 refine yhd (J := fun (x : (List Qp)) => [(4, .ov false (oP 57 x))]) (K := fun x => yzj x = some r) (fun x1 h => ?_) ?_
 ·unfold yzj at h
  refine kG [(2, .ov false (oP 57 x1)), (3, .p (.bool true))] [] trivial ?_
  refine yva ?_
  obtain rfl := oi h
  exact er [(.ov false (oP 57 x1), 2), (.p (.bool true), 3)]
 refine ywa ?_
 obtain ⟨y3, hl_x2, hk_x2⟩ := bs h
 clear h
 refine yuh (J := fun (x : (ByteArray × (List Qp))) => [(0, .p (.string x.1)), (4, .ov false (oP 57 x.2))]) hl_x2 wkk (fun x2 o_x2 h hy_x2 => ?_)
 unfold yzb at h
 refine yqb (kG [(0, .p (.string x2.1)), (4, .ov false (oP 57 x2.2)), (16, .p (.bool (!(x2.1.toList == ByteArray.empty.toList))))] [] trivial ?_)
 refine kc (!(x2.1.toList == ByteArray.empty.toList)) (fun hc5_3 => ?_) (fun hc5_3 => ?_)
 ·replace h := yma hc5_3 h
  refine yja (q_n (ywa ?_))
  obtain ⟨v5, hv5, h⟩ := bs h
  refine kG [(4, .ov false (oP 57 x2.2)), (5, .p (.string v5.1)), (6, .p (.string v5.2.1)), (7, .p (.bool v5.2.2))] [(1, (cN [.p (.string v5.1), .p (.string v5.2.1), .p (.bool v5.2.2)]))] (A1 (ydo hv5)) ?_
  obtain ⟨v6, hv6, h⟩ := bs h
  refine kG [(4, .ov false (oP 57 x2.2)), (6, .p (.string v5.2.1)), (7, .p (.bool v5.2.2)), (8, .p (.string v6.1)), (9, .p (.string v6.2.1)), (10, .p (.bool v6.2.2))] [(1, (cN [.p (.string v6.1), .p (.string v6.2.1), .p (.bool v6.2.2)]))] (A1 (ydo hv6)) ?_
  obtain ⟨v7, hv7, h⟩ := bs h
  refine kG [(4, .ov false (oP 57 x2.2)), (6, .p (.string v5.2.1)), (7, .p (.bool v5.2.2)), (9, .p (.string v6.2.1)), (10, .p (.bool v6.2.2)), (11, .box (eRt v7.1)), (12, .p (.bool v7.2))] [(1, (cN [.p (vRt v7.1), .p (.bool v7.2)]))] (A1 (ybp hv7)) ?_
  obtain ⟨v8, hv8, h⟩ := bs h
  refine kG [(4, .ov false (oP 57 x2.2)), (6, .p (.string v5.2.1)), (7, .p (.bool v5.2.2)), (10, .p (.bool v6.2.2)), (11, .box (eRt v7.1)), (12, .p (.bool v7.2)), (13, .box (eRt v8.1)), (14, .p (.bool v8.2))] [(1, (cN [.p (vRt v8.1), .p (.bool v8.2)]))] (A1 (ybp hv8)) ?_
  refine yqb (yya (l1 := [(4, .ov false (oP 57 x2.2)), (6, .p (.string v5.2.1)), (11, .box (eRt v7.1)), (13, .box (eRt v8.1)), (52, .p (.bool ((!v5.2.2) || ((!v6.2.2) || ((!v7.2) || (!v8.2))))))]) ?_ ?_)
  ·rcases ft (!v5.2.2) with ha1 | ha1
   ·exact RegOk.of_eq (l2 := [(4, .ov false (oP 57 x2.2)), (6, .p (.string v5.2.1)), (11, .box (eRt v7.1)), (13, .box (eRt v8.1)), (52, .p (.bool ((!v5.2.2) || ((!v6.2.2) || ((!v7.2) || (!v8.2))))))]) (r_gq [(4, .ov false (oP 57 x2.2)), (6, .p (.string v5.2.1)), (11, .box (eRt v7.1)), (13, .box (eRt v8.1)), (52, .p (.bool true))] [(3, gT), (4, gT), (5, bT), (7, gT), (8, gT), (9, bT), (11, gT), (12, gT), (13, bT)] (B6 ha1 ha1 ha1 tT tT tT (A3 tT tT tT))) (by simp [ha1])
   rcases ft (!v6.2.2) with ha2 | ha2
   ·exact RegOk.of_eq (l2 := [(4, .ov false (oP 57 x2.2)), (6, .p (.string v5.2.1)), (11, .box (eRt v7.1)), (13, .box (eRt v8.1)), (52, .p (.bool ((!v5.2.2) || ((!v6.2.2) || ((!v7.2) || (!v8.2))))))]) (r_gq [(4, .ov false (oP 57 x2.2)), (6, .p (.string v5.2.1)), (11, .box (eRt v7.1)), (13, .box (eRt v8.1)), (52, .p (.bool true))] [(3, gF), (4, gF), (5, bF), (7, gT), (8, gT), (9, bT), (11, gT), (12, gT), (13, bT)] (B6 ha1 ha1 ha1 ha2 ha2 ha2 (A3 tT tT tT))) (by simp [ha1, ha2])
   rcases ft (!v7.2) with ha3 | ha3
   ·exact RegOk.of_eq (l2 := [(4, .ov false (oP 57 x2.2)), (6, .p (.string v5.2.1)), (11, .box (eRt v7.1)), (13, .box (eRt v8.1)), (52, .p (.bool ((!v5.2.2) || ((!v6.2.2) || ((!v7.2) || (!v8.2))))))]) (r_gq [(4, .ov false (oP 57 x2.2)), (6, .p (.string v5.2.1)), (11, .box (eRt v7.1)), (13, .box (eRt v8.1)), (52, .p (.bool true))] [(3, gF), (4, gF), (5, bF), (7, gF), (8, gF), (9, bF), (11, gT), (12, gT), (13, bT)] (B6 ha1 ha1 ha1 ha2 ha2 ha2 (A3 ha3 ha3 ha3))) (by (try rw [ha1]); (try rw [ha2]); (try rw [ha3]); all_goals (first | rfl | simp [ha1, ha2, ha3]))
   exact RegOk.of_eq (l2 := [(4, .ov false (oP 57 x2.2)), (6, .p (.string v5.2.1)), (11, .box (eRt v7.1)), (13, .box (eRt v8.1)), (52, .p (.bool ((!v5.2.2) || ((!v6.2.2) || ((!v7.2) || (!v8.2))))))]) (r_gq [(4, .ov false (oP 57 x2.2)), (6, .p (.string v5.2.1)), (11, .box (eRt v7.1)), (13, .box (eRt v8.1)), (52, .p (.bool (!v8.2)))] [(3, gF), (4, gF), (5, bF), (7, gF), (8, gF), (9, bF), (11, gF), (12, gF), (13, bF)] (B6 ha1 ha1 ha1 ha2 ha2 ha2 (A3 ha3 ha3 ha3))) (by (try rw [ha1]); (try rw [ha2]); (try rw [ha3]); all_goals (first | rfl | simp [ha1, ha2, ha3]))
  refine kc ((!v5.2.2) || ((!v6.2.2) || ((!v7.2) || (!v8.2)))) (fun hc6_8 => ?_) (fun hc6_8 => ?_)
  ·replace h := yma hc6_8 h
   refine kG [(2, .ov false (oN 57)), (3, .p (.bool false))] [] trivial ?_
   refine yva (q_r (b_r (lq_r ?_)))
   refine b_r (q_r ?_)
   have hyy := hy_x2 _ (oi h).symm
   subst hyy
   have h := hk_x2
   dsimp only [Sum.elim] at h
   obtain rfl := oi h
   exact er [(.ov false (oN 57), 2), (.p (.bool false), 3)]
  replace h := yna hc6_8 h
  refine yja (q_n ?_)
  obtain ⟨u10, hu10, h⟩ := bs h
  refine kG [(4, .ov false (oP 57 (x2.2 ++ [(v7.1, v8.1)]))), (6, .p (.string v5.2.1))] [(5, {fix := some (58, .ov false (oP 57 (x2.2 ++ [(v7.1, v8.1)])))})] (A3 (show List.length ((x2.2.map ePt) : List (List C)) + List.length ((([(v7.1, v8.1)]).map ePt) : List (List C)) ≤ 1099511627776 from (by have hg := (yea hu10); simpa using hg)) (show ∀ row ∈ ((([(v7.1, v8.1)]).map ePt) : List (List C)), row.length = 4 from (ydg fun _ => rfl)) (show (SV.ov false [.sl (some 57) ((x2.2.map ePt) ++ (([(v7.1, v8.1)]).map ePt))] : SV) = .ov false (oP 57 (x2.2 ++ [(v7.1, v8.1)])) from (congrArg (fun z => SV.ov false [.sl (some 57) z]) (List.map_append ..).symm))) ?_
  refine yff (r_gq [(0, .p (.string v5.2.1)), (4, .ov false (oP 57 (x2.2 ++ [(v7.1, v8.1)])))] [] trivial) ?_
  refine b_n ?_
  exact lqn (v5.2.1, (x2.2 ++ [(v7.1, v8.1)])) h
 replace h := yna hc5_3 h
 refine ykg (q_x (lq_x (b_x ?_)))
 have hyy := hy_x2 _ (oi h).symm
 subst hyy
 have h := hk_x2
 dsimp only [Sum.elim] at h
 refine q_n ?_
 exact jx x2.2 h
theorem yko {a0 : ByteArray}  {r : ((List Qp) × Bool)} (h : ykd a0 = some r) : Meets Tryz.prog 14 [.v (.string a0)] { vals := [.ov true (oP 57 r.1), .p (.bool r.2)] } := by
 refine mo Tryz.func14 [(0, .p (.string a0))] ?_
 unfold ykd at h
 refine kG [(0, .p (.string a0)), (2, .box (oN 57))] [] trivial ?_
 obtain ⟨v1, hv1, h⟩ := bs h
 refine kG [(2, .box (oN 57)), (4, .ov false (oP 57 v1.1)), (5, .p (.bool v1.2))] [(1, (cN [.ov false (oP 57 v1.1), .p (.bool v1.2)]))] (A2 (ymt hv1) (show List.all [.ov false (oP 57 v1.1), .p (.bool v1.2)] simpleR = true from (sa_o (wnR1 (yzm (wn_P (wn_P wn_I wn_I) (wn_P wn_I wn_I))) rfl) (sa_p rfl)))) ?_
 refine kG [(2, .box (oN 57)), (5, .p (.bool v1.2)), (6, .box (oP 57 v1.1))] [] trivial ?_
 refine yqb ?_
 obtain ⟨w3, hw3, h⟩ := bs h
 refine yya (l1 := [(2, .box (oN 57)), (6, .box (oP 57 v1.1)), (20, .p (.bool w3))]) ?_ ?_
 ·clear h
  rcases ft (!v1.2) with ha0 | ha0
  ·replace hw3 := yma ha0 hw3
   have hw3 := oi hw3
   subst hw3
   exact (r_gq [(2, .box (oN 57)), (6, .box (oP 57 v1.1)), (20, .p (.bool true))] [(3, gT), (4, gT), (5, gT), (6, bT)] (A4 ha0 ha0 ha0 ha0))
  obtain ⟨v2, hv2, hw3⟩ := bs (yna ha0 hw3)
  have hw3 := oi hw3
  subst hw3
  exact (r_gq [(2, .box (oN 57)), (6, .box (oP 57 v1.1)), (20, .p (.bool (!v2)))] [(3, gF), (4, (gC [.d true (sP v1.1)] [.p (.bool v2)])), (5, gF), (6, bF)] (B6 ha0 (frO 57 v1.1) ha0 (show ([.d true [.sl none (eraL (v1.1.map ePt))]] : List Arg) = [.d true (sP v1.1)] from (by simp only [erPt])) (yac hv2) ha0 (A1 ha0)))
 refine kc w3 (fun hc2_3 => ?_) (fun hc2_3 => ?_)
 ·replace h := yma hc2_3 h
  refine kG [(2, .box (oN 57)), (3, .p (.bool false))] [(0, bT)] trivial ?_
  refine yva (q_r ?_)
  obtain rfl := oi h
  exact er [(.ov true (oN 57), 2), (.p (.bool false), 3)]
 replace h := yna hc2_3 h
 refine yja (q_n (kG [(2, .box (oP 57 v1.1)), (3, .p (.bool true))] [] (A1 (frO 57 v1.1)) ?_))
 refine yva ?_
 obtain rfl := oi h
 exact er [(.ov true (oP 57 v1.1), 2), (.p (.bool true), 3)]
theorem ykm {a0 : ByteArray} {a1 : Int}  {r : (List ByteArray)} (h : yxg a0 a1 = some r) : Meets Tryz.prog 55 [.v (.string a0), .v (.int .u8 a1)] { vals := [.ov false [.sl (some 9) (r.map eT)]] } := by
 refine mo Tryz.func55 [(0, .p (.string a0)), (1, .p (.int .u8 a1))] ?_
 unfold yxg at h
 refine kG [(0, .p (.string a0)), (1, .p (.int .u8 a1))] [] trivial ?_
 refine kG [(0, .p (.string a0)), (1, .p (.int .u8 a1)), (5, .ov false (oN 9))] [] trivial ?_
 refine kG [(0, .p (.string a0)), (1, .p (.int .u8 a1)), (5, .ov false (oN 9)), (6, .p (iV 0))] [] trivial ?_
 refine yhd (J := fun (x : ((List ByteArray) × Int)) => [(0, .p (.string a0)), (5, .ov false [.sl (some 9) (x.1.map eT)]), (6, .p (iV x.2))]) (K := fun x => ydk a0 x = some r) (fun x1 h => ?_) ?_
 ·unfold ydk at h
  obtain ⟨u2, hu2, h⟩ := bs h
  obtain ⟨u3, hu3, h⟩ := bs h
  refine kG [(4, .ov false [.sl (some 9) ((x1.1 ++ [(strCut a0 x1.2 (a0.size : Int))]).map eT)])] [(3, {pv := some (.string (strCut a0 x1.2 (a0.size : Int)))}), (5, {fix := some (33, .ov false [.sl (some 9) ((x1.1 ++ [(strCut a0 x1.2 (a0.size : Int))]).map eT)])})] (A4 (show PureAt Tryz.prog (.slice 9 (.tmp 29) (some (.tmp 30)) none none) [.string a0, .int .i64 x1.2] (.string (strCut a0 x1.2 (a0.size : Int))) from (yro (by kernel_rfl) (yea hu2))) (show List.length ((x1.1.map eT) : List (List C)) + List.length ((([(strCut a0 x1.2 (a0.size : Int))]).map eT) : List (List C)) ≤ 1099511627776 from (by have hg := (yea hu3); simpa using hg)) (show ∀ row ∈ ((([(strCut a0 x1.2 (a0.size : Int))]).map eT) : List (List C)), row.length = 1 from (ydg fun _ => rfl)) (show (SV.ov false [.sl (some 9) ((x1.1.map eT) ++ (([(strCut a0 x1.2 (a0.size : Int))]).map eT))] : SV) = .ov false [.sl (some 9) ((x1.1 ++ [(strCut a0 x1.2 (a0.size : Int))]).map eT)] from (congrArg (fun z => SV.ov false [.sl (some 9) z]) (List.map_append ..).symm))) ?_
  refine yva ?_
  obtain rfl := oi h
  exact er [(.ov false [.sl (some 9) ((x1.1 ++ [(strCut a0 x1.2 (a0.size : Int))]).map eT)], 4)]
 refine kG [(0, .p (.string a0)), (1, .p (.int .u8 a1)), (5, .ov false (oN 9)), (6, .p (iV 0)), (7, .p (iV 0))] [] trivial ?_
 refine ywa ?_
 obtain ⟨y5, hl_x4, hk_x4⟩ := bs h
 clear h
 refine yuh (J := fun (x : ((List ByteArray) × Int × Int)) => [(0, .p (.string a0)), (1, .p (.int .u8 a1)), (5, .ov false [.sl (some 9) (x.1.map eT)]), (6, .p (iV x.2.1)), (7, .p (iV x.2.2))]) hl_x4 wkk (fun x4 o_x4 h hy_x4 => ?_)
 unfold ybg at h
 refine yqb (kG [(0, .p (.string a0)), (1, .p (.int .u8 a1)), (5, .ov false [.sl (some 9) (x4.1.map eT)]), (6, .p (iV x4.2.1)), (7, .p (iV x4.2.2)), (11, .p (.bool (decide (x4.2.2 < (a0.size : Int)))))] [] trivial ?_)
 refine kc (decide (x4.2.2 < (a0.size : Int))) (fun hc5_5 => ?_) (fun hc5_5 => ?_)
 ·replace h := yma hc5_5 h
  refine yja (q_n (yqb (ywa ?_)))
  obtain ⟨u7, hu7, h⟩ := bs h
  refine kG [(0, .p (.string a0)), (1, .p (.int .u8 a1)), (5, .ov false [.sl (some 9) (x4.1.map eT)]), (6, .p (iV x4.2.1)), (7, .p (iV x4.2.2)), (18, .p (.bool ((strAt a0 x4.2.2) == a1)))] [(2, {pv := some (.int .u8 (strAt a0 x4.2.2))})] (A1 (show PureAt Tryz.prog (.index 9 (.tmp 14) (.tmp 15)) [.string a0, .int .i64 x4.2.2] (.int .u8 (strAt a0 x4.2.2)) from (yok (by kernel_rfl) (yea hu7)))) ?_
  refine kc ((strAt a0 x4.2.2) == a1) (fun hc6_7 => ?_) (fun hc6_7 => ?_)
  ·obtain ⟨u9, hu9, h⟩ := bs (yma hc6_7 h)
   obtain ⟨u10, hu10, h⟩ := bs h
   refine kG [(0, .p (.string a0)), (1, .p (.int .u8 a1)), (5, .ov false [.sl (some 9) ((x4.1 ++ [(strCut a0 x4.2.1 x4.2.2)]).map eT)]), (7, .p (iV x4.2.2))] [(4, {pv := some (.string (strCut a0 x4.2.1 x4.2.2))}), (6, {fix := some (25, .ov false [.sl (some 9) ((x4.1 ++ [(strCut a0 x4.2.1 x4.2.2)]).map eT)])})] (A4 (show PureAt Tryz.prog (.slice 9 (.tmp 20) (some (.tmp 21)) (some (.tmp 22)) none) [.string a0, .int .i64 x4.2.1, .int .i64 x4.2.2] (.string (strCut a0 x4.2.1 x4.2.2)) from (ybj1 (by kernel_rfl) (yea hu9))) (show List.length ((x4.1.map eT) : List (List C)) + List.length ((([(strCut a0 x4.2.1 x4.2.2)]).map eT) : List (List C)) ≤ 1099511627776 from (by have hg := (yea hu10); simpa using hg)) (show ∀ row ∈ ((([(strCut a0 x4.2.1 x4.2.2)]).map eT) : List (List C)), row.length = 1 from (ydg fun _ => rfl)) (show (SV.ov false [.sl (some 9) ((x4.1.map eT) ++ (([(strCut a0 x4.2.1 x4.2.2)]).map eT))] : SV) = .ov false [.sl (some 9) ((x4.1 ++ [(strCut a0 x4.2.1 x4.2.2)]).map eT)] from (congrArg (fun z => SV.ov false [.sl (some 9) z]) (List.map_append ..).symm))) ?_
   refine yff (r_gq [(0, .p (.string a0)), (1, .p (.int .u8 a1)), (5, .ov false [.sl (some 9) ((x4.1 ++ [(strCut a0 x4.2.1 x4.2.2)]).map eT)]), (6, .p (iV (w64 (x4.2.2 + 1)))), (7, .p (iV x4.2.2))] [] trivial) ?_
   refine b_n (q_n (yff (r_gq [(0, .p (.string a0)), (1, .p (.int .u8 a1)), (5, .ov false [.sl (some 9) ((x4.1 ++ [(strCut a0 x4.2.1 x4.2.2)]).map eT)]), (6, .p (iV (w64 (x4.2.2 + 1)))), (7, .p (iV (w64 (x4.2.2 + 1))))] [] trivial) ?_))
   exact lqn ((x4.1 ++ [(strCut a0 x4.2.1 x4.2.2)]), (w64 (x4.2.2 + 1)), (w64 (x4.2.2 + 1))) h
  replace h := yna hc6_7 h
  refine yja (b_n (q_n (yff (r_gq [(0, .p (.string a0)), (1, .p (.int .u8 a1)), (5, .ov false [.sl (some 9) (x4.1.map eT)]), (6, .p (iV x4.2.1)), (7, .p (iV (w64 (x4.2.2 + 1))))] [] trivial) ?_)))
  exact lqn (x4.1, x4.2.1, (w64 (x4.2.2 + 1))) h
 replace h := yna hc5_5 h
 refine ykg (q_x (lq_x (b_x ?_)))
 have hyy := hy_x4 _ (oi h).symm
 subst hyy
 have h := hk_x4
 refine q_n ?_
 exact jx (x4.1, x4.2.1) h
theorem ygs {a0 : ByteArray}  {r : Int} (h : ybf a0 = some r) : Meets Tryz.prog 100 [.v (.string a0)] { vals := [.p (iV r)] } := by
 refine mo Tryz.func100 [(0, .p (.string a0))] ?_
 unfold ybf at h
 refine kG [(0, .p (.string a0))] [] trivial ?_
 refine yqb ?_
 obtain ⟨v1, hv1, h⟩ := bs h
 obtain ⟨w3, hw3, h⟩ := bs h
 refine yya (l1 := [(0, .p (.string a0)), (18, .p (.bool w3))]) ?_ ?_
 ·clear h
  rcases ft (!v1) with ha0 | ha0
  ·replace hw3 := yma ha0 hw3
   have hw3 := oi hw3
   subst hw3
   exact (r_gq [(0, .p (.string a0)), (18, .p (.bool true))] [(2, (cN [.p (.bool v1)])), (5, gT), (6, gT), (7, gT), (8, gT), (12, gT), (13, bT)] (B6 (ycd hv1) ha0 ha0 ha0 ha0 ha0 (A1 ha0)))
  obtain ⟨u2, hu2, hw3⟩ := bs (yna ha0 hw3)
  rcases ft ((strAt a0 0) == 48) with ha1 | ha1
  ·replace hw3 := yma ha1 hw3
   have hw3 := oi hw3
   subst hw3
   exact (r_gq [(0, .p (.string a0)), (18, .p (.bool (decide ((a0.size : Int) > 1))))] [(2, (cN [.p (.bool v1)])), (5, gF), (6, {g := some false, pv := some (.int .u8 (strAt a0 0))}), (7, gF), (8, gF), (9, gT), (10, gT), (11, gT), (12, gFbT), (13, bF)] (B6 (ycd hv1) ha0 ha0 (show PureAt Tryz.prog (.index 9 (.tmp 10) (.const (iV 0))) [.string a0, .int .i64 0] (.int .u8 (strAt a0 0)) from (yok (by kernel_rfl) (yea hu2))) ha0 ha0 (A6 ha1 ha1 ha1 ha0 ha1 ha0)))
  replace hw3 := yna ha1 hw3
  have hw3 := oi hw3
  subst hw3
  exact (r_gq [(0, .p (.string a0)), (18, .p (.bool false))] [(2, (cN [.p (.bool v1)])), (5, gF), (6, {g := some false, pv := some (.int .u8 (strAt a0 0))}), (7, gF), (8, gF), (9, gF), (10, gF), (11, gF), (12, gFbF), (13, bF)] (B6 (ycd hv1) ha0 ha0 (show PureAt Tryz.prog (.index 9 (.tmp 10) (.const (iV 0))) [.string a0, .int .i64 0] (.int .u8 (strAt a0 0)) from (yok (by kernel_rfl) (yea hu2))) ha0 ha0 (A6 ha1 ha1 ha1 ha0 ha1 ha0)))
 refine kc w3 (fun hc2_3 => ?_) (fun hc2_3 => ?_)
 ·replace h := yma hc2_3 h
  refine kG [(2, .p (iV (-1)))] [] trivial ?_
  refine yva (q_r ?_)
  obtain rfl := oi h
  exact er [(.p (iV (-1)), 2)]
 replace h := yna hc2_3 h
 refine yja (q_n (kG [(0, .p (.string a0)), (3, .p (iV 0))] [] trivial ?_))
 refine yhd (J := fun (x : Int) => [(3, .p (iV x))]) (K := fun x => ytk x = some r) (fun x5 h => ?_) ?_
 ·unfold ytk at h
  refine kG [(2, .p (iV x5))] [] trivial ?_
  refine yva ?_
  obtain rfl := oi h
  exact er [(.p (iV x5), 2)]
 refine kG [(0, .p (.string a0)), (3, .p (iV 0)), (4, .p (iV 0))] [] trivial ?_
 refine ywa ?_
 obtain ⟨y7, hl_x6, hk_x6⟩ := bs h
 clear h
 refine yuh (J := fun (x : Qr) => [(0, .p (.string a0)), (3, .p (iV x.1)), (4, .p (iV x.2))]) hl_x6 wkk (fun x6 o_x6 h hy_x6 => ?_)
 unfold yjd at h
 refine yqb (kG [(0, .p (.string a0)), (3, .p (iV x6.1)), (4, .p (iV x6.2)), (22, .p (.bool (decide (x6.2 < (a0.size : Int)))))] [] trivial ?_)
 refine kc (decide (x6.2 < (a0.size : Int))) (fun hc5_7 => ?_) (fun hc5_7 => ?_)
 ·replace h := yma hc5_7 h
  refine yja (q_n (yqb (ywa (yqb ?_))))
  obtain ⟨u9, hu9, h⟩ := bs h
  refine yya (l1 := [(0, .p (.string a0)), (3, .p (iV x6.1)), (4, .p (iV x6.2)), (34, .p (.bool ((decide ((strAt a0 x6.2) < 48)) || (decide ((strAt a0 x6.2) > 57)))))]) ?_ ?_
  ·rcases ft (decide ((strAt a0 x6.2) < 48)) with ha2 | ha2
   ·exact RegOk.of_eq (l2 := [(0, .p (.string a0)), (3, .p (iV x6.1)), (4, .p (iV x6.2)), (34, .p (.bool ((decide ((strAt a0 x6.2) < 48)) || (decide ((strAt a0 x6.2) > 57)))))]) (r_gq [(0, .p (.string a0)), (3, .p (iV x6.1)), (4, .p (iV x6.2)), (34, .p (.bool true))] [(2, {pv := some (.int .u8 (strAt a0 x6.2))}), (5, gT), (6, gT), (7, gT), (8, gT), (9, bT)] (A6 (show PureAt Tryz.prog (.index 9 (.tmp 25) (.tmp 26)) [.string a0, .int .i64 x6.2] (.int .u8 (strAt a0 x6.2)) from (yok (by kernel_rfl) (yea hu9))) ha2 ha2 ha2 ha2 ha2)) (by simp [ha2])
   exact RegOk.of_eq (l2 := [(0, .p (.string a0)), (3, .p (iV x6.1)), (4, .p (iV x6.2)), (34, .p (.bool ((decide ((strAt a0 x6.2) < 48)) || (decide ((strAt a0 x6.2) > 57)))))]) (r_gq [(0, .p (.string a0)), (3, .p (iV x6.1)), (4, .p (iV x6.2)), (34, .p (.bool (decide ((strAt a0 x6.2) > 57))))] [(2, {pv := some (.int .u8 (strAt a0 x6.2))}), (5, gF), (6, gF), (7, {g := some false, pv := some (.int .u8 (strAt a0 x6.2))}), (8, gF), (9, bF)] (B6 (show PureAt Tryz.prog (.index 9 (.tmp 25) (.tmp 26)) [.string a0, .int .i64 x6.2] (.int .u8 (strAt a0 x6.2)) from (yok (by kernel_rfl) (yea hu9))) ha2 ha2 ha2 (show PureAt Tryz.prog (.index 9 (.tmp 30) (.tmp 31)) [.string a0, .int .i64 x6.2] (.int .u8 (strAt a0 x6.2)) from (yok (by kernel_rfl) (yea hu9))) ha2 (A1 ha2))) (by simp [ha2])
  refine kc ((decide ((strAt a0 x6.2) < 48)) || (decide ((strAt a0 x6.2) > 57))) (fun hc7_9 => ?_) (fun hc7_9 => ?_)
  ·replace h := yma hc7_9 h
   refine kG [(2, .p (iV (-1)))] [] trivial ?_
   refine yva (q_r (b_r (q_r (lq_r ?_))))
   refine b_r (q_r ?_)
   have hyy := hy_x6 _ (oi h).symm
   subst hyy
   have h := hk_x6
   dsimp only [Sum.elim] at h
   obtain rfl := oi h
   exact er [(.p (iV (-1)), 2)]
  replace h := yna hc7_9 h
  refine yja (q_n (yff (r_gq [(0, .p (.string a0)), (3, .p (iV (w64 ((w64 (10 * x6.1)) + (IntKind.wrap .i64 (IntKind.wrap .u8 ((strAt a0 x6.2) - 48))))))), (4, .p (iV x6.2))] [(4, {pv := some (.int .u8 (strAt a0 x6.2))}), (6, {pv := some (iV (IntKind.wrap .i64 (IntKind.wrap .u8 ((strAt a0 x6.2) - 48))))})] (A2 (show PureAt Tryz.prog (.index 9 (.tmp 37) (.tmp 38)) [.string a0, .int .i64 x6.2] (.int .u8 (strAt a0 x6.2)) from (yok (by kernel_rfl) (yea hu9))) (show PureAt Tryz.prog (.convert 5 3 (.tmp 40)) [.int .u8 (IntKind.wrap .u8 ((strAt a0 x6.2) - 48))] (iV (IntKind.wrap .i64 (IntKind.wrap .u8 ((strAt a0 x6.2) - 48)))) from (yxp yzu ybq)))) ?_))
  refine b_n (q_n (yff (r_gq [(0, .p (.string a0)), (3, .p (iV (w64 ((w64 (10 * x6.1)) + (IntKind.wrap .i64 (IntKind.wrap .u8 ((strAt a0 x6.2) - 48))))))), (4, .p (iV (w64 (x6.2 + 1))))] [] trivial) ?_))
  exact lqn ((w64 ((w64 (10 * x6.1)) + (IntKind.wrap .i64 (IntKind.wrap .u8 ((strAt a0 x6.2) - 48))))), (w64 (x6.2 + 1))) h
 replace h := yna hc5_7 h
 refine ykg (q_x (lq_x (b_x ?_)))
 have hyy := hy_x6 _ (oi h).symm
 subst hyy
 have h := hk_x6
 dsimp only [Sum.elim] at h
 refine q_n ?_
 exact jx x6.1 h
theorem yqq {a0 : ByteArray}  {r : (Qr × Bool)} (h : yzg a0 = some r) : Meets Tryz.prog 56 [.v (.string a0)] { vals := [.p (vRt r.1), .p (.bool r.2)] } := by
 refine mo Tryz.func56 [(0, .p (.string a0))] ?_
 unfold yzg at h
 refine kG [(0, .p (.string a0)), (2, .box zR)] [] trivial ?_
 obtain ⟨v1, hv1, h⟩ := bs h
 refine kG [(0, .p (.string a0)), (2, .box zR), (4, .ov false [.sl (some 9) (v1.map eT)])] [(1, (cN [.ov false [.sl (some 9) (v1.map eT)]]))] (A2 (ykm hv1) (show List.all [.ov false [.sl (some 9) (v1.map eT)]] simpleR = true from (sa_o (wnR1 (yzm wn_T) rfl) rfl))) ?_
 refine yqb ?_
 obtain ⟨w3, hw3, h⟩ := bs h
 refine yya (l1 := [(0, .p (.string a0)), (2, .box zR), (4, .ov false [.sl (some 9) (v1.map eT)]), (23, .p (.bool w3))]) ?_ ?_
 ·clear h
  rcases ft (decide ((a0.size : Int) > 22)) with ha0 | ha0
  ·replace hw3 := yma ha0 hw3
   have hw3 := oi hw3
   subst hw3
   exact (r_gq [(0, .p (.string a0)), (2, .box zR), (4, .ov false [.sl (some 9) (v1.map eT)]), (23, .p (.bool true))] [(4, gT), (5, gT), (6, gT), (7, bT), (9, gT), (10, gT), (11, gT), (12, gT), (13, gT), (14, bT)] (B6 ha0 ha0 ha0 ha0 tT tT (A4 tT tT tT tT)))
  replace hw3 := yna ha0 hw3
  rcases ft ((v1.length : Int) != 2) with ha1 | ha1
  ·replace hw3 := yma ha1 hw3
   have hw3 := oi hw3
   subst hw3
   exact (r_gq [(0, .p (.string a0)), (2, .box zR), (4, .ov false [.sl (some 9) (v1.map eT)]), (23, .p (.bool true))] [(4, gF), (5, {g := some false, n := some v1.length}), (6, gF), (7, bF), (9, gT), (10, gT), (11, gT), (12, gT), (13, gT), (14, bT)] (B6 ha0 ha0 (show (v1.map eT).length = v1.length from (List.length_map ..)) ha0 ha0 ha1 (A5 ha1 ha1 ha1 ha1 ha1)))
  obtain ⟨v2, hv2, hw3⟩ := bs (yna ha1 hw3)
  have hw3 := oi hw3
  subst hw3
  exact (r_gq [(0, .p (.string a0)), (2, .box zR), (4, .ov false [.sl (some 9) (v1.map eT)]), (23, .p (.bool ((v2.size : Int) == 0)))] [(4, gF), (5, {g := some false, n := some v1.length}), (6, gF), (7, bF), (9, gF), (10, {g := some false, row := some [.raw (.string v2)]}), (11, {g := some false, row := some [.raw (.string v2)]}), (12, gF), (13, gF), (14, bF)] (B6 ha0 ha0 (show (v1.map eT).length = v1.length from (List.length_map ..)) ha0 ha0 ha1 (B6 ha1 (yba hv2).1 (yia eT (yba hv2).2) ha1 (show getRow [[.sl (some 9) (v1.map eT)]] [(0, 0), ((Int.toNat 0), 0)] = some [.raw (.string v2)] from ((gr0 rfl).trans (gre (yia eT (yba hv2).2)))) ha1 (A2 ha1 ha1))))
 refine kc w3 (fun hc2_3 => ?_) (fun hc2_3 => ?_)
 ·replace h := yma hc2_3 h
  refine kG [(2, .box zR), (3, .p (.bool false))] [] trivial ?_
  refine yva (q_r ?_)
  obtain rfl := oi h
  exact er [(.p (.agg #[.int .i64 0, .int .i64 0]), 2), (.p (.bool false), 3)]
 replace h := yna hc2_3 h
 refine yja (q_n (kG [(0, .p (.string a0)), (2, .box zR), (4, .ov false [.sl (some 9) (v1.map eT)]), (5, .p (iV 1))] [] trivial ?_))
 refine yhd (J := fun (x : ((List ByteArray) × Int)) => [(0, .p (.string a0)), (2, .box zR), (4, .ov false [.sl (some 9) (x.1.map eT)]), (5, .p (iV x.2))]) (K := fun x => ymb a0 x = some r) (fun x5 h => ?_) ?_
 ·unfold ymb at h
  obtain ⟨v6, hv6, h⟩ := bs h
  obtain ⟨v7, hv7, h⟩ := bs h
  obtain ⟨v8, hv8, h⟩ := bs h
  obtain ⟨v9, hv9, h⟩ := bs h
  refine yya (r_dq yca 12 [] [(0, .p (.string a0)), (2, .box zR), (6, .box [rI (w64 (x5.2 * v7)), rI v9])] [(2, {row := some [.raw (.string v6)]}), (3, {row := some [.raw (.string v6)]}), (4, (cN [.p (iV v7)])), (7, {row := some [.raw (.string v8)]}), (8, {row := some [.raw (.string v8)]}), (9, (cN [.p (iV v9)]))] (B6 (yba hv6).1 (yia eT (yba hv6).2) (show getRow [[.sl (some 9) (x5.1.map eT)]] [(0, 0), ((Int.toNat 0), 0)] = some [.raw (.string v6)] from ((gr0 rfl).trans (gre (yia eT (yba hv6).2)))) (ygs hv7) (yba hv8).1 (yia eT (yba hv8).2) (A2 (show getRow [[.sl (some 9) (x5.1.map eT)]] [(0, 0), ((Int.toNat 1), 0)] = some [.raw (.string v8)] from ((gr0 rfl).trans (gre (yia eT (yba hv8).2)))) (ygs hv9)))) ?_
  refine yqb ?_
  obtain ⟨v10, hv10, h⟩ := bs h
  obtain ⟨w12, hw12, h⟩ := bs h
  refine yya (l1 := [(2, .box zR), (6, .box [rI (w64 (x5.2 * v7)), rI v9]), (55, .p (.bool w12))]) ?_ ?_
  ·clear h
   rcases ft (!v10) with ha1 | ha1
   ·replace hw12 := yma ha1 hw12
    have hw12 := oi hw12
    subst hw12
    exact (r_gq [(2, .box zR), (6, .box [rI (w64 (x5.2 * v7)), rI v9]), (55, .p (.bool true))] [(1, (cN [.p (.bool v10)])), (4, gT), (5, gT), (6, gT), (7, gT), (8, bT)] (A6 (yqc hv10) ha1 ha1 ha1 ha1 ha1))
   obtain ⟨v11, hv11, hw12⟩ := bs (yna ha1 hw12)
   have hw12 := oi hw12
   subst hw12
   exact (r_gq [(2, .box zR), (6, .box [rI (w64 (x5.2 * v7)), rI v9]), (55, .p (.bool (!(v11.toList == a0.toList))))] [(1, (cN [.p (.bool v10)])), (4, gF), (5, (gN [.p (.string v11)])), (6, gF), (7, gF), (8, bF)] (B6 (yqc hv10) ha1 ha1 (yao hv11) ha1 ha1 (A1 ha1)))
  refine kc w12 (fun hc2_12 => ?_) (fun hc2_12 => ?_)
  ·replace h := yma hc2_12 h
   refine kG [(2, .box zR), (3, .p (.bool false))] [] trivial ?_
   refine yva (q_r ?_)
   obtain rfl := oi h
   exact er [(.p (.agg #[.int .i64 0, .int .i64 0]), 2), (.p (.bool false), 3)]
  replace h := yna hc2_12 h
  refine yja (q_n (kG [(2, .box [rI (w64 (x5.2 * v7)), rI v9]), (3, .p (.bool true))] [] trivial ?_))
  refine yva ?_
  obtain rfl := oi h
  exact er [(.p (.agg #[.int .i64 (w64 (x5.2 * v7)), .int .i64 v9]), 2), (.p (.bool true), 3)]
 obtain ⟨v14, hv14, h⟩ := bs h
 obtain ⟨u15, hu15, h⟩ := bs h
 refine kG [(0, .p (.string a0)), (2, .box zR), (4, .ov false [.sl (some 9) (v1.map eT)]), (5, .p (iV 1)), (29, .p (.bool ((strAt v14 0) == 45)))] [(1, {row := some [.raw (.string v14)]}), (2, {row := some [.raw (.string v14)]}), (3, {pv := some (.int .u8 (strAt v14 0))})] (A4 (yba hv14).1 (yia eT (yba hv14).2) (show getRow [[.sl (some 9) (v1.map eT)]] [(0, 0), ((Int.toNat 0), 0)] = some [.raw (.string v14)] from ((gr0 rfl).trans (gre (yia eT (yba hv14).2)))) (show PureAt Tryz.prog (.index 9 (.tmp 27) (.const (iV 0))) [.string v14, .int .i64 0] (.int .u8 (strAt v14 0)) from (yok (by kernel_rfl) (yea hu15)))) ?_
 refine kc ((strAt v14 0) == 45) (fun hc2_15 => ?_) (fun hc2_15 => ?_)
 ·replace h := yma hc2_15 h
  refine kG [(0, .p (.string a0)), (2, .box zR), (4, .ov false [.sl (some 9) (v1.map eT)]), (5, .p (iV (-1)))] [] trivial ?_
  obtain ⟨u17, hu17, h⟩ := bs h
  refine yff (r_gq [(0, .p (.string a0)), (2, .box zR), (4, .ov false [.sl (some 9) ((v1.set (Int.toNat 0) (strCut v14 1 (v14.size : Int))).map eT)]), (5, .p (iV (-1)))] [(2, {row := some [.raw (.string v14)]}), (3, {row := some [.raw (.string v14)]}), (4, {pv := some (.string (strCut v14 1 (v14.size : Int)))}), (5, {row := some [.raw (.string v14)]}), (6, {row := some [.raw (.string v14)], fix := some (4, .ov false [.sl (some 9) ((v1.set (Int.toNat 0) (strCut v14 1 (v14.size : Int))).map eT)])})] (B6 (yba hv14).1 (yia eT (yba hv14).2) (show getRow [[.sl (some 9) (v1.map eT)]] [(0, 0), ((Int.toNat 0), 0)] = some [.raw (.string v14)] from ((gr0 rfl).trans (gre (yia eT (yba hv14).2)))) (show PureAt Tryz.prog (.slice 9 (.tmp 33) (some (.const (iV 1))) none none) [.string v14, .int .i64 1] (.string (strCut v14 1 (v14.size : Int))) from (yro (by kernel_rfl) (yea hu17))) (yba hv14).1 (yia eT (yba hv14).2) (A2 (show getRow [[.sl (some 9) (v1.map eT)]] [(0, 0), ((Int.toNat 0), 0)] = some [.raw (.string v14)] from ((gr0 rfl).trans (gre (yia eT (yba hv14).2)))) (show (SV.ov false [.sl (some 9) (setL (v1.map eT) [((Int.toNat 0), 0)] [.raw (.string (strCut v14 1 (v14.size : Int)))])] : SV) = .ov false [.sl (some 9) ((v1.set (Int.toNat 0) (strCut v14 1 (v14.size : Int))).map eT)] from (congrArg (fun z => SV.ov false [.sl (some 9) z]) (set1 (f := eT) (y := (strCut v14 1 (v14.size : Int))) (yba hv14).2 rfl)))))) ?_
  refine q_n ?_
  exact jx ((v1.set (Int.toNat 0) (strCut v14 1 (v14.size : Int))), (-1)) h
 replace h := yna hc2_15 h
 refine yja (q_n ?_)
 exact jx (v1, 1) h
theorem yju {a0 : ByteArray}  {r : ((List Qp) × Bool)} (h : yoe a0 = some r) : Meets Tryz.prog 15 [.v (.string a0)] { vals := [.ov true (sP r.1), .p (.bool r.2)] } := by
 refine mo Tryz.func15 [(0, .p (.string a0))] ?_
 unfold yoe at h
 refine kG [(0, .p (.string a0)), (2, .box (oN 57))] [] trivial ?_
 obtain ⟨v1, hv1, h⟩ := bs h
 refine kG [(0, .p (.string a0)), (2, .box (oN 57)), (4, .d false [.sl none (v1.map eT)])] [(1, (cN [.ov false [.sl (some 9) (v1.map eT)]])), (2, {pre := some (16, .d false [.sl none (v1.map eT)])})] (A3 (ykm hv1) (show List.all [.ov false [.sl (some 9) (v1.map eT)]] simpleR = true from (sa_o (wnR1 (yzm wn_T) rfl) rfl)) (show (SV.d false (eraR [.sl (some 9) (v1.map eT)]) : SV) = .d false [.sl none (v1.map eT)] from (congrArg (fun z => SV.d false z) (yul (yza er_T) rfl)))) ?_
 refine yqb (kG [(0, .p (.string a0)), (2, .box (oN 57)), (4, .d false [.sl none (v1.map eT)]), (19, .p (.bool (decide ((v1.length : Int) > 13))))] [(1, {n := some v1.length})] (A1 (show (v1.map eT).length = v1.length from (List.length_map ..))) ?_)
 refine kc (decide ((v1.length : Int) > 13)) (fun hc2_1 => ?_) (fun hc2_1 => ?_)
 ·replace h := yma hc2_1 h
  refine kG [(2, .box [.sl none []]), (3, .p (.bool false))] [] trivial ?_
  refine yva (q_r ?_)
  obtain rfl := oi h
  exact er [(.ov true [.sl none []], 2), (.p (.bool false), 3)]
 replace h := yna hc2_1 h
 refine yja (q_n (kG [(0, .p (.string a0)), (2, .box (oN 57)), (4, .d false [.sl none (v1.map eT)]), (5, .ov false (oN 57))] [] trivial ?_))
 refine yhd (J := fun (x : (List Qp)) => [(0, .p (.string a0)), (2, .box (oN 57)), (5, .ov false (oP 57 x))]) (K := fun x => ygd a0 x = some r) (fun x3 h => ?_) ?_
 ·unfold ygd at h
  obtain ⟨v4, hv4, h⟩ := bs h
  refine kG [(0, .p (.string a0)), (2, .box (oN 57)), (5, .d false (sP x3)), (13, .box (sP v4.1)), (14, .p (.bool v4.2))] [(1, {call := some (some [.d false (sP x3)], [.ov true (sP v4.1), .p (.bool v4.2)], false), fix := some (5, .d false (sP x3))})] (A3 (show ([.d false [.sl none (eraL (x3.map ePt))]] : List Arg) = [.d false (sP x3)] from (by simp only [erPt])) (ypv hv4) (show (SV.d false (eraR (oP 57 x3)) : SV) = .d false (sP x3) from (congrArg (fun z => SV.d false z) (yul (yza (ysm (ysm er_I er_I) (ysm er_I er_I))) rfl)))) ?_
  refine yqb ?_
  obtain ⟨w6, hw6, h⟩ := bs h
  refine yya (l1 := [(2, .box (oN 57)), (13, .box (sP v4.1)), (77, .p (.bool w6))]) ?_ ?_
  ·clear h
   rcases ft (!v4.2) with ha1 | ha1
   ·replace hw6 := yma ha1 hw6
    have hw6 := oi hw6
    subst hw6
    exact (r_gq [(2, .box (oN 57)), (13, .box (sP v4.1)), (77, .p (.bool true))] [(3, gT), (4, gT), (5, gT), (6, gT), (7, bT)] (A5 ha1 ha1 ha1 ha1 ha1))
   obtain ⟨v5, hv5, hw6⟩ := bs (yna ha1 hw6)
   have hw6 := oi hw6
   subst hw6
   exact (r_gq [(2, .box (oN 57)), (13, .box (sP v4.1)), (77, .p (.bool (!(v5.toList == a0.toList))))] [(3, gF), (4, (gN [.p (.string v5)])), (5, gF), (6, gF), (7, bF)] (A6 ha1 ha1 (ybo hv5) ha1 ha1 ha1))
  refine kc w6 (fun hc2_6 => ?_) (fun hc2_6 => ?_)
  ·replace h := yma hc2_6 h
   refine kG [(2, .box [.sl none []]), (3, .p (.bool false))] [] trivial ?_
   refine yva (q_r ?_)
   obtain rfl := oi h
   exact er [(.ov true [.sl none []], 2), (.p (.bool false), 3)]
  replace h := yna hc2_6 h
  refine yja (q_n (kG [(2, .box (sP v4.1)), (3, .p (.bool true))] [(0, bT)] (A1 (frE v4.1)) ?_))
  refine yva ?_
  obtain rfl := oi h
  exact er [(.ov true (sP v4.1), 2), (.p (.bool true), 3)]
 obtain ⟨u8, hu8, h⟩ := bs h
 refine kG [(0, .p (.string a0)), (2, .box (oN 57)), (5, .ov false (oN 57)), (25, .d false [.sl none ((v1.take (Int.toNat (w64 ((v1.length : Int) - 1)))).map eT)]), (26, .p (iV ((v1.take (Int.toNat (w64 ((v1.length : Int) - 1)))).length : Int))), (27, .p (iV 0))] [(2, {n := some v1.length}), (4, {fix := some (25, .d false [.sl none ((v1.take (Int.toNat (w64 ((v1.length : Int) - 1)))).map eT)])}), (5, {n := some (v1.take (Int.toNat (w64 ((v1.length : Int) - 1)))).length})] (B6 (show (v1.map eT).length = v1.length from (List.length_map ..)) (show 0 ≤ (Int.toNat (w64 ((v1.length : Int) - 1))) from (by have hg := (yea hu8); first | (simp only [List.length_map]; omega) | omega)) (show (Int.toNat (w64 ((v1.length : Int) - 1))) ≤ (v1.map eT).length from (by have hg := (yea hu8); first | (simp only [List.length_map]; omega) | omega)) (show ∀ row ∈ (v1.map eT), row.length = 1 from (ydg fun _ => rfl)) (show (0 : Int) ≤ (w64 ((v1.length : Int) - 1)) from (by have hg := (yea hu8); omega)) (show (SV.d false [.sl none (((v1.map eT).take (Int.toNat (w64 ((v1.length : Int) - 1)))).drop 0)] : SV) = .d false [.sl none ((v1.take (Int.toNat (w64 ((v1.length : Int) - 1)))).map eT)] from (congrArg (fun z => SV.d false [.sl none z]) yrs1)) (A1 (show ((v1.take (Int.toNat (w64 ((v1.length : Int) - 1)))).map eT).length = (v1.take (Int.toNat (w64 ((v1.length : Int) - 1)))).length from (List.length_map ..)))) ?_
 refine ywa ?_
 obtain ⟨y10, hl_x9, hk_x9⟩ := bs h
 clear h
 refine yuh (J := fun (x : ((List Qp) × Int)) => [(0, .p (.string a0)), (2, .box (oN 57)), (5, .ov false (oP 57 x.1)), (25, .d false [.sl none ((v1.take (Int.toNat (w64 ((v1.length : Int) - 1)))).map eT)]), (26, .p (iV ((v1.take (Int.toNat (w64 ((v1.length : Int) - 1)))).length : Int))), (27, .p (iV x.2))]) hl_x9 wkk (fun x9 o_x9 h hy_x9 => ?_)
 unfold yhc at h
 refine kG [(0, .p (.string a0)), (2, .box (oN 57)), (5, .ov false (oP 57 x9.1)), (25, .d false [.sl none ((v1.take (Int.toNat (w64 ((v1.length : Int) - 1)))).map eT)]), (26, .p (iV ((v1.take (Int.toNat (w64 ((v1.length : Int) - 1)))).length : Int))), (27, .p (iV x9.2)), (28, .p (.bool (decide (x9.2 < ((v1.take (Int.toNat (w64 ((v1.length : Int) - 1)))).length : Int)))))] [] trivial ?_
 refine yqb (kc (decide (x9.2 < ((v1.take (Int.toNat (w64 ((v1.length : Int) - 1)))).length : Int))) (fun hc5_10 => ?_) (fun hc5_10 => ?_))
 ·replace h := yma hc5_10 h
  refine yja (q_n (yqb (ywa ?_)))
  obtain ⟨v12, hv12, h⟩ := bs h
  refine kG [(0, .p (.string a0)), (2, .box (oN 57)), (5, .ov false (oP 57 x9.1)), (7, .p (.string v12)), (25, .d false [.sl none ((v1.take (Int.toNat (w64 ((v1.length : Int) - 1)))).map eT)]), (26, .p (iV ((v1.take (Int.toNat (w64 ((v1.length : Int) - 1)))).length : Int))), (27, .p (iV x9.2))] [(0, {row := some [.raw (.string v12)]})] (A2 (yba hv12).1 (yia eT (yba hv12).2)) ?_
  obtain ⟨v13, hv13, h⟩ := bs h
  refine kG [(0, .p (.string a0)), (2, .box (oN 57)), (5, .ov false (oP 57 x9.1)), (8, .ov false [.sl (some 9) (v13.map eT)]), (25, .d false [.sl none ((v1.take (Int.toNat (w64 ((v1.length : Int) - 1)))).map eT)]), (26, .p (iV ((v1.take (Int.toNat (w64 ((v1.length : Int) - 1)))).length : Int))), (27, .p (iV x9.2))] [(1, (cN [.ov false [.sl (some 9) (v13.map eT)]]))] (A2 (ykm hv13) (show List.all [.ov false [.sl (some 9) (v13.map eT)]] simpleR = true from (sa_o (wnR1 (yzm wn_T) rfl) rfl))) ?_
  refine yqb (kG [(0, .p (.string a0)), (2, .box (oN 57)), (5, .ov false (oP 57 x9.1)), (8, .ov false [.sl (some 9) (v13.map eT)]), (25, .d false [.sl none ((v1.take (Int.toNat (w64 ((v1.length : Int) - 1)))).map eT)]), (26, .p (iV ((v1.take (Int.toNat (w64 ((v1.length : Int) - 1)))).length : Int))), (27, .p (iV x9.2)), (35, .p (.bool ((v13.length : Int) != 2)))] [(1, {n := some v13.length})] (A1 (show (v13.map eT).length = v13.length from (List.length_map ..))) ?_)
  refine kc ((v13.length : Int) != 2) (fun hc7_13 => ?_) (fun hc7_13 => ?_)
  ·replace h := yma hc7_13 h
   refine kG [(2, .box [.sl none []]), (3, .p (.bool false))] [] trivial ?_
   refine yva (q_r (b_r (q_r (lq_r ?_))))
   refine b_r (q_r ?_)
   have hyy := hy_x9 _ (oi h).symm
   subst hyy
   have h := hk_x9
   dsimp only [Sum.elim] at h
   obtain rfl := oi h
   exact er [(.ov true [.sl none []], 2), (.p (.bool false), 3)]
  replace h := yna hc7_13 h
  refine yja (q_n ?_)
  obtain ⟨v15, hv15, h⟩ := bs h
  obtain ⟨v16, hv16, h⟩ := bs h
  refine kG [(0, .p (.string a0)), (2, .box (oN 57)), (5, .ov false (oP 57 x9.1)), (8, .ov false [.sl (some 9) (v13.map eT)]), (9, .box (eRt v16.1)), (10, .p (.bool v16.2)), (25, .d false [.sl none ((v1.take (Int.toNat (w64 ((v1.length : Int) - 1)))).map eT)]), (26, .p (iV ((v1.take (Int.toNat (w64 ((v1.length : Int) - 1)))).length : Int))), (27, .p (iV x9.2))] [(1, {row := some [.raw (.string v15)]}), (2, {row := some [.raw (.string v15)]}), (3, (cN [.p (vRt v16.1), .p (.bool v16.2)]))] (A4 (yba hv15).1 (yia eT (yba hv15).2) (show getRow [[.sl (some 9) (v13.map eT)]] [(0, 0), ((Int.toNat 0), 0)] = some [.raw (.string v15)] from ((gr0 rfl).trans (gre (yia eT (yba hv15).2)))) (yqq hv16)) ?_
  obtain ⟨v17, hv17, h⟩ := bs h
  obtain ⟨v18, hv18, h⟩ := bs h
  refine kG [(0, .p (.string a0)), (2, .box (oN 57)), (5, .ov false (oP 57 x9.1)), (9, .box (eRt v16.1)), (10, .p (.bool v16.2)), (11, .box (eRt v18.1)), (12, .p (.bool v18.2)), (25, .d false [.sl none ((v1.take (Int.toNat (w64 ((v1.length : Int) - 1)))).map eT)]), (26, .p (iV ((v1.take (Int.toNat (w64 ((v1.length : Int) - 1)))).length : Int))), (27, .p (iV x9.2))] [(1, {row := some [.raw (.string v17)]}), (2, {row := some [.raw (.string v17)]}), (3, (cN [.p (vRt v18.1), .p (.bool v18.2)]))] (A4 (yba hv17).1 (yia eT (yba hv17).2) (show getRow [[.sl (some 9) (v13.map eT)]] [(0, 0), ((Int.toNat 1), 0)] = some [.raw (.string v17)] from ((gr0 rfl).trans (gre (yia eT (yba hv17).2)))) (yqq hv18)) ?_
  refine yqb (yya (l1 := [(0, .p (.string a0)), (2, .box (oN 57)), (5, .ov false (oP 57 x9.1)), (9, .box (eRt v16.1)), (11, .box (eRt v18.1)), (25, .d false [.sl none ((v1.take (Int.toNat (w64 ((v1.length : Int) - 1)))).map eT)]), (26, .p (iV ((v1.take (Int.toNat (w64 ((v1.length : Int) - 1)))).length : Int))), (27, .p (iV x9.2)), (56, .p (.bool ((!v16.2) || (!v18.2))))]) ?_ ?_)
  ·rcases ft (!v16.2) with ha3 | ha3
   ·exact RegOk.of_eq (l2 := [(0, .p (.string a0)), (2, .box (oN 57)), (5, .ov false (oP 57 x9.1)), (9, .box (eRt v16.1)), (11, .box (eRt v18.1)), (25, .d false [.sl none ((v1.take (Int.toNat (w64 ((v1.length : Int) - 1)))).map eT)]), (26, .p (iV ((v1.take (Int.toNat (w64 ((v1.length : Int) - 1)))).length : Int))), (27, .p (iV x9.2)), (56, .p (.bool ((!v16.2) || (!v18.2))))]) (r_gq [(0, .p (.string a0)), (2, .box (oN 57)), (5, .ov false (oP 57 x9.1)), (9, .box (eRt v16.1)), (11, .box (eRt v18.1)), (25, .d false [.sl none ((v1.take (Int.toNat (w64 ((v1.length : Int) - 1)))).map eT)]), (26, .p (iV ((v1.take (Int.toNat (w64 ((v1.length : Int) - 1)))).length : Int))), (27, .p (iV x9.2)), (56, .p (.bool true))] [(3, gT), (4, gT), (5, bT)] (A3 ha3 ha3 ha3)) (by simp [ha3])
   exact RegOk.of_eq (l2 := [(0, .p (.string a0)), (2, .box (oN 57)), (5, .ov false (oP 57 x9.1)), (9, .box (eRt v16.1)), (11, .box (eRt v18.1)), (25, .d false [.sl none ((v1.take (Int.toNat (w64 ((v1.length : Int) - 1)))).map eT)]), (26, .p (iV ((v1.take (Int.toNat (w64 ((v1.length : Int) - 1)))).length : Int))), (27, .p (iV x9.2)), (56, .p (.bool ((!v16.2) || (!v18.2))))]) (r_gq [(0, .p (.string a0)), (2, .box (oN 57)), (5, .ov false (oP 57 x9.1)), (9, .box (eRt v16.1)), (11, .box (eRt v18.1)), (25, .d false [.sl none ((v1.take (Int.toNat (w64 ((v1.length : Int) - 1)))).map eT)]), (26, .p (iV ((v1.take (Int.toNat (w64 ((v1.length : Int) - 1)))).length : Int))), (27, .p (iV x9.2)), (56, .p (.bool (!v18.2)))] [(3, gF), (4, gF), (5, bF)] (A3 ha3 ha3 ha3)) (by simp [ha3])
  refine kc ((!v16.2) || (!v18.2)) (fun hc7_18 => ?_) (fun hc7_18 => ?_)
  ·replace h := yma hc7_18 h
   refine kG [(2, .box [.sl none []]), (3, .p (.bool false))] [] trivial ?_
   refine yva (q_r (b_r (q_r (lq_r ?_))))
   refine b_r (q_r ?_)
   have hyy := hy_x9 _ (oi h).symm
   subst hyy
   have h := hk_x9
   dsimp only [Sum.elim] at h
   obtain rfl := oi h
   exact er [(.ov true [.sl none []], 2), (.p (.bool false), 3)]
  replace h := yna hc7_18 h
  refine yja (q_n ?_)
  obtain ⟨u20, hu20, h⟩ := bs h
  refine yff (r_gq [(0, .p (.string a0)), (2, .box (oN 57)), (5, .ov false (oP 57 (x9.1 ++ [(v16.1, v18.1)]))), (25, .d false [.sl none ((v1.take (Int.toNat (w64 ((v1.length : Int) - 1)))).map eT)]), (26, .p (iV ((v1.take (Int.toNat (w64 ((v1.length : Int) - 1)))).length : Int))), (27, .p (iV x9.2))] [(5, {fix := some (63, .ov false (oP 57 (x9.1 ++ [(v16.1, v18.1)])))})] (A3 (show List.length ((x9.1.map ePt) : List (List C)) + List.length ((([(v16.1, v18.1)]).map ePt) : List (List C)) ≤ 1099511627776 from (by have hg := (yea hu20); simpa using hg)) (show ∀ row ∈ ((([(v16.1, v18.1)]).map ePt) : List (List C)), row.length = 4 from (ydg fun _ => rfl)) (show (SV.ov false [.sl (some 57) ((x9.1.map ePt) ++ (([(v16.1, v18.1)]).map ePt))] : SV) = .ov false (oP 57 (x9.1 ++ [(v16.1, v18.1)])) from (congrArg (fun z => SV.ov false [.sl (some 57) z]) (List.map_append ..).symm)))) ?_
  refine b_n (q_n (yff (r_gq [(0, .p (.string a0)), (2, .box (oN 57)), (5, .ov false (oP 57 (x9.1 ++ [(v16.1, v18.1)]))), (25, .d false [.sl none ((v1.take (Int.toNat (w64 ((v1.length : Int) - 1)))).map eT)]), (26, .p (iV ((v1.take (Int.toNat (w64 ((v1.length : Int) - 1)))).length : Int))), (27, .p (iV (w64 (x9.2 + 1))))] [] trivial) ?_))
  exact lqn ((x9.1 ++ [(v16.1, v18.1)]), (w64 (x9.2 + 1))) h
 replace h := yna hc5_10 h
 refine ykg (q_x (lq_x (b_x ?_)))
 have hyy := hy_x9 _ (oi h).symm
 subst hyy
 have h := hk_x9
 dsimp only [Sum.elim] at h
 refine q_n ?_
 exact jx x9.1 h
theorem yiq {a0 : (List Int)}  {r : Qr} (h : yef a0 = some r) : Meets Tryz.prog 16 [.d false [.sl none (a0.map (eU .u8))]] { vals := [.p (vRt r)] } := by
 refine mo Tryz.func16 [(0, .d false [.sl none (a0.map (eU .u8))])] ?_
 unfold yef at h
 refine kG [(0, .d false [.sl none (a0.map (eU .u8))]), (2, .box zR)] [] trivial ?_
 refine kG [(2, .box zR), (3, .addr 6 [(0, 0)]), (6, .box (eCu (a0, 0, 0)))] [] trivial ?_
 obtain ⟨v1, hv1, h⟩ := bs h
 refine kG [(2, .box (eRt v1.1))] [(1, (lNf [.p (vRt v1.1)] (.box (eCu v1.2))))] (A1 (ydl hv1)) ?_
 refine yva ?_
 obtain rfl := oi h
 exact er [(.p (vRt v1.1), 2)]
theorem yku {a0 : Qr}  {r : (Qr × Bool)} (h : yaj a0 = some r) : Meets Tryz.prog 17 [.v (vRt a0)] { vals := [.p (vRt r.1), .p (.bool r.2)] } := by
 refine mo Tryz.func17 [(0, .p (vRt a0))] ?_
 unfold yaj at h
 refine kG [(1, .box (eRt a0)), (2, .box zR)] [] trivial ?_
 refine yqb ?_
 obtain ⟨v1, hv1, h⟩ := bs h
 refine kG [(1, .box (eRt a0)), (2, .box zR), (6, .p (.bool (!v1)))] [(1, (cN [.p (.bool v1)]))] (A1 (ywo hv1)) ?_
 refine kc (!v1) (fun hc2_1 => ?_) (fun hc2_1 => ?_)
 ·replace h := yma hc2_1 h
  refine kG [(2, .box zR), (3, .p (.bool false))] [] trivial ?_
  refine yva (q_r ?_)
  obtain rfl := oi h
  exact er [(.p (.agg #[.int .i64 0, .int .i64 0]), 2), (.p (.bool false), 3)]
 replace h := yna hc2_1 h
 refine yja (q_n ?_)
 obtain ⟨v3, hv3, h⟩ := bs h
 obtain ⟨v4, hv4, h⟩ := bs h
 obtain ⟨v5, hv5, h⟩ := bs h
 refine yya (r_dq yca 4 [] [(2, .box (eRt v5.1)), (3, .p (.bool v5.2))] [(2, (cN [.p (iV v3)])), (3, (cN [.p (vRt v4)])), (4, (cN [.p (vRt v5.1), .p (.bool v5.2)]))] (A3 (ygk hv3) (yge hv4) (yfl hv5))) ?_
 refine yva ?_
 obtain rfl := oi h
 exact er [(.p (vRt v5.1), 2), (.p (.bool v5.2), 3)]
theorem ylu {a0 : Qr}  {r : (Qr × Bool)} (h : yzi a0 = some r) : Meets Tryz.prog 18 [.v (vRt a0)] { vals := [.p (vRt r.1), .p (.bool r.2)] } := by
 refine mo Tryz.func18 [(0, .p (vRt a0))] ?_
 unfold yzi at h
 refine kG [(1, .box (eRt a0)), (2, .box zR)] [] trivial ?_
 refine yqb ?_
 obtain ⟨v1, hv1, h⟩ := bs h
 refine kG [(1, .box (eRt a0)), (2, .box zR), (6, .p (.bool (!v1)))] [(1, (cN [.p (.bool v1)]))] (A1 (yzn hv1)) ?_
 refine kc (!v1) (fun hc2_1 => ?_) (fun hc2_1 => ?_)
 ·replace h := yma hc2_1 h
  refine kG [(2, .box zR), (3, .p (.bool false))] [] trivial ?_
  refine yva (q_r ?_)
  obtain rfl := oi h
  exact er [(.p (.agg #[.int .i64 0, .int .i64 0]), 2), (.p (.bool false), 3)]
 replace h := yna hc2_1 h
 refine yja (q_n ?_)
 obtain ⟨v3, hv3, h⟩ := bs h
 obtain ⟨v4, hv4, h⟩ := bs h
 refine yya (r_dq yca 4 [] [(2, .box (eRt v4)), (3, .p (.bool true))] [(2, (cN [.p (iV v3)])), (4, (cN [.p (vRt v4)]))] (A2 (ywh hv3) (yid hv4))) ?_
 refine yva ?_
 obtain rfl := oi h
 exact er [(.p (vRt v4), 2), (.p (.bool true), 3)]
theorem yha {a0 : (List Qp)} {a1 : (List Qp)}  {r : Bool} (h : yem a0 a1 = some r) : Meets Tryz.prog 19 [.d false (sP a0), .d false (sP a1)] { vals := [.p (.bool r)] } := by
 refine mo Tryz.func19 [(0, .d false (sP a0)), (1, .d false (sP a1))] ?_
 unfold yem at h
 refine kG [(0, .d false (sP a0)), (1, .d false (sP a1))] [] trivial ?_
 refine yqb (kG [(0, .d false (sP a0)), (1, .d false (sP a1)), (10, .p (.bool ((a0.length : Int) != (a1.length : Int))))] [(1, {n := some a0.length}), (3, {n := some a1.length})] (A2 (lnP a0) (lnP a1)) ?_)
 refine kc ((a0.length : Int) != (a1.length : Int)) (fun hc2_0 => ?_) (fun hc2_0 => ?_)
 ·replace h := yma hc2_0 h
  refine kG [(4, .p (.bool false))] [] trivial ?_
  refine yva (q_r ?_)
  obtain rfl := oi h
  exact er [(.p (.bool false), 4)]
 replace h := yna hc2_0 h
 refine yja (q_n (yhd (J := fun (x : Unit) => []) (K := fun x => ykr x = some r) (fun x2 h => ?_) ?_))
 ·unfold ykr at h
  refine kG [(4, .p (.bool true))] [] trivial ?_
  refine yva ?_
  obtain rfl := oi h
  exact er [(.p (.bool true), 4)]
 refine kG [(0, .d false (sP a0)), (1, .d false (sP a1)), (12, .p (iV (a0.length : Int))), (13, .p (iV 0))] [(1, {n := some a0.length})] (A1 (lnP a0)) ?_
 refine ywa ?_
 obtain ⟨y4, hl_x3, hk_x3⟩ := bs h
 clear h
 refine yuh (J := fun (x : Int) => [(0, .d false (sP a0)), (1, .d false (sP a1)), (12, .p (iV (a0.length : Int))), (13, .p (iV x))]) hl_x3 wkk (fun x3 o_x3 h hy_x3 => ?_)
 unfold ysl at h
 refine kG [(0, .d false (sP a0)), (1, .d false (sP a1)), (12, .p (iV (a0.length : Int))), (13, .p (iV x3)), (14, .p (.bool (decide (x3 < (a0.length : Int)))))] [] trivial ?_
 refine yqb (kc (decide (x3 < (a0.length : Int))) (fun hc5_4 => ?_) (fun hc5_4 => ?_))
 ·replace h := yma hc5_4 h
  refine yja (q_n (yqb (ywa (kG [(0, .d false (sP a0)), (1, .d false (sP a1)), (5, .p (iV x3)), (12, .p (iV (a0.length : Int))), (13, .p (iV x3))] [] trivial ?_))))
  obtain ⟨v6, hv6, h⟩ := bs h
  obtain ⟨v7, hv7, h⟩ := bs h
  refine yya (r_dq yca 8 [] [(0, .d false (sP a0)), (1, .d false (sP a1)), (12, .p (iV (a0.length : Int))), (13, .p (iV x3)), (24, .p (.bool (!(((v6.1.1 == v7.1.1) && (v6.1.2 == v7.1.2)) && ((v6.2.1 == v7.2.1) && (v6.2.2 == v7.2.2))))))] [(2, {row := some (ePt v6)}), (6, {row := some (ePt v7)}), (8, {pv := some (.bool (!(((v6.1.1 == v7.1.1) && (v6.1.2 == v7.1.2)) && ((v6.2.1 == v7.2.1) && (v6.2.2 == v7.2.2)))))})] (A5 (yba hv6).1 (yia ePt (yba hv6).2) (yba hv7).1 (yia ePt (yba hv7).2) (show PureAt Tryz.prog (.binOp .neq 57 (.tmp 19) (.tmp 23) 57) [vPt v6, vPt v7] (.bool (!(((v6.1.1 == v7.1.1) && (v6.1.2 == v7.1.2)) && ((v6.2.1 == v7.2.1) && (v6.2.2 == v7.2.2))))) from (yad1 (by kernel_rfl))))) ?_
  refine kc (!(((v6.1.1 == v7.1.1) && (v6.1.2 == v7.1.2)) && ((v6.2.1 == v7.2.1) && (v6.2.2 == v7.2.2)))) (fun hc6_7 => ?_) (fun hc6_7 => ?_)
  ·replace h := yma hc6_7 h
   refine kG [(4, .p (.bool false))] [] trivial ?_
   refine yva (b_r (q_r (lq_r ?_)))
   refine b_r (q_r ?_)
   have hyy := hy_x3 _ (oi h).symm
   subst hyy
   have h := hk_x3
   dsimp only [Sum.elim] at h
   obtain rfl := oi h
   exact er [(.p (.bool false), 4)]
  replace h := yna hc6_7 h
  refine yja (b_n (q_n (yff (r_gq [(0, .d false (sP a0)), (1, .d false (sP a1)), (12, .p (iV (a0.length : Int))), (13, .p (iV (w64 (x3 + 1))))] [] trivial) ?_)))
  exact lqn (w64 (x3 + 1)) h
 replace h := yna hc5_4 h
 refine ykg (q_x (lq_x (b_x ?_)))
 have hyy := hy_x3 _ (oi h).symm
 subst hyy
 have h := hk_x3
 dsimp only [Sum.elim] at h
 refine q_n ?_
 exact jx () h
theorem ycc {a0 : (List Qp)}  {r : Bool} (h : yqn a0 = some r) : Meets Tryz.prog 20 [.d true (sP a0)] { vals := [.p (.bool r)] } := by
 refine mo Tryz.func20 [(0, .d true (sP a0))] ?_
 unfold yqn at h
 refine kG [(1, .box (sP a0))] [] trivial ?_
 obtain ⟨v1, hv1, h⟩ := bs h
 refine kG [(2, .p (.bool v1))] [(0, bT), (1, (cN [.p (.bool v1)]))] (A2 (frE a0) (yac hv1)) ?_
 refine yva ?_
 obtain rfl := oi h
 exact er [(.p (.bool v1), 2)]
theorem ycp {a0 : Qr}  {r : Bool} (h : yqp a0 = some r) : Meets Tryz.prog 21 [.v (vRt a0)] { vals := [.p (.bool r)] } := by
 refine mo Tryz.func21 [(0, .p (vRt a0))] ?_
 unfold yqp at h
 refine kG [(1, .box (eRt a0))] [] trivial ?_
 obtain ⟨v1, hv1, h⟩ := bs h
 refine kG [(2, .p (.bool v1))] [(1, (cN [.p (.bool v1)]))] (A1 (ykb hv1)) ?_
 refine yva ?_
 obtain rfl := oi h
 exact er [(.p (.bool v1), 2)]
theorem ynh {a0 : (List Qr)} {a1 : (Qr → Qr → Option Int)} {F1 : FuncId} (hp1 : ∀ x0 x1 y, a1 x0 x1 = some y → Meets Tryz.prog F1 ([.v (vRt x0), .v (vRt x1)] ++ []) { vals := [.p (iV y)] }) {r : Qr} (h : yab a0 a1 = some r) : Meets Tryz.prog 106 [.d false [.sl none (a0.map eRt)], .v (.func (.func F1) #[] #[])] { vals := [.p (vRt r)] } := by
 refine mo Tryz.func106 [(0, .d false [.sl none (a0.map eRt)]), (1, .p (.func (.func F1) #[] #[]))] ?_
 unfold yab at h
 refine kG [(0, .d false [.sl none (a0.map eRt)]), (1, .p (.func (.func F1) #[] #[])), (4, .box zR)] [] trivial ?_
 refine yhd (J := fun (x : Unit) => [(0, .d false [.sl none (a0.map eRt)]), (1, .p (.func (.func F1) #[] #[])), (4, .box zR)]) (K := fun x => ydb a0 a1 x = some r) (fun x1 h => ?_) ?_
 ·unfold ydb at h
  obtain ⟨v2, hv2, h⟩ := bs h
  refine kG [(0, .d false [.sl none (a0.map eRt)]), (1, .p (.func (.func F1) #[] #[])), (4, .box zR), (5, .box (eRt v2))] [(1, {row := some (eRt v2)})] (A2 (yba hv2).1 (yia eRt (yba hv2).2)) ?_
  refine yhd (J := fun (x : Qr) => [(4, .box zR), (5, .box (eRt x))]) (K := fun x => ysb x = some r) (fun x3 h => ?_) ?_
  ·unfold ysb at h
   refine kG [(4, .box (eRt x3))] [] trivial ?_
   refine yva ?_
   obtain rfl := oi h
   exact er [(.p (vRt x3), 4)]
  refine kG [(0, .d false [.sl none (a0.map eRt)]), (1, .p (.func (.func F1) #[] #[])), (4, .box zR), (5, .box (eRt v2)), (6, .p (iV 1))] [] trivial ?_
  refine ywa ?_
  obtain ⟨y5, hl_x4, hk_x4⟩ := bs h
  clear h
  refine yuh (J := fun (x : (Int × Int × Int)) => [(0, .d false [.sl none (a0.map eRt)]), (1, .p (.func (.func F1) #[] #[])), (4, .box zR), (5, .box [rI x.1, rI x.2.1]), (6, .p (iV x.2.2))]) hl_x4 wkk (fun x4 o_x4 h hy_x4 => ?_)
  unfold yta at h
  refine yqb (kG [(0, .d false [.sl none (a0.map eRt)]), (1, .p (.func (.func F1) #[] #[])), (4, .box zR), (5, .box [rI x4.1, rI x4.2.1]), (6, .p (iV x4.2.2)), (17, .p (.bool (decide (x4.2.2 < (a0.length : Int)))))] [(2, {n := some a0.length})] (A1 (show (a0.map eRt).length = a0.length from (List.length_map ..))) ?_)
  refine kc (decide (x4.2.2 < (a0.length : Int))) (fun hc5_5 => ?_) (fun hc5_5 => ?_)
  ·replace h := yma hc5_5 h
   refine yja (q_n (yqb (ywa ?_)))
   obtain ⟨v7, hv7, h⟩ := bs h
   obtain ⟨v8, hv8, h⟩ := bs h
   refine yya (r_dq yca 6 [] [(0, .d false [.sl none (a0.map eRt)]), (1, .p (.func (.func F1) #[] #[])), (4, .box zR), (5, .box [rI x4.1, rI x4.2.1]), (6, .p (iV x4.2.2)), (27, .p (.bool (decide (v8 < 0))))] [(3, {row := some (eRt v7)}), (6, (cN [.p (iV v8)]))] (A3 (yba hv7).1 (yia eRt (yba hv7).2) (hp1 _ _ _ hv8))) ?_
   refine kc (decide (v8 < 0)) (fun hc6_8 => ?_) (fun hc6_8 => ?_)
   ·replace h := yma hc6_8 h
    refine yff (r_gq [(0, .d false [.sl none (a0.map eRt)]), (1, .p (.func (.func F1) #[] #[])), (4, .box zR), (5, .box (eRt v7)), (6, .p (iV x4.2.2))] [(2, {row := some (eRt v7)})] (A2 (yba hv7).1 (yia eRt (yba hv7).2))) ?_
    refine b_n (q_n (yff (r_gq [(0, .d false [.sl none (a0.map eRt)]), (1, .p (.func (.func F1) #[] #[])), (4, .box zR), (5, .box (eRt v7)), (6, .p (iV (w64 (x4.2.2 + 1))))] [] trivial) ?_))
    exact lqn (v7.1, v7.2, (w64 (x4.2.2 + 1))) h
   replace h := yna hc6_8 h
   refine yja (b_n (q_n (yff (r_gq [(0, .d false [.sl none (a0.map eRt)]), (1, .p (.func (.func F1) #[] #[])), (4, .box zR), (5, .box [rI x4.1, rI x4.2.1]), (6, .p (iV (w64 (x4.2.2 + 1))))] [] trivial) ?_)))
   exact lqn (x4.1, x4.2.1, (w64 (x4.2.2 + 1))) h
  replace h := yna hc5_5 h
  refine ykg (q_x (lq_x (b_x ?_)))
  have hyy := hy_x4 _ (oi h).symm
  subst hyy
  have h := hk_x4
  refine q_n ?_
  exact jx (x4.1, x4.2.1) h
 refine kG [(0, .d false [.sl none (a0.map eRt)]), (1, .p (.func (.func F1) #[] #[])), (4, .box zR), (9, .p (.bool (decide ((a0.length : Int) < 1))))] [(1, {n := some a0.length})] (A1 (show (a0.map eRt).length = a0.length from (List.length_map ..))) ?_
 refine kc (decide ((a0.length : Int) < 1)) (fun hc2_9 => ?_) (fun hc2_9 => ?_)
 ·replace h := yma hc2_9 h
  cases h
 replace h := yna hc2_9 h
 refine yja (q_n ?_)
 exact jx () h
theorem yoh {a0 : (List Qr)} {a1 : (Qr → Qr → Option Int)} {F1 : FuncId} (hp1 : ∀ x0 x1 y, a1 x0 x1 = some y → Meets Tryz.prog F1 ([.v (vRt x0), .v (vRt x1)] ++ []) { vals := [.p (iV y)] }) {r : Qr} (h : ybb a0 a1 = some r) : Meets Tryz.prog 108 [.d false [.sl none (a0.map eRt)], .v (.func (.func F1) #[] #[])] { vals := [.p (vRt r)] } := by
 refine mo Tryz.func108 [(0, .d false [.sl none (a0.map eRt)]), (1, .p (.func (.func F1) #[] #[]))] ?_
 unfold ybb at h
 refine kG [(0, .d false [.sl none (a0.map eRt)]), (1, .p (.func (.func F1) #[] #[])), (4, .box zR)] [] trivial ?_
 refine yhd (J := fun (x : Unit) => [(0, .d false [.sl none (a0.map eRt)]), (1, .p (.func (.func F1) #[] #[])), (4, .box zR)]) (K := fun x => yeb a0 a1 x = some r) (fun x1 h => ?_) ?_
 ·unfold yeb at h
  obtain ⟨v2, hv2, h⟩ := bs h
  refine kG [(0, .d false [.sl none (a0.map eRt)]), (1, .p (.func (.func F1) #[] #[])), (4, .box zR), (5, .box (eRt v2))] [(1, {row := some (eRt v2)})] (A2 (yba hv2).1 (yia eRt (yba hv2).2)) ?_
  refine yhd (J := fun (x : Qr) => [(4, .box zR), (5, .box (eRt x))]) (K := fun x => ytb x = some r) (fun x3 h => ?_) ?_
  ·unfold ytb at h
   refine kG [(4, .box (eRt x3))] [] trivial ?_
   refine yva ?_
   obtain rfl := oi h
   exact er [(.p (vRt x3), 4)]
  refine kG [(0, .d false [.sl none (a0.map eRt)]), (1, .p (.func (.func F1) #[] #[])), (4, .box zR), (5, .box (eRt v2)), (6, .p (iV 1))] [] trivial ?_
  refine ywa ?_
  obtain ⟨y5, hl_x4, hk_x4⟩ := bs h
  clear h
  refine yuh (J := fun (x : (Int × Int × Int)) => [(0, .d false [.sl none (a0.map eRt)]), (1, .p (.func (.func F1) #[] #[])), (4, .box zR), (5, .box [rI x.1, rI x.2.1]), (6, .p (iV x.2.2))]) hl_x4 wkk (fun x4 o_x4 h hy_x4 => ?_)
  unfold yua at h
  refine yqb (kG [(0, .d false [.sl none (a0.map eRt)]), (1, .p (.func (.func F1) #[] #[])), (4, .box zR), (5, .box [rI x4.1, rI x4.2.1]), (6, .p (iV x4.2.2)), (17, .p (.bool (decide (x4.2.2 < (a0.length : Int)))))] [(2, {n := some a0.length})] (A1 (show (a0.map eRt).length = a0.length from (List.length_map ..))) ?_)
  refine kc (decide (x4.2.2 < (a0.length : Int))) (fun hc5_5 => ?_) (fun hc5_5 => ?_)
  ·replace h := yma hc5_5 h
   refine yja (q_n (yqb (ywa ?_)))
   obtain ⟨v7, hv7, h⟩ := bs h
   obtain ⟨v8, hv8, h⟩ := bs h
   refine yya (r_dq yca 6 [] [(0, .d false [.sl none (a0.map eRt)]), (1, .p (.func (.func F1) #[] #[])), (4, .box zR), (5, .box [rI x4.1, rI x4.2.1]), (6, .p (iV x4.2.2)), (27, .p (.bool (decide (v8 > 0))))] [(3, {row := some (eRt v7)}), (6, (cN [.p (iV v8)]))] (A3 (yba hv7).1 (yia eRt (yba hv7).2) (hp1 _ _ _ hv8))) ?_
   refine kc (decide (v8 > 0)) (fun hc6_8 => ?_) (fun hc6_8 => ?_)
   ·replace h := yma hc6_8 h
    refine yff (r_gq [(0, .d false [.sl none (a0.map eRt)]), (1, .p (.func (.func F1) #[] #[])), (4, .box zR), (5, .box (eRt v7)), (6, .p (iV x4.2.2))] [(2, {row := some (eRt v7)})] (A2 (yba hv7).1 (yia eRt (yba hv7).2))) ?_
    refine b_n (q_n (yff (r_gq [(0, .d false [.sl none (a0.map eRt)]), (1, .p (.func (.func F1) #[] #[])), (4, .box zR), (5, .box (eRt v7)), (6, .p (iV (w64 (x4.2.2 + 1))))] [] trivial) ?_))
    exact lqn (v7.1, v7.2, (w64 (x4.2.2 + 1))) h
   replace h := yna hc6_8 h
   refine yja (b_n (q_n (yff (r_gq [(0, .d false [.sl none (a0.map eRt)]), (1, .p (.func (.func F1) #[] #[])), (4, .box zR), (5, .box [rI x4.1, rI x4.2.1]), (6, .p (iV (w64 (x4.2.2 + 1))))] [] trivial) ?_)))
   exact lqn (x4.1, x4.2.1, (w64 (x4.2.2 + 1))) h
  replace h := yna hc5_5 h
  refine ykg (q_x (lq_x (b_x ?_)))
  have hyy := hy_x4 _ (oi h).symm
  subst hyy
  have h := hk_x4
  refine q_n ?_
  exact jx (x4.1, x4.2.1) h
 refine kG [(0, .d false [.sl none (a0.map eRt)]), (1, .p (.func (.func F1) #[] #[])), (4, .box zR), (9, .p (.bool (decide ((a0.length : Int) < 1))))] [(1, {n := some a0.length})] (A1 (show (a0.map eRt).length = a0.length from (List.length_map ..))) ?_
 refine kc (decide ((a0.length : Int) < 1)) (fun hc2_9 => ?_) (fun hc2_9 => ?_)
 ·replace h := yma hc2_9 h
  cases h
 replace h := yna hc2_9 h
 refine yja (q_n ?_)
 exact jx () h
theorem ynt {a0 : Bool} {a1 : (List Qp)}  {r : (Qr × Qr × Bool)} (h : ybi a0 a1 = some r) : MeetsB Tryz.prog 62 (.box [.raw (.bool a0)]) [.d false (sP a1)] [.p (vRt r.1), .p (vRt r.2.1)] (.box [.raw (.bool r.2.2)]) := by
 refine mob Tryz.func62 [(0, .box [.raw (.bool a0)]), (1, .d false (sP a1))] ?_
 unfold ybi at h
 refine kG [(0, .box [.raw (.bool a0)]), (1, .d false (sP a1)), (4, .box zR), (5, .box zR)] [] trivial ?_
 refine kG [(0, .box [.raw (.bool a0)]), (1, .d false (sP a1)), (4, .box zR), (5, .box zR), (6, .ov false (oN 27))] [] trivial ?_
 refine yhd (J := fun (x : (Bool × (List Qr))) => [(0, .box [.raw (.bool x.1)]), (4, .box zR), (5, .box zR), (6, .ov false [.sl (some 27) (x.2.map eRt)])]) (K := fun x => ygh x = some r) (fun x1 h => ?_) ?_
 ·unfold ygh at h
  obtain ⟨v2, hv2, h⟩ := bs h
  obtain ⟨v3, hv3, h⟩ := bs h
  refine kG [(0, .box [.raw (.bool x1.1)]), (4, .box (eRt v2)), (5, .box (eRt v3))] [(1, (cS [.d false [.sl none (x1.2.map eRt)], .v (.func (.func 107) #[] #[])] [.p (vRt v2)])), (3, (cS [.d false [.sl none (x1.2.map eRt)], .v (.func (.func 107) #[] #[])] [.p (vRt v3)]))] (A4 (show ([.d false [.sl none (eraL (x1.2.map eRt))], .v (.func (.func 107) #[] #[])] : List Arg) = [.d false [.sl none (x1.2.map eRt)], .v (.func (.func 107) #[] #[])] from (by simp only [yza (h := eRt) (ysm er_I er_I)])) (show Meets Tryz.prog 106 ([.d false [.sl none (x1.2.map eRt)], .v (.func (.func 107) #[] #[])] ++ []) { vals := [.p (vRt v2)] } from (ynh (fun x0 x1 y hy => yim hy) hv2)) (show ([.d false [.sl none (eraL (x1.2.map eRt))], .v (.func (.func 107) #[] #[])] : List Arg) = [.d false [.sl none (x1.2.map eRt)], .v (.func (.func 107) #[] #[])] from (by simp only [yza (h := eRt) (ysm er_I er_I)])) (show Meets Tryz.prog 108 ([.d false [.sl none (x1.2.map eRt)], .v (.func (.func 107) #[] #[])] ++ []) { vals := [.p (vRt v3)] } from (yoh (fun x0 x1 y hy => yim hy) hv3))) ?_
  refine yva ?_
  obtain rfl := oi h
  exact ebr [(.p (vRt v2), 4), (.p (vRt v3), 5)]
 refine kG [(0, .box [.raw (.bool a0)]), (4, .box zR), (5, .box zR), (6, .ov false (oN 27)), (9, .d false (sP a1)), (10, .p (iV (a1.length : Int))), (11, .p (iV 0))] [(1, {n := some a1.length})] (A1 (lnP a1)) ?_
 refine ywa ?_
 obtain ⟨y5, hl_x4, hk_x4⟩ := bs h
 clear h
 refine yuh (J := fun (x : (Bool × (List Qr) × Int)) => [(0, .box [.raw (.bool x.1)]), (4, .box zR), (5, .box zR), (6, .ov false [.sl (some 27) (x.2.1.map eRt)]), (9, .d false (sP a1)), (10, .p (iV (a1.length : Int))), (11, .p (iV x.2.2))]) hl_x4 wkk (fun x4 o_x4 h hy_x4 => ?_)
 unfold yqd at h
 refine kG [(0, .box [.raw (.bool x4.1)]), (4, .box zR), (5, .box zR), (6, .ov false [.sl (some 27) (x4.2.1.map eRt)]), (9, .d false (sP a1)), (10, .p (iV (a1.length : Int))), (11, .p (iV x4.2.2)), (12, .p (.bool (decide (x4.2.2 < (a1.length : Int)))))] [] trivial ?_
 refine yqb (kc (decide (x4.2.2 < (a1.length : Int))) (fun hc5_5 => ?_) (fun hc5_5 => ?_))
 ·replace h := yma hc5_5 h
  refine yja (q_n (yqb (ywa ?_)))
  obtain ⟨v7, hv7, h⟩ := bs h
  refine kG [(0, .box [.raw (.bool x4.1)]), (4, .box zR), (5, .box zR), (6, .ov false [.sl (some 27) (x4.2.1.map eRt)]), (8, .box (ePt v7)), (9, .d false (sP a1)), (10, .p (iV (a1.length : Int))), (11, .p (iV x4.2.2))] [(0, {row := some (ePt v7)})] (A2 (yba hv7).1 (yia ePt (yba hv7).2)) ?_
  obtain ⟨v8, hv8, h⟩ := bs h
  obtain ⟨u9, hu9, h⟩ := bs h
  refine yff (r_gq [(0, .box [.raw (.bool v8.2)]), (4, .box zR), (5, .box zR), (6, .ov false [.sl (some 27) ((x4.2.1 ++ [v8.1]).map eRt)]), (9, .d false (sP a1)), (10, .p (iV (a1.length : Int))), (11, .p (iV x4.2.2))] [(6, (lNt [.p (vRt v8.1)] (.box [.raw (.bool v8.2)]))), (8, {fix := some (23, .ov false [.sl (some 27) ((x4.2.1 ++ [v8.1]).map eRt)])})] (A4 (ytc hv8) (show List.length ((x4.2.1.map eRt) : List (List C)) + List.length ((([v8.1]).map eRt) : List (List C)) ≤ 1099511627776 from (by have hg := (yea hu9); simpa using hg)) (show ∀ row ∈ ((([v8.1]).map eRt) : List (List C)), row.length = 2 from (ydg fun _ => rfl)) (show (SV.ov false [.sl (some 27) ((x4.2.1.map eRt) ++ (([v8.1]).map eRt))] : SV) = .ov false [.sl (some 27) ((x4.2.1 ++ [v8.1]).map eRt)] from (congrArg (fun z => SV.ov false [.sl (some 27) z]) (List.map_append ..).symm)))) ?_
  refine b_n (q_n (yff (r_gq [(0, .box [.raw (.bool v8.2)]), (4, .box zR), (5, .box zR), (6, .ov false [.sl (some 27) ((x4.2.1 ++ [v8.1]).map eRt)]), (9, .d false (sP a1)), (10, .p (iV (a1.length : Int))), (11, .p (iV (w64 (x4.2.2 + 1))))] [] trivial) ?_))
  exact lqn (v8.2, (x4.2.1 ++ [v8.1]), (w64 (x4.2.2 + 1))) h
 replace h := yna hc5_5 h
 refine ykg (q_x (lq_x (b_x ?_)))
 have hyy := hy_x4 _ (oi h).symm
 subst hyy
 have h := hk_x4
 refine q_n ?_
 exact jx (x4.1, x4.2.1) h
theorem yjq {a0 : (List Qp)}  {r : (Qr × Qr × Bool)} (h : yyb a0 = some r) : Meets Tryz.prog 22 [.d true (sP a0)] { vals := [.p (vRt r.1), .p (vRt r.2.1), .p (.bool r.2.2)] } := by
 refine mo Tryz.func22 [(0, .d true (sP a0))] ?_
 unfold yyb at h
 refine kG [(1, .box (sP a0)), (2, .box zR), (3, .box zR)] [] trivial ?_
 refine yqb ?_
 obtain ⟨v1, hv1, h⟩ := bs h
 refine kG [(1, .box (sP a0)), (2, .box zR), (3, .box zR), (10, .p (.bool (!v1)))] [(0, bT), (1, (cN [.p (.bool v1)]))] (A2 (frE a0) (yac hv1)) ?_
 refine kc (!v1) (fun hc2_1 => ?_) (fun hc2_1 => ?_)
 ·replace h := yma hc2_1 h
  refine kG [(2, .box zR), (3, .box zR), (4, .p (.bool false))] [] trivial ?_
  refine yva (q_r ?_)
  obtain rfl := oi h
  exact er [(.p (.agg #[.int .i64 0, .int .i64 0]), 2), (.p (.agg #[.int .i64 0, .int .i64 0]), 3), (.p (.bool false), 4)]
 replace h := yna hc2_1 h
 refine yja (q_n (kG [(1, .box (sP a0)), (2, .box zR), (3, .box zR), (5, .box [.raw (.bool false)])] [] trivial ?_))
 obtain ⟨v3, hv3, h⟩ := bs h
 refine kG [(2, .box zR), (3, .box zR), (6, .box (eRt v3.1)), (7, .box (eRt v3.2.1))] [(1, bT), (2, (lNt [.p (vRt v3.1), .p (vRt v3.2.1)] (.box [.raw (.bool v3.2.2)])))] (A2 (frE a0) (ynt hv3)) ?_
 refine yya (r_dq yca 3 [(2, 2)] [(2, .box (eRt v3.1)), (3, .box (eRt v3.2.1)), (4, .p (.bool true))] [] trivial) ?_
 refine yva ?_
 obtain rfl := oi h
 exact er [(.p (vRt v3.1), 2), (.p (vRt v3.2.1), 3), (.p (.bool true), 4)]
theorem ytx {a0 : Qr} {a1 : Qr}  {r : Qr} (h : ymn a0 a1 = some r) : Meets Tryz.prog 63 [.v (vRt a0), .v (vRt a1)] { vals := [.p (vRt r)] } := by
 refine mo Tryz.func63 [(0, .p (vRt a0)), (1, .p (vRt a1))] ?_
 unfold ymn at h
 refine kG [(2, .box (eRt a0)), (3, .box (eRt a1)), (4, .box zR)] [] trivial ?_
 refine yqb ?_
 obtain ⟨v1, hv1, h⟩ := bs h
 refine kG [(2, .box (eRt a0)), (3, .box (eRt a1)), (4, .box zR), (8, .p (.bool (decide (v1 < 0))))] [(2, (cN [.p (iV v1)]))] (A1 (yhb hv1)) ?_
 refine kc (decide (v1 < 0)) (fun hc2_1 => ?_) (fun hc2_1 => ?_)
 ·replace h := yma hc2_1 h
  refine kG [(4, .box (eRt a0))] [] trivial ?_
  refine yva (q_r ?_)
  obtain rfl := oi h
  exact er [(.p (vRt a0), 4)]
 replace h := yna hc2_1 h
 refine yja (q_n (kG [(4, .box (eRt a1))] [] trivial ?_))
 refine yva ?_
 obtain rfl := oi h
 exact er [(.p (vRt a1), 4)]
theorem ymu {a0 : Qr} {a1 : Qr}  {r : Qr} (h : ybj a0 a1 = some r) : Meets Tryz.prog 64 [.v (vRt a0), .v (vRt a1)] { vals := [.p (vRt r)] } := by
 refine mo Tryz.func64 [(0, .p (vRt a0)), (1, .p (vRt a1))] ?_
 unfold ybj at h
 refine kG [(2, .box (eRt a0)), (3, .box (eRt a1)), (4, .box zR)] [] trivial ?_
 refine yqb ?_
 obtain ⟨v1, hv1, h⟩ := bs h
 refine kG [(2, .box (eRt a0)), (3, .box (eRt a1)), (4, .box zR), (8, .p (.bool (decide (v1 < 0))))] [(2, (cN [.p (iV v1)]))] (A1 (yhb hv1)) ?_
 refine kc (decide (v1 < 0)) (fun hc2_1 => ?_) (fun hc2_1 => ?_)
 ·replace h := yma hc2_1 h
  refine kG [(4, .box (eRt a1))] [] trivial ?_
  refine yva (q_r ?_)
  obtain rfl := oi h
  exact er [(.p (vRt a1), 4)]
 replace h := yna hc2_1 h
 refine yja (q_n (kG [(4, .box (eRt a0))] [] trivial ?_))
 refine yva ?_
 obtain rfl := oi h
 exact er [(.p (vRt a0), 4)]
theorem ykq {a0 : (List Qp)}  {r : (Qr × Qr × Bool)} (h : yrd a0 = some r) : Meets Tryz.prog 23 [.d true (sP a0)] { vals := [.p (vRt r.1), .p (vRt r.2.1), .p (.bool r.2.2)] } := by
 refine mo Tryz.func23 [(0, .d true (sP a0))] ?_
 unfold yrd at h
 refine kG [(1, .box (sP a0)), (2, .box zR), (3, .box zR)] [] trivial ?_
 refine yqb ?_
 obtain ⟨v1, hv1, h⟩ := bs h
 refine kG [(1, .box (sP a0)), (2, .box zR), (3, .box zR), (14, .p (.bool (!v1)))] [(0, bT), (1, (cN [.p (.bool v1)]))] (A2 (frE a0) (yrc hv1)) ?_
 refine kc (!v1) (fun hc2_1 => ?_) (fun hc2_1 => ?_)
 ·replace h := yma hc2_1 h
  refine kG [(2, .box zR), (3, .box zR), (4, .p (.bool false))] [] trivial ?_
  refine yva (q_r ?_)
  obtain rfl := oi h
  exact er [(.p (.agg #[.int .i64 0, .int .i64 0]), 2), (.p (.agg #[.int .i64 0, .int .i64 0]), 3), (.p (.bool false), 4)]
 replace h := yna hc2_1 h
 refine yja (q_n ?_)
 obtain ⟨v3, hv3, h⟩ := bs h
 obtain ⟨v4, hv4, h⟩ := bs h
 refine yya (r_dq yca 16 [(15, 5)] [(1, .box (sP a0)), (2, .box zR), (3, .box zR), (5, .box (eRt v4.1))] [(1, bT), (2, {row := some (ePt v3)}), (6, bT), (7, {row := some (ePt v3)}), (10, (cN [.p (vRt v4.1), .p (.bool v4.2)]))] (B6 (frE a0) (yba hv3).1 (yia ePt (yba hv3).2) (frE a0) (yba hv3).1 (yia ePt (yba hv3).2) (A1 (ymg hv4)))) ?_
 refine kG [(1, .box (sP a0)), (2, .box zR), (3, .box zR), (5, .box (eRt v4.1)), (7, .box (eRt v4.1))] [] trivial ?_
 refine yhd (J := fun (x : (Int × Int × Int × Int)) => [(2, .box zR), (3, .box zR), (5, .box [rI x.1, rI x.2.1]), (7, .box (eRt x.2.2))]) (K := fun x => yrh x = some r) (fun x5 h => ?_) ?_
 ·unfold yrh at h
  refine yya (r_dq yca 3 [(2, 2)] [(2, .box [rI x5.1, rI x5.2.1]), (3, .box (eRt x5.2.2)), (4, .p (.bool true))] [] trivial) ?_
  refine yva ?_
  obtain rfl := oi h
  exact er [(.p (.agg #[.int .i64 x5.1, .int .i64 x5.2.1]), 2), (.p (vRt x5.2.2), 3), (.p (.bool true), 4)]
 refine kG [(2, .box zR), (3, .box zR), (5, .box (eRt v4.1)), (7, .box (eRt v4.1)), (33, .d false (sP a0)), (34, .p (iV (a0.length : Int))), (35, .p (iV 0))] [(1, bT), (2, {n := some a0.length})] (A2 (frE a0) (lnP a0)) ?_
 refine ywa ?_
 obtain ⟨y7, hl_x6, hk_x6⟩ := bs h
 clear h
 refine yuh (J := fun (x : (Int × Int × Int × Int × Int)) => [(2, .box zR), (3, .box zR), (5, .box [rI x.1, rI x.2.1]), (7, .box [rI x.2.2.1, rI x.2.2.2.1]), (33, .d false (sP a0)), (34, .p (iV (a0.length : Int))), (35, .p (iV x.2.2.2.2))]) hl_x6 wkk (fun x6 o_x6 h hy_x6 => ?_)
 unfold yec at h
 refine kG [(2, .box zR), (3, .box zR), (5, .box [rI x6.1, rI x6.2.1]), (7, .box [rI x6.2.2.1, rI x6.2.2.2.1]), (33, .d false (sP a0)), (34, .p (iV (a0.length : Int))), (35, .p (iV x6.2.2.2.2)), (36, .p (.bool (decide (x6.2.2.2.2 < (a0.length : Int)))))] [] trivial ?_
 refine yqb (kc (decide (x6.2.2.2.2 < (a0.length : Int))) (fun hc5_7 => ?_) (fun hc5_7 => ?_))
 ·replace h := yma hc5_7 h
  refine yja (q_n (yqb (ywa ?_)))
  obtain ⟨v9, hv9, h⟩ := bs h
  refine kG [(2, .box zR), (3, .box zR), (5, .box [rI x6.1, rI x6.2.1]), (7, .box [rI x6.2.2.1, rI x6.2.2.2.1]), (9, .box (ePt v9)), (33, .d false (sP a0)), (34, .p (iV (a0.length : Int))), (35, .p (iV x6.2.2.2.2))] [(0, {row := some (ePt v9)})] (A2 (yba hv9).1 (yia ePt (yba hv9).2)) ?_
  obtain ⟨v10, hv10, h⟩ := bs h
  refine kG [(2, .box zR), (3, .box zR), (5, .box [rI x6.1, rI x6.2.1]), (7, .box [rI x6.2.2.1, rI x6.2.2.2.1]), (10, .box (eRt v10.1)), (33, .d false (sP a0)), (34, .p (iV (a0.length : Int))), (35, .p (iV x6.2.2.2.2))] [(4, (cN [.p (vRt v10.1), .p (.bool v10.2)]))] (A1 (ymg hv10)) ?_
  obtain ⟨v11, hv11, h⟩ := bs h
  refine kG [(2, .box zR), (3, .box zR), (5, .box (eRt v11)), (7, .box [rI x6.2.2.1, rI x6.2.2.2.1]), (10, .box (eRt v10.1)), (33, .d false (sP a0)), (34, .p (iV (a0.length : Int))), (35, .p (iV x6.2.2.2.2))] [(2, (cN [.p (vRt v11)]))] (A1 (ytx hv11)) ?_
  obtain ⟨v12, hv12, h⟩ := bs h
  refine yff (r_gq [(2, .box zR), (3, .box zR), (5, .box (eRt v11)), (7, .box (eRt v12)), (33, .d false (sP a0)), (34, .p (iV (a0.length : Int))), (35, .p (iV x6.2.2.2.2))] [(2, (cN [.p (vRt v12)]))] (A1 (ymu hv12))) ?_
  refine b_n (q_n (yff (r_gq [(2, .box zR), (3, .box zR), (5, .box (eRt v11)), (7, .box (eRt v12)), (33, .d false (sP a0)), (34, .p (iV (a0.length : Int))), (35, .p (iV (w64 (x6.2.2.2.2 + 1))))] [] trivial) ?_))
  exact lqn (v11.1, v11.2, v12.1, v12.2, (w64 (x6.2.2.2.2 + 1))) h
 replace h := yna hc5_7 h
 refine ykg (q_x (lq_x (b_x ?_)))
 have hyy := hy_x6 _ (oi h).symm
 subst hyy
 have h := hk_x6
 refine q_n ?_
 exact jx (x6.1, x6.2.1, x6.2.2.1, x6.2.2.2.1) h
theorem yee1 {a0 : Qr} {a1 : Qr}  {r : Int} (h : yew a0 a1 = some r) : Meets Tryz.prog 24 [.v (vRt a0), .v (vRt a1)] { vals := [.p (iV r)] } := by
 refine mo Tryz.func24 [(0, .p (vRt a0)), (1, .p (vRt a1))] ?_
 unfold yew at h
 refine kG [(2, .box (eRt a0)), (3, .box (eRt a1))] [] trivial ?_
 refine kG [(5, .p (iV (w64 ((w64 (a0.1 * a1.2)) - (w64 (a1.1 * a0.2))))))] [] trivial ?_
 refine yqb (ywa (kG [(5, .p (iV (w64 ((w64 (a0.1 * a1.2)) - (w64 (a1.1 * a0.2)))))), (17, .p (.bool (decide ((w64 ((w64 (a0.1 * a1.2)) - (w64 (a1.1 * a0.2)))) < 0))))] [] trivial ?_))
 refine kc (decide ((w64 ((w64 (a0.1 * a1.2)) - (w64 (a1.1 * a0.2)))) < 0)) (fun hc3_0 => ?_) (fun hc3_0 => ?_)
 ·replace h := yma hc3_0 h
  refine kG [(4, .p (iV (-1)))] [] trivial ?_
  refine yva (b_r (q_r ?_))
  obtain rfl := oi h
  exact er [(.p (iV (-1)), 4)]
 replace h := yna hc3_0 h
 refine kG [(20, .p (.bool (decide ((w64 ((w64 (a0.1 * a1.2)) - (w64 (a1.1 * a0.2)))) > 0))))] [] trivial ?_
 refine kc (decide ((w64 ((w64 (a0.1 * a1.2)) - (w64 (a1.1 * a0.2)))) > 0)) (fun hc3_1 => ?_) (fun hc3_1 => ?_)
 ·replace h := yma hc3_1 h
  refine kG [(4, .p (iV 1))] [] trivial ?_
  refine yva (b_r (q_r ?_))
  obtain rfl := oi h
  exact er [(.p (iV 1), 4)]
 replace h := yna hc3_1 h
 refine yja (b_n (q_n (kG [(4, .p (iV 0))] [] trivial ?_)))
 refine yva ?_
 obtain rfl := oi h
 exact er [(.p (iV 0), 4)]
theorem yfn {a0 : (List Qp)}  {r : ((List Qp) × Bool)} (h : ycg a0 = some r) : Meets Tryz.prog 25 [.d true (sP a0)] { vals := [.ov false (oP 86 r.1), .p (.bool r.2)] } := by
 refine mo Tryz.func25 [(0, .d true (sP a0))] ?_
 unfold ycg at h
 refine kG [(1, .box (sP a0))] [] trivial ?_
 refine yqb ?_
 obtain ⟨v1, hv1, h⟩ := bs h
 refine kG [(1, .box (sP a0)), (11, .p (.bool (!v1)))] [(0, bT), (1, (cN [.p (.bool v1)]))] (A2 (frE a0) (yac hv1)) ?_
 refine kc (!v1) (fun hc2_1 => ?_) (fun hc2_1 => ?_)
 ·replace h := yma hc2_1 h
  refine kG [(2, .ov false (oN 86)), (3, .p (.bool false))] [] trivial ?_
  refine yva (q_r ?_)
  obtain rfl := oi h
  exact er [(.ov false (oN 86), 2), (.p (.bool false), 3)]
 replace h := yna hc2_1 h
 refine yja (q_n (kG [(1, .box (sP a0)), (4, .ov false (oN 86))] [] trivial ?_))
 refine yhd (J := fun (x : (List Qp)) => [(4, .ov false (oP 86 x))]) (K := fun x => ykh x = some r) (fun x3 h => ?_) ?_
 ·unfold ykh at h
  refine kG [(2, .ov false (oP 86 x3)), (3, .p (.bool true))] [] trivial ?_
  refine yva ?_
  obtain rfl := oi h
  exact er [(.ov false (oP 86 x3), 2), (.p (.bool true), 3)]
 refine kG [(1, .box (sP a0)), (4, .ov false (oN 86)), (5, .p (iV 1))] [] trivial ?_
 refine ywa ?_
 obtain ⟨y5, hl_x4, hk_x4⟩ := bs h
 clear h
 refine yuh (J := fun (x : ((List Qp) × Int)) => [(1, .box (sP a0)), (4, .ov false (oP 86 x.1)), (5, .p (iV x.2))]) hl_x4 wkk (fun x4 o_x4 h hy_x4 => ?_)
 unfold yxa at h
 refine yqb (kG [(1, .box (sP a0)), (4, .ov false (oP 86 x4.1)), (5, .p (iV x4.2)), (16, .p (.bool (decide (x4.2 < (a0.length : Int)))))] [(2, bT), (3, {n := some a0.length})] (A2 (frE a0) (lnP a0)) ?_)
 refine kc (decide (x4.2 < (a0.length : Int))) (fun hc5_5 => ?_) (fun hc5_5 => ?_)
 ·replace h := yma hc5_5 h
  refine yja (q_n (yqb (ywa ?_)))
  obtain ⟨v7, hv7, h⟩ := bs h
  obtain ⟨v8, hv8, h⟩ := bs h
  refine yya (r_dq yca 14 [(13, 6)] [(1, .box (sP a0)), (4, .ov false (oP 86 x4.1)), (5, .p (iV x4.2)), (6, .box (ePt v7)), (7, .box (ePt v8))] [(1, bT), (4, {row := some (ePt v7)}), (7, bT), (9, {row := some (ePt v8)})] (A6 (frE a0) (yba hv7).1 (yia ePt (yba hv7).2) (frE a0) (yba hv8).1 (yia ePt (yba hv8).2))) ?_
  refine yqb (kG [(1, .box (sP a0)), (4, .ov false (oP 86 x4.1)), (5, .p (iV x4.2)), (6, .box (ePt v7)), (7, .box (ePt v8)), (34, .p (.bool (nR v7.2 v8.2)))] [(4, {pv := some (.bool (nR v7.2 v8.2))})] (A1 (show PureAt Tryz.prog (.binOp .neq 27 (.tmp 31) (.tmp 33) 27) [vRt v7.2, vRt v8.2] (.bool (nR v7.2 v8.2)) from (ygi (by kernel_rfl)))) ?_)
  refine kc (nR v7.2 v8.2) (fun hc7_8 => ?_) (fun hc7_8 => ?_)
  ·replace h := yma hc7_8 h
   refine ykg (q_x (b_x (q_n (yff (r_gq [(1, .box (sP a0)), (4, .ov false (oP 86 x4.1)), (5, .p (iV (w64 (x4.2 + 1))))] [] trivial) ?_))))
   exact lqn (x4.1, (w64 (x4.2 + 1))) h
  replace h := yna hc7_8 h
  refine yja (q_n (kG [(1, .box (sP a0)), (4, .ov false (oP 86 x4.1)), (5, .p (iV x4.2)), (6, .box (ePt v7)), (7, .box (ePt v8)), (8, .p (iV (w64 ((x4.1.length : Int) - 1))))] [(1, {n := some x4.1.length})] (A1 (lnP x4.1)) ?_))
  obtain ⟨w11, hw11, h⟩ := bs h
  refine yya (l1 := [(1, .box (sP a0)), (4, .ov false (oP 86 x4.1)), (5, .p (iV x4.2)), (6, .box (ePt v7)), (7, .box (ePt v8)), (8, .p (iV (w64 ((x4.1.length : Int) - 1)))), (49, .p (.bool w11))]) ?_ ?_
  ·clear h
   rcases ft (decide ((w64 ((x4.1.length : Int) - 1)) ≥ 0)) with ha3 | ha3
   ·obtain ⟨v10, hv10, hw11⟩ := bs (yma ha3 hw11)
    have hw11 := oi hw11
    subst hw11
    exact (r_dq yca 10 [] [(1, .box (sP a0)), (4, .ov false (oP 86 x4.1)), (5, .p (iV x4.2)), (6, .box (ePt v7)), (7, .box (ePt v8)), (8, .p (iV (w64 ((x4.1.length : Int) - 1)))), (49, .p (.bool ((v10.2.1 == v7.1.1) && (v10.2.2 == v7.1.2))))] [(3, gT), (4, gT), (5, {g := some true, row := some (ePt v10)}), (6, gT), (7, {g := some true, row := some (eRt v10.2)}), (8, gT), (9, gT), (10, {g := some true, pv := some (.bool ((v10.2.1 == v7.1.1) && (v10.2.2 == v7.1.2)))}), (11, bT)] (B6 ha3 ha3 ha3 (yba hv10).1 (yia ePt (yba hv10).2) ha3 (B6 ha3 (show getRow [(oP 86 x4.1)] [(0, 0), ((Int.toNat (w64 ((x4.1.length : Int) - 1))), 2)] = some (eRt v10.2) from ((gr0 rfl).trans (gre (yia ePt (yba hv10).2)))) ha3 ha3 ha3 (show PureAt Tryz.prog (.binOp .eql 27 (.tmp 45) (.tmp 47) 27) [vRt v10.2, vRt v7.1] (.bool ((v10.2.1 == v7.1.1) && (v10.2.2 == v7.1.2))) from (ygg (by kernel_rfl))) (A1 ha3))))
   replace hw11 := yna ha3 hw11
   have hw11 := oi hw11
   subst hw11
   exact (r_dq yca 10 [] [(1, .box (sP a0)), (4, .ov false (oP 86 x4.1)), (5, .p (iV x4.2)), (6, .box (ePt v7)), (7, .box (ePt v8)), (8, .p (iV (w64 ((x4.1.length : Int) - 1)))), (49, .p (.bool false))] [(3, gF), (4, gF), (5, gF), (6, gF), (7, gF), (8, gF), (9, gF), (10, gF), (11, bF)] (B6 ha3 ha3 ha3 ha3 ha3 ha3 (A3 ha3 ha3 ha3)))
  refine kc w11 (fun hc6_11 => ?_) (fun hc6_11 => ?_)
  ·obtain ⟨v13, hv13, h⟩ := bs (yma hc6_11 h)
   refine yff (r_gq [(1, .box (sP a0)), (4, .ov false [.sl (some 86) ((x4.1.set (Int.toNat (w64 ((x4.1.length : Int) - 1))) (v13.1, v8.1)).map ePt)]), (5, .p (iV x4.2))] [(4, {row := some (ePt v13)}), (6, {row := some (eRt v13.2), fix := some (4, .ov false [.sl (some 86) ((x4.1.set (Int.toNat (w64 ((x4.1.length : Int) - 1))) (v13.1, v8.1)).map ePt)])})] (A4 (yba hv13).1 (yia ePt (yba hv13).2) (show getRow [(oP 86 x4.1)] [(0, 0), ((Int.toNat (w64 ((x4.1.length : Int) - 1))), 2)] = some (eRt v13.2) from ((gr0 rfl).trans (gre (yia ePt (yba hv13).2)))) (show (SV.ov false [.sl (some 86) (setL (x4.1.map ePt) [((Int.toNat (w64 ((x4.1.length : Int) - 1))), 2)] (eRt v8.1))] : SV) = .ov false [.sl (some 86) ((x4.1.set (Int.toNat (w64 ((x4.1.length : Int) - 1))) (v13.1, v8.1)).map ePt)] from (congrArg (fun z => SV.ov false [.sl (some 86) z]) (set1 (f := ePt) (y := (v13.1, v8.1)) (yba hv13).2 rfl))))) ?_
   refine b_n (q_n (yff (r_gq [(1, .box (sP a0)), (4, .ov false [.sl (some 86) ((x4.1.set (Int.toNat (w64 ((x4.1.length : Int) - 1))) (v13.1, v8.1)).map ePt)]), (5, .p (iV (w64 (x4.2 + 1))))] [] trivial) ?_))
   exact lqn ((x4.1.set (Int.toNat (w64 ((x4.1.length : Int) - 1))) (v13.1, v8.1)), (w64 (x4.2 + 1))) h
  obtain ⟨u14, hu14, h⟩ := bs (yna hc6_11 h)
  refine yff (r_gq [(1, .box (sP a0)), (4, .ov false (oP 86 (x4.1 ++ [(v7.1, v8.1)]))), (5, .p (iV x4.2))] [(7, {fix := some (63, .ov false (oP 86 (x4.1 ++ [(v7.1, v8.1)])))})] (A3 (show List.length ((x4.1.map ePt) : List (List C)) + List.length ((([(v7.1, v8.1)]).map ePt) : List (List C)) ≤ 1099511627776 from (by have hg := (yea hu14); simpa using hg)) (show ∀ row ∈ ((([(v7.1, v8.1)]).map ePt) : List (List C)), row.length = 4 from (ydg fun _ => rfl)) (show (SV.ov false [.sl (some 86) ((x4.1.map ePt) ++ (([(v7.1, v8.1)]).map ePt))] : SV) = .ov false (oP 86 (x4.1 ++ [(v7.1, v8.1)])) from (congrArg (fun z => SV.ov false [.sl (some 86) z]) (List.map_append ..).symm)))) ?_
  refine b_n (q_n (yff (r_gq [(1, .box (sP a0)), (4, .ov false (oP 86 (x4.1 ++ [(v7.1, v8.1)]))), (5, .p (iV (w64 (x4.2 + 1))))] [] trivial) ?_))
  exact lqn ((x4.1 ++ [(v7.1, v8.1)]), (w64 (x4.2 + 1))) h
 replace h := yna hc5_5 h
 refine ykg (q_x (lq_x (b_x ?_)))
 have hyy := hy_x4 _ (oi h).symm
 subst hyy
 have h := hk_x4
 refine q_n ?_
 exact jx x4.1 h
end Go.PV

/-
  Walks through the functions that the law reaches: each answers as its plain definition does.
  Conditions: none.
-/
import Derived.KernelRfl
import Derived.Shelf.LaysM
import Derived.Shelf.Strconv.Itoa3
import Derived.Shelf.Strings.Builder1
import Derived.Shelf.Strings.Cut
import Derived.Shelf.LaysC
import Derived.Test.YtigabkbbbpokbaaGreatDoorDf
import Derived.Test.YtigabkbbbpokbaaGreatDoorProg
import Derived.Test.YtigabkbbbpokbaaGreatDoorPvCx
import Derived.Test.YtigabkbbbpokbaaGreatDoorBackYtigabkbbbpokbaaGreatDoor
open Go Go.PV Go.Proofs
set_option linter.all false
namespace Go.PV
attribute [local irreducible] pvC pvL pvD sOp seqQ blockQ Meets MeetsB Ok OkL RegOk agree endQ seqL blockL loopQ endL endLB
theorem yca : Tryz.prog.follows .mixedOrders = true := by kernel_rfl
theorem yzu : Tryz.prog.underlying 5 = some (.int .u8) := by kernel_rfl
theorem ybq : Tryz.prog.underlying 3 = some (.int .i64) := by kernel_rfl
theorem yvz : Tryz.prog.underlying 70 = some (.int .u64) := by kernel_rfl
theorem yan {a0 : Cu}  {r : (Int × Cu)} (h : yyf a0 = some r) : MeetsB Tryz.prog 126 (.box (eCu a0)) [] [.p (iV r.1)] (.box (eCu r.2)) := by
 refine mob Tryz.func126 [(0, .box (eCu a0))] ?_
 unfold yyf at h
 refine kG [(0, .box (eCu a0))] [] trivial ?_
 refine kG [(0, .box (eCu a0)), (3, .p (iV 0))] [] trivial ?_
 refine yhd (J := fun (x : Int) => [(0, .box (eCu a0)), (3, .p (iV x))]) (K := fun x => yod a0 x = some r) (fun x1 h => ?_) ?_
 ·unfold yod at h
  refine kG [(0, .box [.sl none (a0.1.map (eU .u8)), rI (w64 (a0.2.1 + 1)), .raw (.int .u64 a0.2.2)]), (3, .p (iV x1))] [] trivial ?_
  refine kG [(0, .box [.sl none (a0.1.map (eU .u8)), rI (w64 (a0.2.1 + 1)), .raw (.int .u64 (IntKind.wrap .u64 ((IntKind.wrap .u64 ((IntKind.wrap .u64 (a0.2.2 * 6364136223846793005)) + (IntKind.wrap .u64 x1))) + 1442695040888963407)))]), (3, .p (iV x1))] [(7, {pv := some (.int .u64 (IntKind.wrap .u64 x1))})] (A1 (show PureAt Tryz.prog (.convert 3 70 (.tmp 38)) [.int .i64 x1] (.int .u64 (IntKind.wrap .u64 x1)) from (yxp ybq yvz))) ?_
  refine yqb (yya (r_dq yca 9 [] [(0, .box [.sl none (a0.1.map (eU .u8)), rI (w64 (a0.2.1 + 1)), .raw (.int .u64 (IntKind.wrap .u64 ((IntKind.wrap .u64 ((IntKind.wrap .u64 (a0.2.2 * 6364136223846793005)) + (IntKind.wrap .u64 x1))) + 1442695040888963407)))]), (3, .p (iV x1)), (53, .p (.bool (decide ((w64 (a0.2.1 + 1)) ≤ (a0.1.length : Int)))))] [(7, bT), (8, {n := some a0.1.length})] (A2 (show frR [.sl none (a0.1.map (eU .u8))] = true from (frR1 (yyc1 (fr_U .u8)) rfl)) (show (a0.1.map (eU .u8)).length = a0.1.length from (List.length_map ..)))) ?_)
  refine kc (decide ((w64 (a0.2.1 + 1)) ≤ (a0.1.length : Int))) (fun hc2_1 => ?_) (fun hc2_1 => ?_)
  ·replace h := yma hc2_1 h
   refine kG [(0, .box [.sl none (a0.1.map (eU .u8)), rI (w64 (a0.2.1 + 1)), .raw (.int .u64 (IntKind.wrap .u64 ((IntKind.wrap .u64 ((IntKind.wrap .u64 (a0.2.2 * 6364136223846793005)) + (IntKind.wrap .u64 x1))) + 1442695040888963407)))]), (2, .p (iV x1))] [] trivial ?_
   refine yva (q_r ?_)
   obtain rfl := oi h
   exact ebr [(.p (iV x1), 2)]
  replace h := yna hc2_1 h
  refine yja (q_n (kG [(0, .box [.sl none (a0.1.map (eU .u8)), rI (w64 (a0.2.1 + 1)), .raw (.int .u64 (IntKind.wrap .u64 ((IntKind.wrap .u64 ((IntKind.wrap .u64 (a0.2.2 * 6364136223846793005)) + (IntKind.wrap .u64 x1))) + 1442695040888963407)))]), (2, .p (iV (IntKind.wrap .i64 (iand .u64 (ishr .u64 (IntKind.wrap .u64 ((IntKind.wrap .u64 ((IntKind.wrap .u64 (a0.2.2 * 6364136223846793005)) + (IntKind.wrap .u64 x1))) + 1442695040888963407)) 40) 255))))] [(4, {pv := some (.int .u64 (ishr .u64 (IntKind.wrap .u64 ((IntKind.wrap .u64 ((IntKind.wrap .u64 (a0.2.2 * 6364136223846793005)) + (IntKind.wrap .u64 x1))) + 1442695040888963407)) 40))}), (5, {pv := some (.int .u64 (iand .u64 (ishr .u64 (IntKind.wrap .u64 ((IntKind.wrap .u64 ((IntKind.wrap .u64 (a0.2.2 * 6364136223846793005)) + (IntKind.wrap .u64 x1))) + 1442695040888963407)) 40) 255))}), (6, {pv := some (iV (IntKind.wrap .i64 (iand .u64 (ishr .u64 (IntKind.wrap .u64 ((IntKind.wrap .u64 ((IntKind.wrap .u64 (a0.2.2 * 6364136223846793005)) + (IntKind.wrap .u64 x1))) + 1442695040888963407)) 40) 255)))})] (A3 (show PureAt Tryz.prog (.binOp .shr 70 (.tmp 58) (.const (.int .u64 40)) 129) [.int .u64 (IntKind.wrap .u64 ((IntKind.wrap .u64 ((IntKind.wrap .u64 (a0.2.2 * 6364136223846793005)) + (IntKind.wrap .u64 x1))) + 1442695040888963407)), .int .u64 40] (.int .u64 (ishr .u64 (IntKind.wrap .u64 ((IntKind.wrap .u64 ((IntKind.wrap .u64 (a0.2.2 * 6364136223846793005)) + (IntKind.wrap .u64 x1))) + 1442695040888963407)) 40)) from (ycm1 (by decide))) (show PureAt Tryz.prog (.binOp .and 70 (.tmp 59) (.const (.int .u64 255)) 70) [.int .u64 (ishr .u64 (IntKind.wrap .u64 ((IntKind.wrap .u64 ((IntKind.wrap .u64 (a0.2.2 * 6364136223846793005)) + (IntKind.wrap .u64 x1))) + 1442695040888963407)) 40), .int .u64 255] (.int .u64 (iand .u64 (ishr .u64 (IntKind.wrap .u64 ((IntKind.wrap .u64 ((IntKind.wrap .u64 (a0.2.2 * 6364136223846793005)) + (IntKind.wrap .u64 x1))) + 1442695040888963407)) 40) 255)) from (ybm1)) (show PureAt Tryz.prog (.convert 70 3 (.tmp 60)) [.int .u64 (iand .u64 (ishr .u64 (IntKind.wrap .u64 ((IntKind.wrap .u64 ((IntKind.wrap .u64 (a0.2.2 * 6364136223846793005)) + (IntKind.wrap .u64 x1))) + 1442695040888963407)) 40) 255)] (iV (IntKind.wrap .i64 (iand .u64 (ishr .u64 (IntKind.wrap .u64 ((IntKind.wrap .u64 ((IntKind.wrap .u64 (a0.2.2 * 6364136223846793005)) + (IntKind.wrap .u64 x1))) + 1442695040888963407)) 40) 255))) from (yxp yvz ybq))) ?_))
  refine yva ?_
  obtain rfl := oi h
  exact ebr [(.p (iV (IntKind.wrap .i64 (iand .u64 (ishr .u64 (IntKind.wrap .u64 ((IntKind.wrap .u64 ((IntKind.wrap .u64 (a0.2.2 * 6364136223846793005)) + (IntKind.wrap .u64 x1))) + 1442695040888963407)) 40) 255))), 2)]
 refine yya (r_dq yca 9 [] [(0, .box (eCu a0)), (3, .p (iV 0)), (13, .p (.bool (decide (a0.2.1 < (a0.1.length : Int)))))] [(7, bT), (8, {n := some a0.1.length})] (A2 (show frR [.sl none (a0.1.map (eU .u8))] = true from (frR1 (yyc1 (fr_U .u8)) rfl)) (show (a0.1.map (eU .u8)).length = a0.1.length from (List.length_map ..)))) ?_
 refine kc (decide (a0.2.1 < (a0.1.length : Int))) (fun hc2_2 => ?_) (fun hc2_2 => ?_)
 ·obtain ⟨v4, hv4, h⟩ := bs (yma hc2_2 h)
  refine yff (r_dq yca 8 [] [(0, .box (eCu a0)), (3, .p (iV (IntKind.wrap .i64 v4)))] [(3, bT), (8, {row := some [.raw (.int .u8 v4)]}), (10, {pv := some (iV (IntKind.wrap .i64 v4))})] (A4 (show frR [.sl none (a0.1.map (eU .u8))] = true from (frR1 (yyc1 (fr_U .u8)) rfl)) (yba hv4).1 (yia (eU .u8) (yba hv4).2) (show PureAt Tryz.prog (.convert 5 3 (.tmp 23)) [.int .u8 v4] (iV (IntKind.wrap .i64 v4)) from (yxp yzu ybq)))) ?_
  refine q_n ?_
  exact jx (IntKind.wrap .i64 v4) h
 replace h := yna hc2_2 h
 refine yja (q_n ?_)
 exact jx 0 h
theorem yla {a0 : Cu} {a1 : Int}  {r : (Int × Cu)} (h : yoa a0 a1 = some r) : MeetsB Tryz.prog 97 (.box (eCu a0)) [wI a1] [.p (iV r.1)] (.box (eCu r.2)) := by
 refine mob Tryz.func97 [(0, .box (eCu a0)), (1, .p (iV a1))] ?_
 unfold yoa at h
 refine kG [(0, .box (eCu a0)), (1, .p (iV a1))] [] trivial ?_
 refine yqb (kG [(0, .box (eCu a0)), (1, .p (iV a1)), (7, .p (.bool (decide (a1 ≤ 1))))] [] trivial ?_)
 refine kc (decide (a1 ≤ 1)) (fun hc2_0 => ?_) (fun hc2_0 => ?_)
 ·replace h := yma hc2_0 h
  refine kG [(0, .box (eCu a0)), (4, .p (iV 0))] [] trivial ?_
  refine yva (q_r ?_)
  obtain rfl := oi h
  exact ebr [(.p (iV 0), 4)]
 replace h := yna hc2_0 h
 refine yja (q_n ?_)
 obtain ⟨v2, hv2, h⟩ := bs h
 refine kG [(0, .box (eCu v2.2)), (1, .p (iV a1)), (5, .p (iV v2.1))] [(1, (lNf [.p (iV v2.1)] (.box (eCu v2.2))))] (A1 (yan hv2)) ?_
 refine yhd (J := fun (x : ((List Int) × Int × Int × Int)) => [(0, .box (eCu (x.1, x.2.1, x.2.2.1))), (1, .p (iV a1)), (5, .p (iV x.2.2.2))]) (K := fun x => ypd a1 x = some r) (fun x3 h => ?_) ?_
 ·unfold ypd at h
  obtain ⟨u4, hu4, h⟩ := bs h
  refine kG [(0, .box (eCu (x3.1, x3.2.1, x3.2.2.1))), (4, .p (iV (Int.tmod x3.2.2.2 a1)))] [] (A1 (yea hu4)) ?_
  refine yva ?_
  obtain rfl := oi h
  exact ebr [(.p (iV (Int.tmod x3.2.2.2 a1)), 4)]
 refine kG [(0, .box (eCu v2.2)), (1, .p (iV a1)), (5, .p (iV v2.1)), (11, .p (.bool (decide (a1 > 200))))] [] trivial ?_
 refine kc (decide (a1 > 200)) (fun hc2_4 => ?_) (fun hc2_4 => ?_)
 ·obtain ⟨v6, hv6, h⟩ := bs (yma hc2_4 h)
  refine yff (r_gq [(0, .box (eCu v6.2)), (1, .p (iV a1)), (5, .p (iV (w64 ((w64 (v2.1 * 256)) + v6.1))))] [(3, (lNf [.p (iV v6.1)] (.box (eCu v6.2))))] (A1 (yan hv6))) ?_
  refine q_n ?_
  exact jx (v6.2.1, v6.2.2.1, v6.2.2.2, (w64 ((w64 (v2.1 * 256)) + v6.1))) h
 replace h := yna hc2_4 h
 refine yja (q_n ?_)
 exact jx (v2.2.1, v2.2.2.1, v2.2.2.2, v2.1) h
theorem ysa {a0 : Cu} {a1 : (List Int)}  {r : (Int × Cu)} (h : ypa a0 a1 = some r) : MeetsB Tryz.prog 95 (.box (eCu a0)) [.d false [.sl none (a1.map eI)]] [.p (iV r.1)] (.box (eCu r.2)) := by
 refine mob Tryz.func95 [(0, .box (eCu a0)), (1, .d false [.sl none (a1.map eI)])] ?_
 unfold ypa at h
 refine kG [(0, .box (eCu a0)), (1, .d false [.sl none (a1.map eI)])] [] trivial ?_
 obtain ⟨v1, hv1, h⟩ := bs h
 obtain ⟨v2, hv2, h⟩ := bs h
 refine kG [(0, .box (eCu v1.2)), (4, .p (iV v2))] [(3, {n := some a1.length}), (4, (lNf [.p (iV v1.1)] (.box (eCu v1.2)))), (5, {row := some (eI v2)})] (A4 (show (a1.map eI).length = a1.length from (List.length_map ..)) (yla hv1) (yba hv2).1 (yia eI (yba hv2).2)) ?_
 refine yva ?_
 obtain rfl := oi h
 exact ebr [(.p (iV v2), 4)]
theorem yrf {a0 : Cu} {a1 : Int}  {r : (Bool × Cu)} (h : yie a0 a1 = some r) : MeetsB Tryz.prog 52 (.box (eCu a0)) [wI a1] [.p (.bool r.1)] (.box (eCu r.2)) := by
 refine mob Tryz.func52 [(0, .box (eCu a0)), (1, .p (iV a1))] ?_
 unfold yie at h
 refine kG [(0, .box (eCu a0)), (1, .p (iV a1))] [] trivial ?_
 obtain ⟨v1, hv1, h⟩ := bs h
 refine kG [(0, .box (eCu v1.2)), (4, .p (.bool (v1.1 == 0)))] [(2, (lNf [.p (iV v1.1)] (.box (eCu v1.2))))] (A1 (yla hv1)) ?_
 refine yva ?_
 obtain rfl := oi h
 exact ebr [(.p (.bool (v1.1 == 0)), 4)]
theorem yub {a0 : Int}  {r : Qr} (h : yjb a0 = some r) : Meets Tryz.prog 39 [wI a0] { vals := [.p (vRt r)] } := by
 refine mo Tryz.func39 [(0, .p (iV a0))] ?_
 unfold yjb at h
 refine kG [(0, .p (iV a0)), (2, .box zR)] [] trivial ?_
 refine kG [(2, .box [rI a0, rI 1])] [] trivial ?_
 refine yva ?_
 obtain rfl := oi h
 exact er [(.p (.agg #[.int .i64 a0, .int .i64 1]), 2)]
theorem yzr {a0 : Int} {a1 : Int}  {r : Int} (h : ywk a0 a1 = some r) : Meets Tryz.prog 125 [wI a0, wI a1] { vals := [.p (iV r)] } := by
 refine mo Tryz.func125 [(0, .p (iV a0)), (1, .p (iV a1))] ?_
 unfold ywk at h
 refine kG [(0, .p (iV a0)), (1, .p (iV a1))] [] trivial ?_
 refine yqb (kG [(0, .p (iV a0)), (1, .p (iV a1)), (7, .p (.bool (decide (a0 > a1))))] [] trivial ?_)
 refine kc (decide (a0 > a1)) (fun hc2_0 => ?_) (fun hc2_0 => ?_)
 ·replace h := yma hc2_0 h
  refine kG [(4, .p (iV a0))] [] trivial ?_
  refine yva (q_r ?_)
  obtain rfl := oi h
  exact er [(.p (iV a0), 4)]
 replace h := yna hc2_0 h
 refine yja (q_n (kG [(4, .p (iV a1))] [] trivial ?_))
 refine yva ?_
 obtain rfl := oi h
 exact er [(.p (iV a1), 4)]
theorem yso {a0 : Int}  {r : Int} (h : ykl a0 = some r) : Meets Tryz.prog 115 [wI a0] { vals := [.p (iV r)] } := by
 refine mo Tryz.func115 [(0, .p (iV a0))] ?_
 unfold ykl at h
 refine kG [(0, .p (iV a0))] [] trivial ?_
 obtain ⟨v1, hv1, h⟩ := bs h
 refine kG [(2, .p (iV v1))] [(3, (cN [.p (iV v1)]))] (A1 (yzr hv1)) ?_
 refine yva ?_
 obtain rfl := oi h
 exact er [(.p (iV v1), 2)]
theorem yto {a0 : Int} {a1 : Int}  {r : Int} (h : yri a0 a1 = some r) : Meets Tryz.prog 114 [wI a0, wI a1] { vals := [.p (iV r)] } := by
 refine mo Tryz.func114 [(0, .p (iV a0)), (1, .p (iV a1))] ?_
 unfold yri at h
 refine kG [(0, .p (iV a0)), (1, .p (iV a1))] [] trivial ?_
 refine yhd (J := fun (x : Int) => [(0, .p (iV x))]) (K := fun x => yll x = some r) (fun x1 h => ?_) ?_
 ·unfold yll at h
  refine kG [(4, .p (iV x1))] [] trivial ?_
  refine yva ?_
  obtain rfl := oi h
  exact er [(.p (iV x1), 4)]
 refine ywa ?_
 obtain ⟨y3, hl_x2, hk_x2⟩ := bs h
 clear h
 refine yuh (J := fun (x : Qr) => [(0, .p (iV x.1)), (1, .p (iV x.2))]) hl_x2 wkk (fun x2 o_x2 h hy_x2 => ?_)
 unfold yqg at h
 refine yqb (kG [(0, .p (iV x2.1)), (1, .p (iV x2.2)), (7, .p (.bool (decide (x2.2 > 0))))] [] trivial ?_)
 refine kc (decide (x2.2 > 0)) (fun hc5_3 => ?_) (fun hc5_3 => ?_)
 ·replace h := yma hc5_3 h
  refine yja (q_n (ywa ?_))
  obtain ⟨u5, hu5, h⟩ := bs h
  refine kG [(1, .p (iV x2.2)), (5, .p (iV (Int.tmod x2.1 x2.2)))] [] (A1 (yea hu5)) ?_
  refine kG [(0, .p (iV x2.2)), (5, .p (iV (Int.tmod x2.1 x2.2)))] [] trivial ?_
  refine yff (r_gq [(0, .p (iV x2.2)), (1, .p (iV (Int.tmod x2.1 x2.2)))] [] trivial) ?_
  refine b_n ?_
  exact lqn (x2.2, (Int.tmod x2.1 x2.2)) h
 replace h := yna hc5_3 h
 refine ykg (q_x (lq_x (b_x ?_)))
 have hyy := hy_x2 _ (oi h).symm
 subst hyy
 have h := hk_x2
 refine q_n ?_
 exact jx x2.1 h
theorem ycd {a0 : Int} {a1 : Int} {a2 : Int}  {r : Bool} (h : yyi a0 a1 a2 = some r) : Meets Tryz.prog 79 [wI a0, wI a1, wI a2] { vals := [.p (.bool r)] } := by
 refine mo Tryz.func79 [(0, .p (iV a0)), (1, .p (iV a1)), (2, .p (iV a2))] ?_
 unfold yyi at h
 refine kG [(0, .p (iV a0)), (1, .p (iV a1)), (2, .p (iV a2))] [] trivial ?_
 refine yya (l1 := [(6, .p (.bool ((decide (a0 ≥ a1)) && (decide (a0 ≤ a2)))))]) ?_ ?_
 ·rcases ft (decide (a0 ≥ a1)) with ha0 | ha0
  ·exact RegOk.of_eq (l2 := [(6, .p (.bool ((decide (a0 ≥ a1)) && (decide (a0 ≤ a2)))))]) (r_gq [(6, .p (.bool (decide (a0 ≤ a2))))] [(4, gT), (5, gT), (6, gT), (7, bT)] (A4 ha0 ha0 ha0 ha0)) (by simp [ha0])
  exact RegOk.of_eq (l2 := [(6, .p (.bool ((decide (a0 ≥ a1)) && (decide (a0 ≤ a2)))))]) (r_gq [(6, .p (.bool false))] [(4, gF), (5, gF), (6, gF), (7, bF)] (A4 ha0 ha0 ha0 ha0)) (by simp [ha0])
 refine yva ?_
 obtain rfl := oi h
 exact er [(.p (.bool ((decide (a0 ≥ a1)) && (decide (a0 ≤ a2)))), 6)]
theorem yqc {a0 : Qr}  {r : Bool} (h : yxf a0 = some r) : Meets Tryz.prog 81 [.v (vRt a0)] { vals := [.p (.bool r)] } := by
 refine mo Tryz.func81 [(0, .p (vRt a0))] ?_
 unfold yxf at h
 refine kG [(1, .box (eRt a0))] [] trivial ?_
 obtain ⟨v1, hv1, h⟩ := bs h
 obtain ⟨w5, hw5, h⟩ := bs h
 refine yya (l1 := [(2, .p (.bool w5))]) ?_ ?_
 ·clear h
  rcases ft v1 with ha0 | ha0
  ·obtain ⟨v2, hv2, hw5⟩ := bs (yma ha0 hw5)
   rcases ft v2 with ha1 | ha1
   ·obtain ⟨v3, hv3, hw5⟩ := bs (yma ha1 hw5)
    obtain ⟨v4, hv4, hw5⟩ := bs hw5
    have hw5 := oi hw5
    subst hw5
    exact (r_dq yca 14 [] [(2, .p (.bool (v4 == 1)))] [(2, (cN [.p (.bool v1)])), (4, gT), (5, gT), (6, {g := some true, call := some (none, [.p (.bool v2)], true)}), (7, bT), (9, gT), (10, gT), (11, {g := some true, call := some (none, [.p (iV v3)], true)}), (12, gT), (13, gT), (14, {g := some true, call := some (none, [.p (iV v4)], true)}), (15, gT), (16, bT)] (B6 (ycd hv1) ha0 ha0 ha0 (ycd hv2) ha0 (B6 ha1 ha1 ha1 (yso hv3) ha1 ha1 (A4 ha1 (yto hv4) ha1 ha1))))
   replace hw5 := yna ha1 hw5
   have hw5 := oi hw5
   subst hw5
   exact (r_dq yca 14 [] [(2, .p (.bool false))] [(2, (cN [.p (.bool v1)])), (4, gT), (5, gT), (6, {g := some true, call := some (none, [.p (.bool v2)], true)}), (7, bT), (9, gF), (10, gF), (11, gF), (12, gF), (13, gF), (14, gF), (15, gF), (16, bF)] (B6 (ycd hv1) ha0 ha0 ha0 (ycd hv2) ha0 (B6 ha1 ha1 ha1 ha1 ha1 ha1 (A2 ha1 ha1))))
  replace hw5 := yna ha0 hw5
  have hw5 := oi hw5
  subst hw5
  exact (r_dq yca 14 [] [(2, .p (.bool false))] [(2, (cN [.p (.bool v1)])), (4, gF), (5, gF), (6, gF), (7, bF), (9, gF), (10, gF), (11, gF), (12, gF), (13, gF), (14, gF), (15, gF), (16, bF)] (B6 (ycd hv1) ha0 ha0 ha0 ha0 fF (B6 fF fF fF fF fF fF (A1 fF))))
 refine yva ?_
 obtain rfl := oi h
 exact er [(.p (.bool w5), 2)]
theorem yfe {a0 : Int} {a1 : Int}  {r : (Qr × Bool)} (h : yyc a0 a1 = some r) : Meets Tryz.prog 84 [wI a0, wI a1] { vals := [.p (vRt r.1), .p (.bool r.2)] } := by
 refine mo Tryz.func84 [(0, .p (iV a0)), (1, .p (iV a1))] ?_
 unfold yyc at h
 refine kG [(0, .p (iV a0)), (1, .p (iV a1)), (4, .box zR)] [] trivial ?_
 refine yqb (kG [(0, .p (iV a0)), (1, .p (iV a1)), (4, .box zR), (9, .p (.bool (a1 == 0)))] [] trivial ?_)
 refine kc (a1 == 0) (fun hc2_0 => ?_) (fun hc2_0 => ?_)
 ·replace h := yma hc2_0 h
  refine kG [(4, .box zR), (5, .p (.bool false))] [] trivial ?_
  refine yva (q_r ?_)
  obtain rfl := oi h
  exact er [(.p (.agg #[.int .i64 0, .int .i64 0]), 4), (.p (.bool false), 5)]
 replace h := yna hc2_0 h
 refine yja (q_n ?_)
 obtain ⟨v2, hv2, h⟩ := bs h
 obtain ⟨v3, hv3, h⟩ := bs h
 obtain ⟨v4, hv4, h⟩ := bs h
 refine kG [(0, .p (iV a0)), (1, .p (iV a1)), (4, .box zR), (6, .p (iV v4))] [(1, (cN [.p (iV v2)])), (3, (cN [.p (iV v3)])), (4, (cN [.p (iV v4)]))] (A3 (yso hv2) (yso hv3) (yto hv4)) ?_
 refine yhd (J := fun (x : Int) => [(0, .p (iV a0)), (1, .p (iV a1)), (4, .box zR), (6, .p (iV x))]) (K := fun x => yfh a0 a1 x = some r) (fun x5 h => ?_) ?_
 ·unfold yfh at h
  obtain ⟨u6, hu6, h⟩ := bs h
  refine yya (r_dq yca 8 [] [(4, .box zR), (7, .box [rI (w64 (Int.tdiv a0 x5)), rI (w64 (Int.tdiv a1 x5))])] [] (A2 (yea hu6) (yea hu6))) ?_
  refine yqb ?_
  obtain ⟨v7, hv7, h⟩ := bs h
  refine kG [(4, .box zR), (7, .box [rI (w64 (Int.tdiv a0 x5)), rI (w64 (Int.tdiv a1 x5))]), (29, .p (.bool (!v7)))] [(1, (cN [.p (.bool v7)]))] (A1 (yqc hv7)) ?_
  refine kc (!v7) (fun hc2_7 => ?_) (fun hc2_7 => ?_)
  ·replace h := yma hc2_7 h
   refine kG [(4, .box zR), (5, .p (.bool false))] [] trivial ?_
   refine yva (q_r ?_)
   obtain rfl := oi h
   exact er [(.p (.agg #[.int .i64 0, .int .i64 0]), 4), (.p (.bool false), 5)]
  replace h := yna hc2_7 h
  refine yja (q_n (kG [(4, .box [rI (w64 (Int.tdiv a0 x5)), rI (w64 (Int.tdiv a1 x5))]), (5, .p (.bool true))] [] trivial ?_))
  refine yva ?_
  obtain rfl := oi h
  exact er [(.p (.agg #[.int .i64 (w64 (Int.tdiv a0 x5)), .int .i64 (w64 (Int.tdiv a1 x5))]), 4), (.p (.bool true), 5)]
 refine kG [(0, .p (iV a0)), (1, .p (iV a1)), (4, .box zR), (6, .p (iV v4)), (17, .p (.bool (decide (a1 < 0))))] [] trivial ?_
 refine kc (decide (a1 < 0)) (fun hc2_8 => ?_) (fun hc2_8 => ?_)
 ·replace h := yma hc2_8 h
  refine yff (r_gq [(0, .p (iV a0)), (1, .p (iV a1)), (4, .box zR), (6, .p (iV (w64 (0 - v4))))] [] trivial) ?_
  refine q_n ?_
  exact jx (w64 (0 - v4)) h
 replace h := yna hc2_8 h
 refine yja (q_n ?_)
 exact jx v4 h
theorem yve {a0 : Cu} {a1 : Int}  {r : (Qr × Cu)} (h : yvb a0 a1 = some r) : MeetsB Tryz.prog 96 (.box (eCu a0)) [wI a1] [.p (vRt r.1)] (.box (eCu r.2)) := by
 refine mob Tryz.func96 [(0, .box (eCu a0)), (1, .p (iV a1))] ?_
 unfold yvb at h
 refine kG [(0, .box (eCu a0)), (1, .p (iV a1)), (4, .box zR)] [] trivial ?_
 obtain ⟨v1, hv1, h⟩ := bs h
 obtain ⟨v2, hv2, h⟩ := bs h
 refine kG [(0, .box (eCu v1.2)), (4, .box zR), (5, .box (eRt v2.1))] [(3, (lNf [.p (iV v1.1)] (.box (eCu v1.2)))), (5, (cN [.p (vRt v2.1), .p (.bool v2.2)]))] (A2 (yla hv1) (yfe hv2)) ?_
 refine kG [(0, .box (eCu v1.2)), (4, .box (eRt v2.1))] [] trivial ?_
 refine yva ?_
 obtain rfl := oi h
 exact ebr [(.p (vRt v2.1), 4)]
theorem ypx {a0 : Int}  {r : Int} (h : yln a0 = some r) : Meets Tryz.prog 83 [wI a0] { vals := [.p (iV r)] } := by
 refine mo Tryz.func83 [(0, .p (iV a0))] ?_
 unfold yln at h
 refine kG [(0, .p (iV a0))] [] trivial ?_
 refine yqb (ywa (kG [(0, .p (iV a0)), (3, .p (.bool (decide (a0 > 0))))] [] trivial ?_))
 refine kc (decide (a0 > 0)) (fun hc3_0 => ?_) (fun hc3_0 => ?_)
 ·replace h := yma hc3_0 h
  refine kG [(2, .p (iV 1))] [] trivial ?_
  refine yva (b_r (q_r ?_))
  obtain rfl := oi h
  exact er [(.p (iV 1), 2)]
 replace h := yna hc3_0 h
 refine kG [(6, .p (.bool (decide (a0 < 0))))] [] trivial ?_
 refine kc (decide (a0 < 0)) (fun hc3_1 => ?_) (fun hc3_1 => ?_)
 ·replace h := yma hc3_1 h
  refine kG [(2, .p (iV (-1)))] [] trivial ?_
  refine yva (b_r (q_r ?_))
  obtain rfl := oi h
  exact er [(.p (iV (-1)), 2)]
 replace h := yna hc3_1 h
 refine yja (b_n (q_n (kG [(2, .p (iV 0))] [] trivial ?_)))
 refine yva ?_
 obtain rfl := oi h
 exact er [(.p (iV 0), 2)]
theorem yhb {a0 : Qr} {a1 : Qr}  {r : Int} (h : yuc a0 a1 = some r) : Meets Tryz.prog 36 [.v (vRt a0), .v (vRt a1)] { vals := [.p (iV r)] } := by
 refine mo Tryz.func36 [(0, .p (vRt a0)), (1, .p (vRt a1))] ?_
 unfold yuc at h
 refine kG [(2, .box (eRt a0)), (3, .box (eRt a1))] [] trivial ?_
 obtain ⟨v1, hv1, h⟩ := bs h
 refine kG [(4, .p (iV v1))] [(11, (cN [.p (iV v1)]))] (A1 (ypx hv1)) ?_
 refine yva ?_
 obtain rfl := oi h
 exact er [(.p (iV v1), 4)]
theorem ywz {a0 : (List Qr)} {a1 : Qr}  {r : (List Qr)} (h : yop a0 a1 = some r) : Meets Tryz.prog 124 [.d false [.sl none (a0.map eRt)], .v (vRt a1)] { vals := [.d false [.sl none (r.map eRt)]] } := by
 refine mo Tryz.func124 [(0, .d false [.sl none (a0.map eRt)]), (1, .p (vRt a1))] ?_
 unfold yop at h
 refine kG [(0, .d false [.sl none (a0.map eRt)]), (3, .box (eRt a1))] [] trivial ?_
 refine kG [(0, .d false [.sl none (a0.map eRt)]), (3, .box (eRt a1)), (5, .p (iV 0))] [] trivial ?_
 refine yhd (J := fun (x : Int) => [(0, .d false [.sl none (a0.map eRt)]), (3, .box (eRt a1)), (5, .p (iV x))]) (K := fun x => ydm a0 a1 x = some r) (fun x1 h => ?_) ?_
 ·unfold ydm at h
  refine yqb ?_
  obtain ⟨w3, hw3, h⟩ := bs h
  refine yya (l1 := [(0, .d false [.sl none (a0.map eRt)]), (3, .box (eRt a1)), (5, .p (iV x1)), (32, .p (.bool w3))]) ?_ ?_
  ·clear h
   rcases ft (decide (x1 < (a0.length : Int))) with ha0 | ha0
   ·obtain ⟨v2, hv2, hw3⟩ := bs (yma ha0 hw3)
    have hw3 := oi hw3
    subst hw3
    exact (r_dq yca 10 [] [(0, .d false [.sl none (a0.map eRt)]), (3, .box (eRt a1)), (5, .p (iV x1)), (32, .p (.bool ((v2.1 == a1.1) && (v2.2 == a1.2))))] [(2, {n := some a0.length}), (5, gT), (6, gT), (7, {g := some true, row := some (eRt v2)}), (8, gT), (9, gT), (10, {g := some true, pv := some (.bool ((v2.1 == a1.1) && (v2.2 == a1.2)))}), (11, bT)] (B6 (show (a0.map eRt).length = a0.length from (List.length_map ..)) ha0 ha0 ha0 (yba hv2).1 (yia eRt (yba hv2).2) (A5 ha0 ha0 ha0 (show PureAt Tryz.prog (.binOp .eql 27 (.tmp 29) (.tmp 30) 27) [vRt v2, vRt a1] (.bool ((v2.1 == a1.1) && (v2.2 == a1.2))) from (ygg (by kernel_rfl))) ha0)))
   replace hw3 := yna ha0 hw3
   have hw3 := oi hw3
   subst hw3
   exact (r_dq yca 10 [] [(0, .d false [.sl none (a0.map eRt)]), (3, .box (eRt a1)), (5, .p (iV x1)), (32, .p (.bool false))] [(2, {n := some a0.length}), (5, gF), (6, gF), (7, gF), (8, gF), (9, gF), (10, gF), (11, bF)] (B6 (show (a0.map eRt).length = a0.length from (List.length_map ..)) ha0 ha0 ha0 ha0 ha0 (A2 ha0 ha0)))
  refine kc w3 (fun hc2_3 => ?_) (fun hc2_3 => ?_)
  ·replace h := yma hc2_3 h
   refine kG [(4, .d false [.sl none (a0.map eRt)])] [] trivial ?_
   refine yva (q_r ?_)
   obtain rfl := oi h
   exact er [(.d false [.sl none (a0.map eRt)], 4)]
  replace h := yna hc2_3 h
  refine yja (q_n ?_)
  obtain ⟨u5, hu5, h⟩ := bs h
  obtain ⟨u6, hu6, h⟩ := bs h
  obtain ⟨u7, hu7, h⟩ := bs h
  obtain ⟨u8, hu8, h⟩ := bs h
  refine yya (r_dq yca 11 [(4, 34), (7, 38), (4096, 34), (4097, 38)] [(4, .d false [.sl none ((((a0.take (Int.toNat x1)) ++ [a1]) ++ (a0.drop (Int.toNat x1))).map eRt)])] [(3, {fix := some (37, .d false [.sl none ((a0.take (Int.toNat x1)).map eRt)])}), (6, {pre := some (0, .u), fix := some (40, .d false [.sl none (([a1]).map eRt)])}), (7, {fix := some (41, .ov false [.sl (some 27) (((a0.take (Int.toNat x1)) ++ [a1]).map eRt)])}), (10, {fix := some (44, .d false [.sl none ((a0.drop (Int.toNat x1)).map eRt)])}), (11, {fix := some (45, .ov false [.sl (some 27) ((((a0.take (Int.toNat x1)) ++ [a1]) ++ (a0.drop (Int.toNat x1))).map eRt)])}), (12, {pre := some (45, .d false [.sl none ((((a0.take (Int.toNat x1)) ++ [a1]) ++ (a0.drop (Int.toNat x1))).map eRt)])})] (B6 (show 0 ≤ (Int.toNat x1) from (by have hg := (yea hu5); first | (simp only [List.length_map]; omega) | omega)) (show (Int.toNat x1) ≤ (a0.map eRt).length from (by have hg := (yea hu5); first | (simp only [List.length_map]; omega) | omega)) (show ∀ row ∈ (a0.map eRt), row.length = 2 from (ydg fun _ => rfl)) (show (0 : Int) ≤ x1 from (by have hg := (yea hu5); omega)) (show (SV.d false [.sl none (((a0.map eRt).take (Int.toNat x1)).drop 0)] : SV) = .d false [.sl none ((a0.take (Int.toNat x1)).map eRt)] from (congrArg (fun z => SV.d false [.sl none z]) yrs1)) (show List.length ([] : List (List C)) + List.length (((a0.take (Int.toNat x1)).map eRt) : List (List C)) ≤ 1099511627776 from (by have hg := (yea hu6); simpa using hg)) (B6 (show ∀ row ∈ (((a0.take (Int.toNat x1)).map eRt) : List (List C)), row.length = 2 from (ydg fun _ => rfl)) (show (SV.d false (eraR [.sl (some 27) (([a1]).map eRt)]) : SV) = .d false [.sl none (([a1]).map eRt)] from (congrArg (fun z => SV.d false z) (yul (yza (ysm er_I er_I)) rfl))) (show List.length (((a0.take (Int.toNat x1)).map eRt) : List (List C)) + List.length ((([a1]).map eRt) : List (List C)) ≤ 1099511627776 from (by have hg := (yea hu7); simpa using hg)) (show ∀ row ∈ ((([a1]).map eRt) : List (List C)), row.length = 2 from (ydg fun _ => rfl)) (show (SV.ov false [.sl (some 27) (((a0.take (Int.toNat x1)).map eRt) ++ (([a1]).map eRt))] : SV) = .ov false [.sl (some 27) (((a0.take (Int.toNat x1)) ++ [a1]).map eRt)] from (congrArg (fun z => SV.ov false [.sl (some 27) z]) (List.map_append ..).symm)) (show (Int.toNat x1) ≤ (a0.map eRt).length from (by have hg := (yea hu5); first | (simp only [List.length_map]; omega) | omega)) (B6 (show (a0.map eRt).length ≤ (a0.map eRt).length from (Nat.le_refl _)) (show ∀ row ∈ (a0.map eRt), row.length = 2 from (ydg fun _ => rfl)) (show (0 : Int) ≤ x1 from (by have hg := (yea hu5); omega)) (show (SV.d false [.sl none (((a0.map eRt).take (a0.map eRt).length).drop (Int.toNat x1))] : SV) = .d false [.sl none ((a0.drop (Int.toNat x1)).map eRt)] from (congrArg (fun z => SV.d false [.sl none z]) yzs1)) (show List.length ((((a0.take (Int.toNat x1)) ++ [a1]).map eRt) : List (List C)) + List.length (((a0.drop (Int.toNat x1)).map eRt) : List (List C)) ≤ 1099511627776 from (by have hg := (yea hu8); simpa using hg)) (show ∀ row ∈ (((a0.drop (Int.toNat x1)).map eRt) : List (List C)), row.length = 2 from (ydg fun _ => rfl)) (A2 (show (SV.ov false [.sl (some 27) ((((a0.take (Int.toNat x1)) ++ [a1]).map eRt) ++ ((a0.drop (Int.toNat x1)).map eRt))] : SV) = .ov false [.sl (some 27) ((((a0.take (Int.toNat x1)) ++ [a1]) ++ (a0.drop (Int.toNat x1))).map eRt)] from (congrArg (fun z => SV.ov false [.sl (some 27) z]) (List.map_append ..).symm)) (show (SV.d false (eraR [.sl (some 27) ((((a0.take (Int.toNat x1)) ++ [a1]) ++ (a0.drop (Int.toNat x1))).map eRt)]) : SV) = .d false [.sl none ((((a0.take (Int.toNat x1)) ++ [a1]) ++ (a0.drop (Int.toNat x1))).map eRt)] from (congrArg (fun z => SV.d false z) (yul (yza (ysm er_I er_I)) rfl)))))))) ?_
  refine yva ?_
  obtain rfl := oi h
  exact er [(.d false [.sl none ((((a0.take (Int.toNat x1)) ++ [a1]) ++ (a0.drop (Int.toNat x1))).map eRt)], 4)]
 refine ywa ?_
 obtain ⟨y10, hl_x9, hk_x9⟩ := bs h
 clear h
 refine yuh (J := fun (x : Int) => [(0, .d false [.sl none (a0.map eRt)]), (3, .box (eRt a1)), (5, .p (iV x))]) hl_x9 wkk (fun x9 o_x9 h hy_x9 => ?_)
 unfold ynp at h
 refine yqb ?_
 obtain ⟨w13, hw13, h⟩ := bs h
 refine yya (l1 := [(0, .d false [.sl none (a0.map eRt)]), (3, .box (eRt a1)), (5, .p (iV x9)), (18, .p (.bool w13))]) ?_ ?_
 ·clear h
  rcases ft (decide (x9 < (a0.length : Int))) with ha0 | ha0
  ·obtain ⟨v11, hv11, hw13⟩ := bs (yma ha0 hw13)
   obtain ⟨v12, hv12, hw13⟩ := bs hw13
   have hw13 := oi hw13
   subst hw13
   exact (r_dq yca 10 [] [(0, .d false [.sl none (a0.map eRt)]), (3, .box (eRt a1)), (5, .p (iV x9)), (18, .p (.bool (decide (v12 < 0))))] [(2, {n := some a0.length}), (5, gT), (6, gT), (7, {g := some true, row := some (eRt v11)}), (8, gT), (9, gT), (10, {g := some true, call := some (none, [.p (iV v12)], true)}), (11, gT), (12, bT)] (B6 (show (a0.map eRt).length = a0.length from (List.length_map ..)) ha0 ha0 ha0 (yba hv11).1 (yia eRt (yba hv11).2) (A6 ha0 ha0 ha0 (yhb hv12) ha0 ha0)))
  replace hw13 := yna ha0 hw13
  have hw13 := oi hw13
  subst hw13
  exact (r_dq yca 10 [] [(0, .d false [.sl none (a0.map eRt)]), (3, .box (eRt a1)), (5, .p (iV x9)), (18, .p (.bool false))] [(2, {n := some a0.length}), (5, gF), (6, gF), (7, gF), (8, gF), (9, gF), (10, gF), (11, gF), (12, bF)] (B6 (show (a0.map eRt).length = a0.length from (List.length_map ..)) ha0 ha0 ha0 ha0 ha0 (A3 ha0 ha0 ha0)))
 refine kc w13 (fun hc5_13 => ?_) (fun hc5_13 => ?_)
 ·replace h := yma hc5_13 h
  refine yja (q_n (ywa (yff (r_gq [(0, .d false [.sl none (a0.map eRt)]), (3, .box (eRt a1)), (5, .p (iV (w64 (x9 + 1))))] [] trivial) ?_)))
  refine b_n ?_
  exact lqn (w64 (x9 + 1)) h
 replace h := yna hc5_13 h
 refine ykg (q_x (lq_x (b_x ?_)))
 have hyy := hy_x9 _ (oi h).symm
 subst hyy
 have h := hk_x9
 refine q_n ?_
 exact jx x9 h
theorem yid {a0 : Qr} {a1 : Int}  {r : Qr} (h : yfb a0 a1 = some r) : Meets Tryz.prog 41 [.v (vRt a0), wI a1] { vals := [.p (vRt r)] } := by
 refine mo Tryz.func41 [(0, .p (vRt a0)), (1, .p (iV a1))] ?_
 unfold yfb at h
 refine kG [(1, .p (iV a1)), (2, .box (eRt a0)), (4, .box zR)] [] trivial ?_
 refine kG [(4, .box [rI (w64 (a0.1 + (w64 (a1 * a0.2)))), rI a0.2])] [] trivial ?_
 refine yva ?_
 obtain rfl := oi h
 exact er [(.p (.agg #[.int .i64 (w64 (a0.1 + (w64 (a1 * a0.2)))), .int .i64 a0.2]), 4)]
theorem yfk {a0 : Qr} {a1 : Qr}  {r : (Qr × Bool)} (h : yvc a0 a1 = some r) : Meets Tryz.prog 42 [.v (vRt a0), .v (vRt a1)] { vals := [.p (vRt r.1), .p (.bool r.2)] } := by
 refine mo Tryz.func42 [(0, .p (vRt a0)), (1, .p (vRt a1))] ?_
 unfold yvc at h
 refine kG [(2, .box (eRt a0)), (3, .box (eRt a1)), (4, .box zR)] [] trivial ?_
 obtain ⟨v1, hv1, h⟩ := bs h
 refine kG [(4, .box (eRt v1.1)), (5, .p (.bool v1.2))] [(16, (cN [.p (vRt v1.1), .p (.bool v1.2)]))] (A1 (yfe hv1)) ?_
 refine yva ?_
 obtain rfl := oi h
 exact er [(.p (vRt v1.1), 4), (.p (.bool v1.2), 5)]
theorem yuo {a0 : Cu} {a1 : Int}  {r : ((List Qp) × Cu)} (h : yle a0 a1 = some r) : MeetsB Tryz.prog 94 (.box (eCu a0)) [wI a1] [.ov true (oP 57 r.1)] (.box (eCu r.2)) := by
 refine mob Tryz.func94 [(0, .box (eCu a0)), (1, .p (iV a1))] ?_
 unfold yle at h
 refine kG [(0, .box (eCu a0)), (1, .p (iV a1)), (4, .box (oN 57))] [] trivial ?_
 obtain ⟨v1, hv1, h⟩ := bs h
 refine kG [(0, .box (eCu v1.2)), (1, .p (iV a1)), (4, .box (oN 57)), (5, .p (iV v1.1))] [(2, {lend := some (some [.d false [.sl none (([0, 1, 1, 2, 3]).map eI)]], [.p (iV v1.1)], .box (eCu v1.2), false), fix := some (17, .d false [.sl none (([0, 1, 1, 2, 3]).map eI)])})] (A3 (show ([.d false [.sl none (eraL (([0, 1, 1, 2, 3]).map eI))]] : List Arg) = [.d false [.sl none (([0, 1, 1, 2, 3]).map eI)]] from (by simp only [yza (h := eI) er_I])) (ysa hv1) (show (SV.d false (eraR [.sl (some 3) (([0, 1, 1, 2, 3]).map eI)]) : SV) = .d false [.sl none (([0, 1, 1, 2, 3]).map eI)] from (congrArg (fun z => SV.d false z) (yul (yza er_I) rfl)))) ?_
 refine yhd (J := fun (x : ((List Int) × Int × Int × Int)) => [(0, .box (eCu (x.1, x.2.1, x.2.2.1))), (1, .p (iV a1)), (4, .box (oN 57)), (5, .p (iV x.2.2.2))]) (K := fun x => yxb a1 x = some r) (fun x2 h => ?_) ?_
 ·unfold yxb at h
  obtain ⟨v3, hv3, h⟩ := bs h
  obtain ⟨v4, hv4, h⟩ := bs h
  refine kG [(0, .box (eCu (x2.1, x2.2.1, x2.2.2.1))), (1, .p (iV a1)), (4, .box (oN 57)), (5, .p (iV x2.2.2.2)), (6, .d false [.sl none (([v3, v4]).map eRt)])] [(0, (cN [.p (vRt v3)])), (1, (cN [.p (vRt v4)])), (3, {pre := some (23, .d false [.sl none (([v3, v4]).map eRt)])})] (A3 (yub hv3) (yub hv4) (show (SV.d false (eraR [.sl (some 27) (([v3, v4]).map eRt)]) : SV) = .d false [.sl none (([v3, v4]).map eRt)] from (congrArg (fun z => SV.d false z) (yul (yza (ysm er_I er_I)) rfl)))) ?_
  refine yhd (J := fun (x : ((List Int) × Int × Int × (List Qr))) => [(0, .box (eCu (x.1, x.2.1, x.2.2.1))), (1, .p (iV a1)), (4, .box (oN 57)), (6, .d false [.sl none (x.2.2.2.map eRt)])]) (K := fun x => yke a1 x = some r) (fun x5 h => ?_) ?_
  ·unfold yke at h
   obtain ⟨v6, hv6, h⟩ := bs h
   refine kG [(0, .box (eCu v6.2)), (1, .p (iV a1)), (4, .box (oN 57)), (6, .d false [.sl none (x5.2.2.2.map eRt)]), (8, .box (eRt v6.1))] [(2, (lNf [.p (vRt v6.1)] (.box (eCu v6.2))))] (A1 (yve hv6)) ?_
   refine yhd (J := fun (x : ((List Int) × Int × Int × Int × Int)) => [(0, .box (eCu (x.1, x.2.1, x.2.2.1))), (1, .p (iV a1)), (4, .box (oN 57)), (6, .d false [.sl none (x5.2.2.2.map eRt)]), (8, .box (eRt x.2.2.2))]) (K := fun x => ywb a1 x5 x = some r) (fun x7 h => ?_) ?_
   ·unfold ywb at h
    refine kG [(0, .box (eCu (x7.1, x7.2.1, x7.2.2.1))), (1, .p (iV a1)), (4, .box (oN 57)), (6, .d false [.sl none (x5.2.2.2.map eRt)]), (8, .box (eRt x7.2.2.2)), (9, .ov false [.sl (some 3) (([0]).map eI)])] [] trivial ?_
    refine yhd (J := fun (x : ((List Int) × Int × Int × (List Int))) => [(0, .box (eCu (x.1, x.2.1, x.2.2.1))), (1, .p (iV a1)), (4, .box (oN 57)), (6, .d false [.sl none (x5.2.2.2.map eRt)]), (8, .box (eRt x7.2.2.2)), (9, .ov false [.sl (some 3) (x.2.2.2.map eI)])]) (K := fun x => ywc a1 x5 x7 x = some r) (fun x8 h => ?_) ?_
    ·unfold ywc at h
     refine kG [(0, .box (eCu (x8.1, x8.2.1, x8.2.2.1))), (1, .p (iV a1)), (4, .box (oN 57)), (6, .d false [.sl none (x5.2.2.2.map eRt)]), (8, .box (eRt x7.2.2.2)), (9, .ov false [.sl (some 3) (x8.2.2.2.map eI)]), (10, .ov false (oN 57))] [] trivial ?_
     refine yhd (J := fun (x : (List Qp)) => [(0, .box (eCu (x8.1, x8.2.1, x8.2.2.1))), (4, .box (oN 57)), (10, .ov false (oP 57 x))]) (K := fun x => yje x8 x = some r) (fun x9 h => ?_) ?_
     ·unfold yje at h
      refine kG [(0, .box (eCu (x8.1, x8.2.1, x8.2.2.1))), (4, .box (oP 57 x9))] [] trivial ?_
      refine yva ?_
      obtain rfl := oi h
      exact ebr [(.ov true (oP 57 x9), 4)]
     refine kG [(0, .box (eCu (x8.1, x8.2.1, x8.2.2.1))), (1, .p (iV a1)), (4, .box (oN 57)), (6, .d false [.sl none (x5.2.2.2.map eRt)]), (8, .box (eRt x7.2.2.2)), (9, .ov false [.sl (some 3) (x8.2.2.2.map eI)]), (10, .ov false (oN 57)), (71, .d false [.sl none (x5.2.2.2.map eRt)]), (72, .p (iV (x5.2.2.2.length : Int))), (73, .p (iV 0))] [(1, {n := some x5.2.2.2.length})] (A1 (show (x5.2.2.2.map eRt).length = x5.2.2.2.length from (List.length_map ..))) ?_
     refine ywa ?_
     obtain ⟨y11, hl_x10, hk_x10⟩ := bs h
     clear h
     refine yuh (J := fun (x : ((List Qp) × Int)) => [(0, .box (eCu (x8.1, x8.2.1, x8.2.2.1))), (1, .p (iV a1)), (4, .box (oN 57)), (6, .d false [.sl none (x5.2.2.2.map eRt)]), (8, .box (eRt x7.2.2.2)), (9, .ov false [.sl (some 3) (x8.2.2.2.map eI)]), (10, .ov false (oP 57 x.1)), (71, .d false [.sl none (x5.2.2.2.map eRt)]), (72, .p (iV (x5.2.2.2.length : Int))), (73, .p (iV x.2))]) hl_x10 wkk (fun x10 o_x10 h hy_x10 => ?_)
     unfold ytg at h
     refine kG [(0, .box (eCu (x8.1, x8.2.1, x8.2.2.1))), (1, .p (iV a1)), (4, .box (oN 57)), (6, .d false [.sl none (x5.2.2.2.map eRt)]), (8, .box (eRt x7.2.2.2)), (9, .ov false [.sl (some 3) (x8.2.2.2.map eI)]), (10, .ov false (oP 57 x10.1)), (71, .d false [.sl none (x5.2.2.2.map eRt)]), (72, .p (iV (x5.2.2.2.length : Int))), (73, .p (iV x10.2)), (74, .p (.bool (decide (x10.2 < (x5.2.2.2.length : Int)))))] [] trivial ?_
     refine yqb (kc (decide (x10.2 < (x5.2.2.2.length : Int))) (fun hc5_11 => ?_) (fun hc5_11 => ?_))
     ·replace h := yma hc5_11 h
      refine yja (q_n (yqb (ywa ?_)))
      obtain ⟨v13, hv13, h⟩ := bs h
      refine kG [(0, .box (eCu (x8.1, x8.2.1, x8.2.2.1))), (1, .p (iV a1)), (4, .box (oN 57)), (6, .d false [.sl none (x5.2.2.2.map eRt)]), (8, .box (eRt x7.2.2.2)), (9, .ov false [.sl (some 3) (x8.2.2.2.map eI)]), (10, .ov false (oP 57 x10.1)), (11, .p (iV x10.2)), (12, .box (eRt v13)), (71, .d false [.sl none (x5.2.2.2.map eRt)]), (72, .p (iV (x5.2.2.2.length : Int))), (73, .p (iV x10.2))] [(1, {row := some (eRt v13)})] (A2 (yba hv13).1 (yia eRt (yba hv13).2)) ?_
      refine kG [(0, .box (eCu (x8.1, x8.2.1, x8.2.2.1))), (1, .p (iV a1)), (4, .box (oN 57)), (6, .d false [.sl none (x5.2.2.2.map eRt)]), (8, .box (eRt x7.2.2.2)), (9, .ov false [.sl (some 3) (x8.2.2.2.map eI)]), (10, .ov false (oP 57 x10.1)), (11, .p (iV x10.2)), (12, .box (eRt v13)), (13, .box (eRt x7.2.2.2)), (71, .d false [.sl none (x5.2.2.2.map eRt)]), (72, .p (iV (x5.2.2.2.length : Int))), (73, .p (iV x10.2))] [] trivial ?_
      refine yhd (J := fun (x : Qr) => [(0, .box (eCu (x8.1, x8.2.1, x8.2.2.1))), (1, .p (iV a1)), (4, .box (oN 57)), (6, .d false [.sl none (x5.2.2.2.map eRt)]), (8, .box (eRt x7.2.2.2)), (9, .ov false [.sl (some 3) (x8.2.2.2.map eI)]), (10, .ov false (oP 57 x10.1)), (12, .box (eRt v13)), (13, .box (eRt x)), (71, .d false [.sl none (x5.2.2.2.map eRt)]), (72, .p (iV (x5.2.2.2.length : Int))), (73, .p (iV x10.2))]) (K := fun x => ylb x10 v13 x = some o_x10) (fun x14 h => ?_) ?_
      ·unfold ylb at h
       obtain ⟨u15, hu15, h⟩ := bs h
       refine yff (r_gq [(0, .box (eCu (x8.1, x8.2.1, x8.2.2.1))), (1, .p (iV a1)), (4, .box (oN 57)), (6, .d false [.sl none (x5.2.2.2.map eRt)]), (8, .box (eRt x7.2.2.2)), (9, .ov false [.sl (some 3) (x8.2.2.2.map eI)]), (10, .ov false (oP 57 (x10.1 ++ [(v13, x14)]))), (71, .d false [.sl none (x5.2.2.2.map eRt)]), (72, .p (iV (x5.2.2.2.length : Int))), (73, .p (iV x10.2))] [(5, {fix := some (108, .ov false (oP 57 (x10.1 ++ [(v13, x14)])))})] (A3 (show List.length ((x10.1.map ePt) : List (List C)) + List.length ((([(v13, x14)]).map ePt) : List (List C)) ≤ 1099511627776 from (by have hg := (yea hu15); simpa using hg)) (show ∀ row ∈ ((([(v13, x14)]).map ePt) : List (List C)), row.length = 4 from (ydg fun _ => rfl)) (show (SV.ov false [.sl (some 57) ((x10.1.map ePt) ++ (([(v13, x14)]).map ePt))] : SV) = .ov false (oP 57 (x10.1 ++ [(v13, x14)])) from (congrArg (fun z => SV.ov false [.sl (some 57) z]) (List.map_append ..).symm)))) ?_
       refine b_n (q_n (yff (r_gq [(0, .box (eCu (x8.1, x8.2.1, x8.2.2.1))), (1, .p (iV a1)), (4, .box (oN 57)), (6, .d false [.sl none (x5.2.2.2.map eRt)]), (8, .box (eRt x7.2.2.2)), (9, .ov false [.sl (some 3) (x8.2.2.2.map eI)]), (10, .ov false (oP 57 (x10.1 ++ [(v13, x14)]))), (71, .d false [.sl none (x5.2.2.2.map eRt)]), (72, .p (iV (x5.2.2.2.length : Int))), (73, .p (iV (w64 (x10.2 + 1))))] [] trivial) ?_))
       exact lqn ((x10.1 ++ [(v13, x14)]), (w64 (x10.2 + 1))) h
      refine kG [(0, .box (eCu (x8.1, x8.2.1, x8.2.2.1))), (1, .p (iV a1)), (4, .box (oN 57)), (6, .d false [.sl none (x5.2.2.2.map eRt)]), (8, .box (eRt x7.2.2.2)), (9, .ov false [.sl (some 3) (x8.2.2.2.map eI)]), (10, .ov false (oP 57 x10.1)), (11, .p (iV x10.2)), (12, .box (eRt v13)), (13, .box (eRt x7.2.2.2)), (71, .d false [.sl none (x5.2.2.2.map eRt)]), (72, .p (iV (x5.2.2.2.length : Int))), (73, .p (iV x10.2)), (83, .p (.bool ((w64 (x10.2 + 1)) == (x5.2.2.2.length : Int))))] [(3, {n := some x5.2.2.2.length})] (A1 (show (x5.2.2.2.map eRt).length = x5.2.2.2.length from (List.length_map ..))) ?_
      refine kc ((w64 (x10.2 + 1)) == (x5.2.2.2.length : Int)) (fun hc7_15 => ?_) (fun hc7_15 => ?_)
      ·obtain ⟨v17, hv17, h⟩ := bs (yma hc7_15 h)
       refine yff (r_gq [(0, .box (eCu (x8.1, x8.2.1, x8.2.2.1))), (1, .p (iV a1)), (4, .box (oN 57)), (6, .d false [.sl none (x5.2.2.2.map eRt)]), (8, .box (eRt x7.2.2.2)), (9, .ov false [.sl (some 3) (x8.2.2.2.map eI)]), (10, .ov false (oP 57 x10.1)), (12, .box (eRt v13)), (13, .box (eRt v17)), (71, .d false [.sl none (x5.2.2.2.map eRt)]), (72, .p (iV (x5.2.2.2.length : Int))), (73, .p (iV x10.2))] [(1, (cN [.p (vRt v17)]))] (A1 (yid hv17))) ?_
       refine q_n ?_
       exact jx v17 h
      replace h := yna hc7_15 h
      refine kG [(0, .box (eCu (x8.1, x8.2.1, x8.2.2.1))), (1, .p (iV a1)), (4, .box (oN 57)), (6, .d false [.sl none (x5.2.2.2.map eRt)]), (8, .box (eRt x7.2.2.2)), (9, .ov false [.sl (some 3) (x8.2.2.2.map eI)]), (10, .ov false (oP 57 x10.1)), (11, .p (iV x10.2)), (12, .box (eRt v13)), (13, .box (eRt x7.2.2.2)), (71, .d false [.sl none (x5.2.2.2.map eRt)]), (72, .p (iV (x5.2.2.2.length : Int))), (73, .p (iV x10.2)), (87, .p (.bool (decide (x10.2 > 0))))] [] trivial ?_
      refine kc (decide (x10.2 > 0)) (fun hc7_17 => ?_) (fun hc7_17 => ?_)
      ·obtain ⟨v19, hv19, h⟩ := bs (yma hc7_17 h)
       obtain ⟨v20, hv20, h⟩ := bs h
       refine kG [(0, .box (eCu (x8.1, x8.2.1, x8.2.2.1))), (1, .p (iV a1)), (4, .box (oN 57)), (6, .d false [.sl none (x5.2.2.2.map eRt)]), (8, .box (eRt x7.2.2.2)), (9, .ov false [.sl (some 3) (x8.2.2.2.map eI)]), (10, .ov false (oP 57 x10.1)), (12, .box (eRt v13)), (13, .box (eRt x7.2.2.2)), (14, .box (eRt v20.1)), (71, .d false [.sl none (x5.2.2.2.map eRt)]), (72, .p (iV (x5.2.2.2.length : Int))), (73, .p (iV x10.2))] [(2, {row := some (eI v19)}), (3, {row := some (eI v19)}), (5, (cN [.p (vRt v20.1), .p (.bool v20.2)]))] (A4 (yba hv19).1 (yia eI (yba hv19).2) (show getRow [[.sl (some 3) (x8.2.2.2.map eI)]] [(0, 0), ((Int.toNat x10.2), 0)] = some (eI v19) from ((gr0 rfl).trans (gre (yia eI (yba hv19).2)))) (yfe hv20)) ?_
       obtain ⟨v21, hv21, h⟩ := bs h
       refine yff (r_gq [(0, .box (eCu (x8.1, x8.2.1, x8.2.2.1))), (1, .p (iV a1)), (4, .box (oN 57)), (6, .d false [.sl none (x5.2.2.2.map eRt)]), (8, .box (eRt x7.2.2.2)), (9, .ov false [.sl (some 3) (x8.2.2.2.map eI)]), (10, .ov false (oP 57 x10.1)), (12, .box (eRt v13)), (13, .box (eRt v21.1)), (71, .d false [.sl none (x5.2.2.2.map eRt)]), (72, .p (iV (x5.2.2.2.length : Int))), (73, .p (iV x10.2))] [(2, (cN [.p (vRt v21.1), .p (.bool v21.2)]))] (A1 (yfk hv21))) ?_
       refine q_n ?_
       exact jx v21.1 h
      replace h := yna hc7_17 h
      refine yja (q_n ?_)
      exact jx x7.2.2.2 h
     replace h := yna hc5_11 h
     refine ykg (q_x (lq_x (b_x ?_)))
     have hyy := hy_x10 _ (oi h).symm
     subst hyy
     have h := hk_x10
     refine q_n ?_
     exact jx x10.1 h
    refine ywa ?_
    obtain ⟨y23, hl_x22, hk_x22⟩ := bs h
    clear h
    refine yuh (J := fun (x : ((List Int) × Int × Int × (List Int))) => [(0, .box (eCu (x.1, x.2.1, x.2.2.1))), (1, .p (iV a1)), (4, .box (oN 57)), (6, .d false [.sl none (x5.2.2.2.map eRt)]), (8, .box (eRt x7.2.2.2)), (9, .ov false [.sl (some 3) (x.2.2.2.map eI)])]) hl_x22 wkk (fun x22 o_x22 h hy_x22 => ?_)
    unfold yug at h
    refine yqb (kG [(0, .box (eCu (x22.1, x22.2.1, x22.2.2.1))), (1, .p (iV a1)), (4, .box (oN 57)), (6, .d false [.sl none (x5.2.2.2.map eRt)]), (8, .box (eRt x7.2.2.2)), (9, .ov false [.sl (some 3) (x22.2.2.2.map eI)]), (56, .p (.bool (decide ((x22.2.2.2.length : Int) < (w64 ((x5.2.2.2.length : Int) - 1))))))] [(1, {n := some x22.2.2.2.length}), (3, {n := some x5.2.2.2.length})] (A2 (show (x22.2.2.2.map eI).length = x22.2.2.2.length from (List.length_map ..)) (show (x5.2.2.2.map eRt).length = x5.2.2.2.length from (List.length_map ..))) ?_)
    refine kc (decide ((x22.2.2.2.length : Int) < (w64 ((x5.2.2.2.length : Int) - 1)))) (fun hc5_23 => ?_) (fun hc5_23 => ?_)
    ·replace h := yma hc5_23 h
     refine yja (q_n (ywa ?_))
     obtain ⟨v25, hv25, h⟩ := bs h
     obtain ⟨v26, hv26, h⟩ := bs h
     obtain ⟨v27, hv27, h⟩ := bs h
     obtain ⟨u28, hu28, h⟩ := bs h
     refine yff (r_dq yca 13 [(10, 0)] [(0, .box (eCu v26.2)), (1, .p (iV a1)), (4, .box (oN 57)), (6, .d false [.sl none (x5.2.2.2.map eRt)]), (8, .box (eRt x7.2.2.2)), (9, .ov false [.sl (some 3) ((x22.2.2.2 ++ [v27]).map eI)])] [(3, {n := some x22.2.2.2.length}), (5, {row := some (eI v25)}), (6, {row := some (eI v25)}), (10, (lNf [.p (iV v26.1)] (.box (eCu v26.2)))), (11, (cN [.p (iV v27)])), (13, {fix := some (70, .ov false [.sl (some 3) ((x22.2.2.2 ++ [v27]).map eI)])})] (B6 (show (x22.2.2.2.map eI).length = x22.2.2.2.length from (List.length_map ..)) (yba hv25).1 (yia eI (yba hv25).2) (show getRow [[.sl (some 3) (x22.2.2.2.map eI)]] [(0, 0), ((Int.toNat (w64 ((x22.2.2.2.length : Int) - 1))), 0)] = some (eI v25) from ((gr0 rfl).trans (gre (yia eI (yba hv25).2)))) (yla hv26) (yzr hv27) (A3 (show List.length ((x22.2.2.2.map eI) : List (List C)) + List.length ((([v27]).map eI) : List (List C)) ≤ 1099511627776 from (by have hg := (yea hu28); simpa using hg)) (show ∀ row ∈ ((([v27]).map eI) : List (List C)), row.length = 1 from (ydg fun _ => rfl)) (show (SV.ov false [.sl (some 3) ((x22.2.2.2.map eI) ++ (([v27]).map eI))] : SV) = .ov false [.sl (some 3) ((x22.2.2.2 ++ [v27]).map eI)] from (congrArg (fun z => SV.ov false [.sl (some 3) z]) (List.map_append ..).symm))))) ?_
     refine b_n ?_
     exact lqn (v26.2.1, v26.2.2.1, v26.2.2.2, (x22.2.2.2 ++ [v27])) h
    replace h := yna hc5_23 h
    refine ykg (q_x (lq_x (b_x ?_)))
    have hyy := hy_x22 _ (oi h).symm
    subst hyy
    have h := hk_x22
    refine q_n ?_
    exact jx x22 h
   obtain ⟨v29, hv29, h⟩ := bs h
   refine kG [(0, .box (eCu v29.2)), (1, .p (iV a1)), (4, .box (oN 57)), (6, .d false [.sl none (x5.2.2.2.map eRt)]), (8, .box (eRt v6.1)), (44, .p (.bool v29.1))] [(1, (lNf [.p (.bool v29.1)] (.box (eCu v29.2))))] (A1 (yrf hv29)) ?_
   refine kc v29.1 (fun hc2_29 => ?_) (fun hc2_29 => ?_)
   ·obtain ⟨v31, hv31, h⟩ := bs (yma hc2_29 h)
    obtain ⟨v32, hv32, h⟩ := bs h
    refine yff (r_dq yca 4 [(3, 0)] [(0, .box (eCu v31.2)), (1, .p (iV a1)), (4, .box (oN 57)), (6, .d false [.sl none (x5.2.2.2.map eRt)]), (8, .box (eRt v32))] [(2, {pre := some (0, .u), fix := some (47, .d false [.sl none (([(-5), (-1), 1, 3]).map eI)])}), (3, (lNf [.p (iV v31.1)] (.box (eCu v31.2)))), (4, (cN [.p (vRt v32)]))] (A3 (show (SV.d false (eraR [.sl (some 3) (([(-5), (-1), 1, 3]).map eI)]) : SV) = .d false [.sl none (([(-5), (-1), 1, 3]).map eI)] from (congrArg (fun z => SV.d false z) (yul (yza er_I) rfl))) (ysa hv31) (yid hv32))) ?_
    refine q_n ?_
    exact jx (v31.2.1, v31.2.2.1, v31.2.2.2, v32.1, v32.2) h
   replace h := yna hc2_29 h
   refine yja (q_n ?_)
   exact jx (v29.2.1, v29.2.2.1, v29.2.2.2, v6.1.1, v6.1.2) h
  refine kG [(0, .box (eCu (x2.1, x2.2.1, x2.2.2.1))), (1, .p (iV a1)), (4, .box (oN 57)), (5, .p (iV x2.2.2.2)), (6, .d false [.sl none (([v3, v4]).map eRt)]), (7, .p (iV 0))] [] trivial ?_
  refine ywa ?_
  obtain ⟨y34, hl_x33, hk_x33⟩ := bs h
  clear h
  refine yuh (J := fun (x : ((List Int) × Int × Int × (List Qr) × Int)) => [(0, .box (eCu (x.1, x.2.1, x.2.2.1))), (1, .p (iV a1)), (4, .box (oN 57)), (5, .p (iV x2.2.2.2)), (6, .d false [.sl none (x.2.2.2.1.map eRt)]), (7, .p (iV x.2.2.2.2))]) hl_x33 wkk (fun x33 o_x33 h hy_x33 => ?_)
  unfold yvg at h
  refine yqb (yya (l1 := [(0, .box (eCu (x33.1, x33.2.1, x33.2.2.1))), (1, .p (iV a1)), (4, .box (oN 57)), (5, .p (iV x2.2.2.2)), (6, .d false [.sl none (x33.2.2.2.1.map eRt)]), (7, .p (iV x33.2.2.2.2)), (32, .p (.bool ((decide ((x33.2.2.2.1.length : Int) < (w64 (x2.2.2.2 + 2)))) && (decide (x33.2.2.2.2 < 60)))))]) ?_ ?_)
  ·rcases ft (decide ((x33.2.2.2.1.length : Int) < (w64 (x2.2.2.2 + 2)))) with ha0 | ha0
   ·exact RegOk.of_eq (l2 := [(0, .box (eCu (x33.1, x33.2.1, x33.2.2.1))), (1, .p (iV a1)), (4, .box (oN 57)), (5, .p (iV x2.2.2.2)), (6, .d false [.sl none (x33.2.2.2.1.map eRt)]), (7, .p (iV x33.2.2.2.2)), (32, .p (.bool ((decide ((x33.2.2.2.1.length : Int) < (w64 (x2.2.2.2 + 2)))) && (decide (x33.2.2.2.2 < 60)))))]) (r_gq [(0, .box (eCu (x33.1, x33.2.1, x33.2.2.1))), (1, .p (iV a1)), (4, .box (oN 57)), (5, .p (iV x2.2.2.2)), (6, .d false [.sl none (x33.2.2.2.1.map eRt)]), (7, .p (iV x33.2.2.2.2)), (32, .p (.bool (decide (x33.2.2.2.2 < 60))))] [(1, {n := some x33.2.2.2.1.length}), (6, gT), (7, gT), (8, bT)] (A4 (show (x33.2.2.2.1.map eRt).length = x33.2.2.2.1.length from (List.length_map ..)) ha0 ha0 ha0)) (by simp [ha0])
   exact RegOk.of_eq (l2 := [(0, .box (eCu (x33.1, x33.2.1, x33.2.2.1))), (1, .p (iV a1)), (4, .box (oN 57)), (5, .p (iV x2.2.2.2)), (6, .d false [.sl none (x33.2.2.2.1.map eRt)]), (7, .p (iV x33.2.2.2.2)), (32, .p (.bool ((decide ((x33.2.2.2.1.length : Int) < (w64 (x2.2.2.2 + 2)))) && (decide (x33.2.2.2.2 < 60)))))]) (r_gq [(0, .box (eCu (x33.1, x33.2.1, x33.2.2.1))), (1, .p (iV a1)), (4, .box (oN 57)), (5, .p (iV x2.2.2.2)), (6, .d false [.sl none (x33.2.2.2.1.map eRt)]), (7, .p (iV x33.2.2.2.2)), (32, .p (.bool false))] [(1, {n := some x33.2.2.2.1.length}), (6, gF), (7, gF), (8, bF)] (A4 (show (x33.2.2.2.1.map eRt).length = x33.2.2.2.1.length from (List.length_map ..)) ha0 ha0 ha0)) (by simp [ha0])
  refine kc ((decide ((x33.2.2.2.1.length : Int) < (w64 (x2.2.2.2 + 2)))) && (decide (x33.2.2.2.2 < 60))) (fun hc5_34 => ?_) (fun hc5_34 => ?_)
  ·replace h := yma hc5_34 h
   refine yja (q_n (yqb (ywa ?_)))
   obtain ⟨v36, hv36, h⟩ := bs h
   obtain ⟨v37, hv37, h⟩ := bs h
   refine yff (r_gq [(0, .box (eCu v36.2)), (1, .p (iV a1)), (4, .box (oN 57)), (5, .p (iV x2.2.2.2)), (6, .d false [.sl none (v37.map eRt)]), (7, .p (iV x33.2.2.2.2))] [(3, (lNf [.p (vRt v36.1)] (.box (eCu v36.2)))), (4, {call := some (none, [.d false [.sl none (v37.map eRt)]], false)})] (A2 (yve hv36) (ywz hv37))) ?_
   refine b_n (q_n (yff (r_gq [(0, .box (eCu v36.2)), (1, .p (iV a1)), (4, .box (oN 57)), (5, .p (iV x2.2.2.2)), (6, .d false [.sl none (v37.map eRt)]), (7, .p (iV (w64 (x33.2.2.2.2 + 1))))] [] trivial) ?_))
   exact lqn (v36.2.1, v36.2.2.1, v36.2.2.2, v37, (w64 (x33.2.2.2.2 + 1))) h
  replace h := yna hc5_34 h
  refine ykg (q_x (lq_x (b_x ?_)))
  have hyy := hy_x33 _ (oi h).symm
  subst hyy
  have h := hk_x33
  refine q_n ?_
  exact jx (x33.1, x33.2.1, x33.2.2.1, x33.2.2.2.1) h
 obtain ⟨v38, hv38, h⟩ := bs h
 refine kG [(0, .box (eCu v38.2)), (1, .p (iV a1)), (4, .box (oN 57)), (5, .p (iV v1.1)), (20, .p (.bool v38.1))] [(1, (lNf [.p (.bool v38.1)] (.box (eCu v38.2))))] (A1 (yrf hv38)) ?_
 refine kc v38.1 (fun hc2_38 => ?_) (fun hc2_38 => ?_)
 ·replace h := yma hc2_38 h
  refine yff (r_gq [(0, .box (eCu v38.2)), (1, .p (iV a1)), (4, .box (oN 57)), (5, .p (iV 10))] [] trivial) ?_
  refine q_n ?_
  exact jx (v38.2.1, v38.2.2.1, v38.2.2.2, 10) h
 replace h := yna hc2_38 h
 refine yja (q_n ?_)
 exact jx (v38.2.1, v38.2.2.1, v38.2.2.2, v1.1) h
theorem yas {a0 : Qr}  {r : Bool} (h : ynn a0 = some r) : Meets Tryz.prog 113 [.v (vRt a0)] { vals := [.p (.bool r)] } := by
 refine mo Tryz.func113 [(0, .p (vRt a0))] ?_
 unfold ynn at h
 refine kG [(1, .box (eRt a0))] [] trivial ?_
 obtain ⟨v1, hv1, h⟩ := bs h
 obtain ⟨w3, hw3, h⟩ := bs h
 refine yya (l1 := [(2, .p (.bool w3))]) ?_ ?_
 ·clear h
  rcases ft v1 with ha0 | ha0
  ·obtain ⟨v2, hv2, hw3⟩ := bs (yma ha0 hw3)
   have hw3 := oi hw3
   subst hw3
   exact (r_gq [(2, .p (.bool v2))] [(1, (cN [.p (.bool v1)])), (3, gT), (4, gT), (5, gT), (6, gT), (7, {g := some true, call := some (none, [.p (.bool v2)], true)}), (8, bT)] (B6 (yqc hv1) ha0 ha0 ha0 ha0 ha0 (A2 (ycd hv2) ha0)))
  replace hw3 := yna ha0 hw3
  have hw3 := oi hw3
  subst hw3
  exact (r_gq [(2, .p (.bool false))] [(1, (cN [.p (.bool v1)])), (3, gF), (4, gF), (5, gF), (6, gF), (7, gF), (8, bF)] (B6 (yqc hv1) ha0 ha0 ha0 ha0 ha0 (A1 ha0)))
 refine yva ?_
 obtain rfl := oi h
 exact er [(.p (.bool w3), 2)]
theorem yak {a0 : Qr}  {r : Bool} (h : yuj a0 = some r) : Meets Tryz.prog 80 [.v (vRt a0)] { vals := [.p (.bool r)] } := by
 refine mo Tryz.func80 [(0, .p (vRt a0))] ?_
 unfold yuj at h
 refine kG [(1, .box (eRt a0))] [] trivial ?_
 obtain ⟨v1, hv1, h⟩ := bs h
 refine yya (l1 := [(2, .p (.bool (v1 && (decide (a0.2 ≤ 100)))))]) ?_ ?_
 ·rcases ft v1 with ha0 | ha0
  ·exact RegOk.of_eq (l2 := [(2, .p (.bool (v1 && (decide (a0.2 ≤ 100)))))]) (r_gq [(2, .p (.bool (decide (a0.2 ≤ 100))))] [(1, (cN [.p (.bool v1)])), (3, gT), (4, gT), (5, gT), (6, bT)] (A5 (yas hv1) ha0 ha0 ha0 ha0)) (by simp [ha0])
  exact RegOk.of_eq (l2 := [(2, .p (.bool (v1 && (decide (a0.2 ≤ 100)))))]) (r_gq [(2, .p (.bool false))] [(1, (cN [.p (.bool v1)])), (3, gF), (4, gF), (5, gF), (6, bF)] (A5 (yas hv1) ha0 ha0 ha0 ha0)) (by simp [ha0])
 refine yva ?_
 obtain rfl := oi h
 exact er [(.p (.bool (v1 && (decide (a0.2 ≤ 100)))), 2)]
theorem yrc {a0 : (List Qp)}  {r : Bool} (h : yzc a0 = some r) : Meets Tryz.prog 33 [.d true (sP a0)] { vals := [.p (.bool r)] } := by
 refine mo Tryz.func33 [(0, .d true (sP a0))] ?_
 unfold yzc at h
 refine kG [(1, .box (sP a0))] [] trivial ?_
 refine kG [(1, .box (sP a0)), (3, .p (iV (a0.length : Int)))] [(1, bT), (2, {n := some a0.length})] (A2 (frE a0) (lnP a0)) ?_
 refine yqb ?_
 obtain ⟨v1, hv1, h⟩ := bs h
 refine kG [(1, .box (sP a0)), (3, .p (iV (a0.length : Int))), (13, .p (.bool (!v1)))] [(1, (cN [.p (.bool v1)]))] (A1 (ycd hv1)) ?_
 refine kc (!v1) (fun hc2_1 => ?_) (fun hc2_1 => ?_)
 ·replace h := yma hc2_1 h
  refine kG [(2, .p (.bool false))] [] trivial ?_
  refine yva (q_r ?_)
  obtain rfl := oi h
  exact er [(.p (.bool false), 2)]
 replace h := yna hc2_1 h
 refine yja (q_n (yhd (J := fun (x : Unit) => [(1, .box (sP a0)), (3, .p (iV (a0.length : Int)))]) (K := fun x => ycj a0 x = some r) (fun x3 h => ?_) ?_))
 ·unfold ycj at h
  obtain ⟨v4, hv4, h⟩ := bs h
  obtain ⟨v5, hv5, h⟩ := bs h
  refine yya (r_dq yca 13 [(12, 6)] [(6, .box (ePt v4)), (7, .box (ePt v5))] [(1, bT), (2, {row := some (ePt v4)}), (5, bT), (8, {row := some (ePt v5)})] (A6 (frE a0) (yba hv4).1 (yia ePt (yba hv4).2) (frE a0) (yba hv5).1 (yia ePt (yba hv5).2))) ?_
  obtain ⟨v6, hv6, h⟩ := bs h
  obtain ⟨v7, hv7, h⟩ := bs h
  obtain ⟨w11, hw11, h⟩ := bs h
  refine yya (l1 := [(2, .p (.bool w11))]) ?_ ?_
  ·clear h
   rcases ft (v7 == 0) with ha1 | ha1
   ·obtain ⟨v8, hv8, hw11⟩ := bs (yma ha1 hw11)
    obtain ⟨v9, hv9, hw11⟩ := bs hw11
    rcases ft (v9 == 0) with ha2 | ha2
    ·obtain ⟨v10, hv10, hw11⟩ := bs (yma ha2 hw11)
     have hw11 := oi hw11
     subst hw11
     exact (r_dq yca 18 [] [(2, .p (.bool ((v5.2.1 == v10.1) && (v5.2.2 == v10.2))))] [(2, (cN [.p (vRt v6)])), (3, (cN [.p (iV v7)])), (6, gT), (7, gT), (8, {g := some true, call := some (none, [.p (vRt v8)], true)}), (9, {g := some true, call := some (none, [.p (iV v9)], true)}), (10, gT), (11, bT), (13, gT), (14, gT), (15, gT), (16, gT), (17, {g := some true, call := some (none, [.p (vRt v10)], true)}), (18, {g := some true, pv := some (.bool ((v5.2.1 == v10.1) && (v5.2.2 == v10.2)))}), (19, bT)] (B6 (yub hv6) (yhb hv7) ha1 ha1 ha1 (yub hv8) (B6 ha1 (yhb hv9) ha1 ha1 ha2 ha2 (B6 ha2 ha2 ha2 (yid hv10) ha2 (show PureAt Tryz.prog (.binOp .eql 27 (.tmp 106) (.tmp 109) 27) [vRt v5.2, vRt v10] (.bool ((v5.2.1 == v10.1) && (v5.2.2 == v10.2))) from (ygg (by kernel_rfl))) (A1 ha2)))))
    replace hw11 := yna ha2 hw11
    have hw11 := oi hw11
    subst hw11
    exact (r_dq yca 18 [] [(2, .p (.bool false))] [(2, (cN [.p (vRt v6)])), (3, (cN [.p (iV v7)])), (6, gT), (7, gT), (8, {g := some true, call := some (none, [.p (vRt v8)], true)}), (9, {g := some true, call := some (none, [.p (iV v9)], true)}), (10, gT), (11, bT), (13, gF), (14, gF), (15, gF), (16, gF), (17, gF), (18, gF), (19, bF)] (B6 (yub hv6) (yhb hv7) ha1 ha1 ha1 (yub hv8) (B6 ha1 (yhb hv9) ha1 ha1 ha2 ha2 (A5 ha2 ha2 ha2 ha2 ha2))))
   replace hw11 := yna ha1 hw11
   have hw11 := oi hw11
   subst hw11
   exact (r_dq yca 18 [] [(2, .p (.bool false))] [(2, (cN [.p (vRt v6)])), (3, (cN [.p (iV v7)])), (6, gF), (7, gF), (8, gF), (9, gF), (10, gF), (11, bF), (13, gF), (14, gF), (15, gF), (16, gF), (17, gF), (18, gF), (19, bF)] (B6 (yub hv6) (yhb hv7) ha1 ha1 ha1 ha1 (B6 ha1 ha1 fF fF fF fF (A3 fF fF fF))))
  refine yva ?_
  obtain rfl := oi h
  exact er [(.p (.bool w11), 2)]
 refine kG [(1, .box (sP a0)), (3, .p (iV (a0.length : Int))), (15, .d false (sP a0)), (16, .p (iV (a0.length : Int))), (17, .p (iV 0))] [(1, bT), (2, {n := some a0.length})] (A2 (frE a0) (lnP a0)) ?_
 refine ywa ?_
 obtain ⟨y13, hl_x12, hk_x12⟩ := bs h
 clear h
 refine yuh (J := fun (x : Int) => [(1, .box (sP a0)), (3, .p (iV (a0.length : Int))), (15, .d false (sP a0)), (16, .p (iV (a0.length : Int))), (17, .p (iV x))]) hl_x12 wkk (fun x12 o_x12 h hy_x12 => ?_)
 unfold ydj at h
 refine kG [(1, .box (sP a0)), (3, .p (iV (a0.length : Int))), (15, .d false (sP a0)), (16, .p (iV (a0.length : Int))), (17, .p (iV x12)), (18, .p (.bool (decide (x12 < (a0.length : Int)))))] [] trivial ?_
 refine yqb (kc (decide (x12 < (a0.length : Int))) (fun hc5_13 => ?_) (fun hc5_13 => ?_))
 ·replace h := yma hc5_13 h
  refine yja (q_n (yqb (ywa ?_)))
  obtain ⟨v15, hv15, h⟩ := bs h
  refine kG [(1, .box (sP a0)), (3, .p (iV (a0.length : Int))), (4, .p (iV x12)), (5, .box (ePt v15)), (15, .d false (sP a0)), (16, .p (iV (a0.length : Int))), (17, .p (iV x12))] [(1, {row := some (ePt v15)})] (A2 (yba hv15).1 (yia ePt (yba hv15).2)) ?_
  refine yqb ?_
  obtain ⟨v16, hv16, h⟩ := bs h
  obtain ⟨w19, hw19, h⟩ := bs h
  refine yya (l1 := [(1, .box (sP a0)), (3, .p (iV (a0.length : Int))), (4, .p (iV x12)), (5, .box (ePt v15)), (15, .d false (sP a0)), (16, .p (iV (a0.length : Int))), (17, .p (iV x12)), (52, .p (.bool w19))]) ?_ ?_
  ·clear h
   rcases ft (!v16) with ha2 | ha2
   ·replace hw19 := yma ha2 hw19
    have hw19 := oi hw19
    subst hw19
    exact (r_gq [(1, .box (sP a0)), (3, .p (iV (a0.length : Int))), (4, .p (iV x12)), (5, .box (ePt v15)), (15, .d false (sP a0)), (16, .p (iV (a0.length : Int))), (17, .p (iV x12)), (52, .p (.bool true))] [(2, (cN [.p (.bool v16)])), (5, gT), (6, gT), (7, gT), (8, gT), (9, bT), (11, gT), (12, gT), (13, gT), (14, gT), (15, bT), (17, gT), (18, gT), (19, gT), (20, gT), (21, gT), (22, gT), (23, gT), (24, gT), (25, gT), (26, gT), (27, gT), (28, gT), (29, gT), (30, bT)] (B6 (yak hv16) ha2 ha2 ha2 ha2 ha2 (B6 tT tT tT tT tT tT (B6 tT tT tT tT tT tT (B6 tT tT tT tT tT tT (A1 tT))))))
   obtain ⟨v17, hv17, hw19⟩ := bs (yna ha2 hw19)
   rcases ft (!v17) with ha3 | ha3
   ·replace hw19 := yma ha3 hw19
    have hw19 := oi hw19
    subst hw19
    exact (r_gq [(1, .box (sP a0)), (3, .p (iV (a0.length : Int))), (4, .p (iV x12)), (5, .box (ePt v15)), (15, .d false (sP a0)), (16, .p (iV (a0.length : Int))), (17, .p (iV x12)), (52, .p (.bool true))] [(2, (cN [.p (.bool v16)])), (5, gF), (6, gF), (7, (gN [.p (.bool v17)])), (8, gF), (9, bF), (11, gT), (12, gT), (13, gT), (14, gT), (15, bT), (17, gT), (18, gT), (19, gT), (20, gT), (21, gT), (22, gT), (23, gT), (24, gT), (25, gT), (26, gT), (27, gT), (28, gT), (29, gT), (30, bT)] (B6 (yak hv16) ha2 ha2 ha2 (yqc hv17) ha2 (B6 ha2 ha3 ha3 ha3 ha3 ha3 (B6 tT tT tT tT tT tT (B6 tT tT tT tT tT tT (A2 tT tT))))))
   replace hw19 := yna ha3 hw19
   rcases ft (decide (v15.2.2 > 100)) with ha4 | ha4
   ·replace hw19 := yma ha4 hw19
    have hw19 := oi hw19
    subst hw19
    exact (r_gq [(1, .box (sP a0)), (3, .p (iV (a0.length : Int))), (4, .p (iV x12)), (5, .box (ePt v15)), (15, .d false (sP a0)), (16, .p (iV (a0.length : Int))), (17, .p (iV x12)), (52, .p (.bool true))] [(2, (cN [.p (.bool v16)])), (5, gF), (6, gF), (7, (gN [.p (.bool v17)])), (8, gF), (9, bF), (11, gF), (12, gF), (13, gF), (14, gF), (15, bF), (17, gT), (18, gT), (19, gT), (20, gT), (21, gT), (22, gT), (23, gT), (24, gT), (25, gT), (26, gT), (27, gT), (28, gT), (29, gT), (30, bT)] (B6 (yak hv16) ha2 ha2 ha2 (yqc hv17) ha2 (B6 ha2 ha3 ha3 ha3 ha3 ha3 (B6 ha4 ha4 ha4 ha4 ha4 ha4 (B6 ha4 ha4 ha4 ha4 ha4 ha4 (A2 ha4 ha4))))))
   obtain ⟨v18, hv18, hw19⟩ := bs (yna ha4 hw19)
   have hw19 := oi hw19
   subst hw19
   exact (r_gq [(1, .box (sP a0)), (3, .p (iV (a0.length : Int))), (4, .p (iV x12)), (5, .box (ePt v15)), (15, .d false (sP a0)), (16, .p (iV (a0.length : Int))), (17, .p (iV x12)), (52, .p (.bool (!v18)))] [(2, (cN [.p (.bool v16)])), (5, gF), (6, gF), (7, (gN [.p (.bool v17)])), (8, gF), (9, bF), (11, gF), (12, gF), (13, gF), (14, gF), (15, bF), (17, gF), (18, gF), (19, gF), (20, gF), (21, gF), (22, gF), (23, gF), (24, gF), (25, gF), (26, gF), (27, gF), (28, (gN [.p (.bool v18)])), (29, gF), (30, bF)] (B6 (yak hv16) ha2 ha2 ha2 (yqc hv17) ha2 (B6 ha2 ha3 ha3 ha3 ha3 ha3 (B6 ha4 ha4 ha4 ha4 ha4 ha4 (B6 ha4 ha4 ha4 ha4 ha4 ha4 (A3 (ycd hv18) ha4 ha4))))))
  refine kc w19 (fun hc7_19 => ?_) (fun hc7_19 => ?_)
  ·replace h := yma hc7_19 h
   refine kG [(2, .p (.bool false))] [] trivial ?_
   refine yva (q_r (b_r (q_r (lq_r ?_))))
   refine b_r (q_r ?_)
   have hyy := hy_x12 _ (oi h).symm
   subst hyy
   have h := hk_x12
   dsimp only [Sum.elim] at h
   obtain rfl := oi h
   exact er [(.p (.bool false), 2)]
  replace h := yna hc7_19 h
  refine yja (q_n ?_)
  obtain ⟨w24, hw24, h⟩ := bs h
  refine yya (l1 := [(1, .box (sP a0)), (3, .p (iV (a0.length : Int))), (15, .d false (sP a0)), (16, .p (iV (a0.length : Int))), (17, .p (iV x12)), (80, .p (.bool w24))]) ?_ ?_
  ·clear h
   rcases ft (decide (x12 > 0)) with ha3 | ha3
   ·obtain ⟨v21, hv21, hw24⟩ := bs (yma ha3 hw24)
    obtain ⟨v22, hv22, hw24⟩ := bs hw24
    rcases ft (decide (v22 ≥ 0)) with ha4 | ha4
    ·replace hw24 := yma ha4 hw24
     have hw24 := oi hw24
     subst hw24
     exact (r_dq yca 24 [] [(1, .box (sP a0)), (3, .p (iV (a0.length : Int))), (15, .d false (sP a0)), (16, .p (iV (a0.length : Int))), (17, .p (iV x12)), (80, .p (.bool true))] [(3, gT), (4, {g := some true, b := some true}), (5, gT), (6, gT), (7, {g := some true, row := some (ePt v21)}), (8, gT), (9, gT), (10, gT), (11, gT), (12, {g := some true, call := some (none, [.p (iV v22)], true)}), (13, gT), (14, gT), (15, gT), (16, gT), (17, gT), (18, gT), (19, gT), (20, gT), (21, gT), (22, gT), (23, gT), (24, gT), (25, gT), (26, {g := some true, b := some true}), (27, bT)] (B6 ha3 ha3 (frE a0) ha3 ha3 ha3 (B6 (yba hv21).1 (yia ePt (yba hv21).2) ha3 ha3 ha3 ha3 (B6 ha3 (yhb hv22) ha3 ha3 ha4 ha4 (B6 ha4 ha4 ha4 ha4 ha4 ha4 (A6 ha4 ha4 ha4 ha3 ha4 ha3))))))
    obtain ⟨v23, hv23, hw24⟩ := bs (yna ha4 hw24)
    have hw24 := oi hw24
    subst hw24
    exact (r_dq yca 24 [] [(1, .box (sP a0)), (3, .p (iV (a0.length : Int))), (15, .d false (sP a0)), (16, .p (iV (a0.length : Int))), (17, .p (iV x12)), (80, .p (.bool (decide (v23 > 0))))] [(3, gT), (4, {g := some true, b := some true}), (5, gT), (6, gT), (7, {g := some true, row := some (ePt v21)}), (8, gT), (9, gT), (10, gT), (11, gT), (12, {g := some true, call := some (none, [.p (iV v22)], true)}), (13, gT), (14, gT), (15, gF), (16, gFbT), (17, gF), (18, gF), (19, {g := some false, row := some (ePt v21)}), (20, gF), (21, gF), (22, gF), (23, gF), (24, (gN [.p (iV v23)])), (25, gF), (26, {g := some true, b := some false}), (27, bT)] (B6 ha3 ha3 (frE a0) ha3 ha3 ha3 (B6 (yba hv21).1 (yia ePt (yba hv21).2) ha3 ha3 ha3 ha3 (B6 ha3 (yhb hv22) ha3 ha3 ha4 ha4 (B6 (frE a0) ha4 ha4 ha4 (yba hv21).1 (yia ePt (yba hv21).2) (B6 ha4 ha4 ha4 ha4 ha4 (yhb hv23) (A4 ha4 ha3 ha4 ha3)))))))
   replace hw24 := yna ha3 hw24
   have hw24 := oi hw24
   subst hw24
   exact (r_dq yca 24 [] [(1, .box (sP a0)), (3, .p (iV (a0.length : Int))), (15, .d false (sP a0)), (16, .p (iV (a0.length : Int))), (17, .p (iV x12)), (80, .p (.bool false))] [(3, gF), (4, gF), (5, gF), (6, gF), (7, gF), (8, gF), (9, gF), (10, gF), (11, gF), (12, gF), (13, gF), (14, gF), (26, gF), (27, bF)] (B6 ha3 ha3 ha3 ha3 ha3 ha3 (B6 ha3 ha3 ha3 ha3 ha3 ha3 (A2 ha3 ha3))))
  refine kc w24 (fun hc6_24 => ?_) (fun hc6_24 => ?_)
  ·replace h := yma hc6_24 h
   refine kG [(2, .p (.bool false))] [] trivial ?_
   refine yva (b_r (q_r (lq_r ?_)))
   refine b_r (q_r ?_)
   have hyy := hy_x12 _ (oi h).symm
   subst hyy
   have h := hk_x12
   dsimp only [Sum.elim] at h
   obtain rfl := oi h
   exact er [(.p (.bool false), 2)]
  replace h := yna hc6_24 h
  refine yja (b_n (q_n (yff (r_gq [(1, .box (sP a0)), (3, .p (iV (a0.length : Int))), (15, .d false (sP a0)), (16, .p (iV (a0.length : Int))), (17, .p (iV (w64 (x12 + 1))))] [] trivial) ?_)))
  exact lqn (w64 (x12 + 1)) h
 replace h := yna hc5_13 h
 refine ykg (q_x (lq_x (b_x ?_)))
 have hyy := hy_x12 _ (oi h).symm
 subst hyy
 have h := hk_x12
 dsimp only [Sum.elim] at h
 refine q_n ?_
 exact jx () h
theorem ybn {a0 : Cu}  {r : ((List Qp) × Cu)} (h : ynd a0 = some r) : MeetsB Tryz.prog 51 (.box (eCu a0)) [] [.ov true (oP 57 r.1)] (.box (eCu r.2)) := by
 refine mob Tryz.func51 [(0, .box (eCu a0))] ?_
 unfold ynd at h
 refine kG [(0, .box (eCu a0)), (2, .box (oN 57))] [] trivial ?_
 obtain ⟨v1, hv1, h⟩ := bs h
 obtain ⟨v2, hv2, h⟩ := bs h
 refine kG [(0, .box (eCu v2.2)), (2, .box (oN 57)), (3, .box (oP 57 v2.1))] [(3, {lend := some (some [.d false [.sl none (([1, 2, 3, 4, 5, 6, 8, 12, 100]).map eI)]], [.p (iV v1.1)], .box (eCu v1.2), false), fix := some (7, .d false [.sl none (([1, 2, 3, 4, 5, 6, 8, 12, 100]).map eI)])}), (4, (lNf [.ov true (oP 57 v2.1)] (.box (eCu v2.2))))] (A4 (show ([.d false [.sl none (eraL (([1, 2, 3, 4, 5, 6, 8, 12, 100]).map eI))]] : List Arg) = [.d false [.sl none (([1, 2, 3, 4, 5, 6, 8, 12, 100]).map eI)]] from (by simp only [yza (h := eI) er_I])) (ysa hv1) (show (SV.d false (eraR [.sl (some 3) (([1, 2, 3, 4, 5, 6, 8, 12, 100]).map eI)]) : SV) = .d false [.sl none (([1, 2, 3, 4, 5, 6, 8, 12, 100]).map eI)] from (congrArg (fun z => SV.d false z) (yul (yza er_I) rfl))) (yuo hv2)) ?_
 refine yqb ?_
 obtain ⟨v3, hv3, h⟩ := bs h
 obtain ⟨w5, hw5, h⟩ := bs h
 refine yya (l1 := [(0, .box (eCu v3.2)), (2, .box (oN 57)), (3, .box (oP 57 v2.1)), (16, .p (.bool w5))]) ?_ ?_
 ·clear h
  rcases ft v3.1 with ha0 | ha0
  ·replace hw5 := yma ha0 hw5
   have hw5 := oi hw5
   subst hw5
   exact (r_gq [(0, .box (eCu v3.2)), (2, .box (oN 57)), (3, .box (oP 57 v2.1)), (16, .p (.bool true))] [(1, (lNf [.p (.bool v3.1)] (.box (eCu v3.2)))), (3, gT), (4, gT), (5, gT), (6, bT)] (A5 (yrf hv3) ha0 ha0 ha0 ha0))
  obtain ⟨v4, hv4, hw5⟩ := bs (yna ha0 hw5)
  have hw5 := oi hw5
  subst hw5
  exact (r_gq [(0, .box (eCu v3.2)), (2, .box (oN 57)), (3, .box (oP 57 v2.1)), (16, .p (.bool (!v4)))] [(1, (lNf [.p (.bool v3.1)] (.box (eCu v3.2)))), (3, gF), (4, (gC [.d true (sP v2.1)] [.p (.bool v4)])), (5, gF), (6, bF)] (B6 (yrf hv3) ha0 (frO 57 v2.1) ha0 (show ([.d true [.sl none (eraL (v2.1.map ePt))]] : List Arg) = [.d true (sP v2.1)] from (by simp only [erPt])) (yrc hv4) (A2 ha0 ha0)))
 refine kc w5 (fun hc2_5 => ?_) (fun hc2_5 => ?_)
 ·obtain ⟨v7, hv7, h⟩ := bs (yma hc2_5 h)
  obtain ⟨v8, hv8, h⟩ := bs h
  refine kG [(0, .box (eCu v8.2)), (2, .box (oN 57)), (3, .box (oP 57 v2.1)), (4, .box (eRt v8.1))] [(3, {lend := some (some [.d false [.sl none (([2, 3, 5, 8, 13]).map eI)]], [.p (iV v7.1)], .box (eCu v7.2), false), fix := some (19, .d false [.sl none (([2, 3, 5, 8, 13]).map eI)])}), (4, (lNf [.p (vRt v8.1)] (.box (eCu v8.2))))] (A4 (show ([.d false [.sl none (eraL (([2, 3, 5, 8, 13]).map eI))]] : List Arg) = [.d false [.sl none (([2, 3, 5, 8, 13]).map eI)]] from (by simp only [yza (h := eI) er_I])) (ysa hv7) (show (SV.d false (eraR [.sl (some 3) (([2, 3, 5, 8, 13]).map eI)]) : SV) = .d false [.sl none (([2, 3, 5, 8, 13]).map eI)] from (congrArg (fun z => SV.d false z) (yul (yza er_I) rfl))) (yve hv8)) ?_
  obtain ⟨v9, hv9, h⟩ := bs h
  obtain ⟨v10, hv10, h⟩ := bs h
  obtain ⟨v11, hv11, h⟩ := bs h
  refine yff (r_dq yca 7 [] [(0, .box (eCu v8.2)), (2, .box (oN 57)), (3, .box (oP 57 ([(v9, v8.1), (v10, v11)])))] [(0, (cN [.p (vRt v9)])), (3, (cN [.p (vRt v10)])), (5, (cN [.p (vRt v11)]))] (A3 (yub hv9) (yub hv10) (yid hv11))) ?_
  refine q_n (kG [(0, .box (eCu v8.2)), (2, .box (oP 57 ([(v9, v8.1), (v10, v11)])))] [] (A1 (frO 57 ([(v9, v8.1), (v10, v11)]))) ?_)
  refine yva ?_
  obtain rfl := oi h
  exact ebr [(.ov true (oP 57 ([(v9, v8.1), (v10, v11)])), 2)]
 replace h := yna hc2_5 h
 refine yja (q_n (kG [(0, .box (eCu v3.2)), (2, .box (oP 57 v2.1))] [] (A1 (frO 57 v2.1)) ?_))
 refine yva ?_
 obtain rfl := oi h
 exact ebr [(.ov true (oP 57 v2.1), 2)]
theorem yeu {a0 : Cu}  {r : (Qr × Cu)} (h : yej a0 = some r) : MeetsB Tryz.prog 129 (.box (eCu a0)) [] [.p (vRt r.1)] (.box (eCu r.2)) := by
 refine mob Tryz.func129 [(0, .box (eCu a0))] ?_
 unfold yej at h
 refine kG [(0, .box (eCu a0)), (2, .box zR)] [] trivial ?_
 obtain ⟨v1, hv1, h⟩ := bs h
 obtain ⟨v2, hv2, h⟩ := bs h
 obtain ⟨v3, hv3, h⟩ := bs h
 obtain ⟨v4, hv4, h⟩ := bs h
 obtain ⟨v5, hv5, h⟩ := bs h
 obtain ⟨v6, hv6, h⟩ := bs h
 obtain ⟨v7, hv7, h⟩ := bs h
 refine kG [(0, .box (eCu v6.2)), (2, .box zR), (3, .box (eRt v7.1)), (4, .p (.bool v7.2))] [(2, (lNf [.p (iV v1.1)] (.box (eCu v1.2)))), (5, (lNf [.p (iV v2.1)] (.box (eCu v2.2)))), (8, {lend := some (some [.d false [.sl none (([0, 1, 2, 3, (-1), (-5), (w64 (v1.1 - 20)), (w64 (v2.1 - 1000)), 1000000000, (-1000000000)]).map eI)]], [.p (iV v3.1)], .box (eCu v3.2), false), fix := some (13, .d false [.sl none (([0, 1, 2, 3, (-1), (-5), (w64 (v1.1 - 20)), (w64 (v2.1 - 1000)), 1000000000, (-1000000000)]).map eI)])}), (11, (lNf [.p (iV v4.1)] (.box (eCu v4.2)))), (14, (lNf [.p (iV v5.1)] (.box (eCu v5.2)))), (17, {lend := some (some [.d false [.sl none (([1, 2, 3, 4, 8, 7, (w64 (1 + v4.1)), (w64 (1 + v5.1)), 1000000000, 999999999]).map eI)]], [.p (iV v6.1)], .box (eCu v6.2), false), fix := some (22, .d false [.sl none (([1, 2, 3, 4, 8, 7, (w64 (1 + v4.1)), (w64 (1 + v5.1)), 1000000000, 999999999]).map eI)])}), (18, (cN [.p (vRt v7.1), .p (.bool v7.2)]))] (B6 (yla hv1) (yla hv2) (show ([.d false [.sl none (eraL (([0, 1, 2, 3, (-1), (-5), (w64 (v1.1 - 20)), (w64 (v2.1 - 1000)), 1000000000, (-1000000000)]).map eI))]] : List Arg) = [.d false [.sl none (([0, 1, 2, 3, (-1), (-5), (w64 (v1.1 - 20)), (w64 (v2.1 - 1000)), 1000000000, (-1000000000)]).map eI)]] from (by simp only [yza (h := eI) er_I])) (ysa hv3) (show (SV.d false (eraR [.sl (some 3) (([0, 1, 2, 3, (-1), (-5), (w64 (v1.1 - 20)), (w64 (v2.1 - 1000)), 1000000000, (-1000000000)]).map eI)]) : SV) = .d false [.sl none (([0, 1, 2, 3, (-1), (-5), (w64 (v1.1 - 20)), (w64 (v2.1 - 1000)), 1000000000, (-1000000000)]).map eI)] from (congrArg (fun z => SV.d false z) (yul (yza er_I) rfl))) (yla hv4) (A5 (yla hv5) (show ([.d false [.sl none (eraL (([1, 2, 3, 4, 8, 7, (w64 (1 + v4.1)), (w64 (1 + v5.1)), 1000000000, 999999999]).map eI))]] : List Arg) = [.d false [.sl none (([1, 2, 3, 4, 8, 7, (w64 (1 + v4.1)), (w64 (1 + v5.1)), 1000000000, 999999999]).map eI)]] from (by simp only [yza (h := eI) er_I])) (ysa hv6) (show (SV.d false (eraR [.sl (some 3) (([1, 2, 3, 4, 8, 7, (w64 (1 + v4.1)), (w64 (1 + v5.1)), 1000000000, 999999999]).map eI)]) : SV) = .d false [.sl none (([1, 2, 3, 4, 8, 7, (w64 (1 + v4.1)), (w64 (1 + v5.1)), 1000000000, 999999999]).map eI)] from (congrArg (fun z => SV.d false z) (yul (yza er_I) rfl))) (yfe hv7))) ?_
 refine yqb (kG [(0, .box (eCu v6.2)), (2, .box zR), (3, .box (eRt v7.1)), (28, .p (.bool (!v7.2)))] [] trivial ?_)
 refine kc (!v7.2) (fun hc2_7 => ?_) (fun hc2_7 => ?_)
 ·obtain ⟨v9, hv9, h⟩ := bs (yma hc2_7 h)
  refine kG [(0, .box (eCu v6.2)), (2, .box (eRt v9))] [(0, (cN [.p (vRt v9)]))] (A1 (yub hv9)) ?_
  refine yva (q_r ?_)
  obtain rfl := oi h
  exact ebr [(.p (vRt v9), 2)]
 replace h := yna hc2_7 h
 refine yja (q_n (kG [(0, .box (eCu v6.2)), (2, .box (eRt v7.1))] [] trivial ?_))
 refine yva ?_
 obtain rfl := oi h
 exact ebr [(.p (vRt v7.1), 2)]
theorem yji {a0 : Cu}  {r : (Qr × Cu)} (h : yfd a0 = some r) : MeetsB Tryz.prog 101 (.box (eCu a0)) [] [.p (vRt r.1)] (.box (eCu r.2)) := by
 refine mob Tryz.func101 [(0, .box (eCu a0))] ?_
 unfold yfd at h
 refine kG [(0, .box (eCu a0)), (2, .box zR)] [] trivial ?_
 obtain ⟨v1, hv1, h⟩ := bs h
 refine kG [(0, .box (eCu v1.2)), (2, .box zR), (3, .box (eRt v1.1))] [(1, (lNf [.p (vRt v1.1)] (.box (eCu v1.2))))] (A1 (yeu hv1)) ?_
 refine yqb ?_
 obtain ⟨v2, hv2, h⟩ := bs h
 refine kG [(0, .box (eCu v2.2)), (2, .box zR), (3, .box (eRt v1.1)), (7, .p (iV v2.1))] [(1, (lNf [.p (iV v2.1)] (.box (eCu v2.2))))] (A1 (yla hv2)) ?_
 refine ywa (kG [(0, .box (eCu v2.2)), (2, .box zR), (3, .box (eRt v1.1)), (7, .p (iV v2.1)), (8, .p (.bool (v2.1 == 0)))] [] trivial ?_)
 refine kc (v2.1 == 0) (fun hc3_2 => ?_) (fun hc3_2 => ?_)
 ·obtain ⟨v4, hv4, h⟩ := bs (yma hc3_2 h)
  refine yff (r_gq [(0, .box (eCu v4.2)), (2, .box zR), (3, .box [rI v1.1.1, rI v4.1])] [(2, {lend := some (some [.d false [.sl none (([0, (-1), 1000000001]).map eI)]], [.p (iV v4.1)], .box (eCu v4.2), false), fix := some (11, .d false [.sl none (([0, (-1), 1000000001]).map eI)])})] (A3 (show ([.d false [.sl none (eraL (([0, (-1), 1000000001]).map eI))]] : List Arg) = [.d false [.sl none (([0, (-1), 1000000001]).map eI)]] from (by simp only [yza (h := eI) er_I])) (ysa hv4) (show (SV.d false (eraR [.sl (some 3) (([0, (-1), 1000000001]).map eI)]) : SV) = .d false [.sl none (([0, (-1), 1000000001]).map eI)] from (congrArg (fun z => SV.d false z) (yul (yza er_I) rfl))))) ?_
  refine b_n (q_n (kG [(0, .box (eCu v4.2)), (2, .box [rI v1.1.1, rI v4.1])] [] trivial ?_))
  refine yva ?_
  obtain rfl := oi h
  exact ebr [(.p (.agg #[.int .i64 v1.1.1, .int .i64 v4.1]), 2)]
 replace h := yna hc3_2 h
 refine kG [(0, .box (eCu v2.2)), (2, .box zR), (3, .box (eRt v1.1)), (7, .p (iV v2.1)), (14, .p (.bool (v2.1 == 1)))] [] trivial ?_
 refine kc (v2.1 == 1) (fun hc3_4 => ?_) (fun hc3_4 => ?_)
 ·obtain ⟨v6, hv6, h⟩ := bs (yma hc3_4 h)
  refine yff (r_gq [(0, .box (eCu v6.2)), (2, .box zR), (3, .box [rI v6.1, rI v1.1.2])] [(2, {lend := some (some [.d false [.sl none (([1000000001, (-1000000001), (-9223372036854775808)]).map eI)]], [.p (iV v6.1)], .box (eCu v6.2), false), fix := some (17, .d false [.sl none (([1000000001, (-1000000001), (-9223372036854775808)]).map eI)])})] (A3 (show ([.d false [.sl none (eraL (([1000000001, (-1000000001), (-9223372036854775808)]).map eI))]] : List Arg) = [.d false [.sl none (([1000000001, (-1000000001), (-9223372036854775808)]).map eI)]] from (by simp only [yza (h := eI) er_I])) (ysa hv6) (show (SV.d false (eraR [.sl (some 3) (([1000000001, (-1000000001), (-9223372036854775808)]).map eI)]) : SV) = .d false [.sl none (([1000000001, (-1000000001), (-9223372036854775808)]).map eI)] from (congrArg (fun z => SV.d false z) (yul (yza er_I) rfl))))) ?_
  refine b_n (q_n (kG [(0, .box (eCu v6.2)), (2, .box [rI v6.1, rI v1.1.2])] [] trivial ?_))
  refine yva ?_
  obtain rfl := oi h
  exact ebr [(.p (.agg #[.int .i64 v6.1, .int .i64 v1.1.2]), 2)]
 replace h := yna hc3_4 h
 refine kG [(0, .box (eCu v2.2)), (2, .box zR), (3, .box (eRt v1.1)), (20, .p (.bool (v2.1 == 2)))] [] trivial ?_
 refine kc (v2.1 == 2) (fun hc3_6 => ?_) (fun hc3_6 => ?_)
 ·obtain ⟨v8, hv8, h⟩ := bs (yma hc3_6 h)
  obtain ⟨v9, hv9, h⟩ := bs h
  refine yff (r_gq [(0, .box (eCu v9.2)), (2, .box zR), (3, .box [rI v8.1, rI v9.1])] [(2, {lend := some (some [.d false [.sl none (([2, 0, (-4)]).map eI)]], [.p (iV v8.1)], .box (eCu v8.2), false), fix := some (23, .d false [.sl none (([2, 0, (-4)]).map eI)])}), (5, {lend := some (some [.d false [.sl none (([2, 4, 6]).map eI)]], [.p (iV v9.1)], .box (eCu v9.2), false), fix := some (26, .d false [.sl none (([2, 4, 6]).map eI)])})] (A6 (show ([.d false [.sl none (eraL (([2, 0, (-4)]).map eI))]] : List Arg) = [.d false [.sl none (([2, 0, (-4)]).map eI)]] from (by simp only [yza (h := eI) er_I])) (ysa hv8) (show (SV.d false (eraR [.sl (some 3) (([2, 0, (-4)]).map eI)]) : SV) = .d false [.sl none (([2, 0, (-4)]).map eI)] from (congrArg (fun z => SV.d false z) (yul (yza er_I) rfl))) (show ([.d false [.sl none (eraL (([2, 4, 6]).map eI))]] : List Arg) = [.d false [.sl none (([2, 4, 6]).map eI)]] from (by simp only [yza (h := eI) er_I])) (ysa hv9) (show (SV.d false (eraR [.sl (some 3) (([2, 4, 6]).map eI)]) : SV) = .d false [.sl none (([2, 4, 6]).map eI)] from (congrArg (fun z => SV.d false z) (yul (yza er_I) rfl))))) ?_
  refine b_n (q_n (kG [(0, .box (eCu v9.2)), (2, .box [rI v8.1, rI v9.1])] [] trivial ?_))
  refine yva ?_
  obtain rfl := oi h
  exact ebr [(.p (.agg #[.int .i64 v8.1, .int .i64 v9.1]), 2)]
 replace h := yna hc3_6 h
 refine yja (b_n (q_n (kG [(0, .box (eCu v2.2)), (2, .box (eRt v1.1))] [] trivial ?_)))
 refine yva ?_
 obtain rfl := oi h
 exact ebr [(.p (vRt v1.1), 2)]
theorem ygq {a0 : Cu}  {r : ((List Qp) × Cu)} (h : yye a0 = some r) : MeetsB Tryz.prog 65 (.box (eCu a0)) [] [.ov true (oP 57 r.1)] (.box (eCu r.2)) := by
 refine mob Tryz.func65 [(0, .box (eCu a0))] ?_
 unfold yye at h
 refine kG [(0, .box (eCu a0)), (2, .box (oN 57))] [] trivial ?_
 obtain ⟨v1, hv1, h⟩ := bs h
 refine kG [(0, .box (eCu v1.2)), (2, .box (oN 57)), (3, .box (oP 57 v1.1))] [(1, (lNf [.ov true (oP 57 v1.1)] (.box (eCu v1.2))))] (A1 (ybn hv1)) ?_
 obtain ⟨v2, hv2, h⟩ := bs h
 obtain ⟨v3, hv3, h⟩ := bs h
 refine yya (r_dq yca 7 [(6, 0)] [(0, .box (eCu v2.2)), (2, .box (oN 57)), (3, .box (oP 57 v1.1)), (4, .addr 3 [(0, 0), ((Int.toNat v2.1), 0)])] [(5, {n := some v1.1.length}), (6, (lNf [.p (iV v2.1)] (.box (eCu v2.2)))), (7, {row := some (ePt v3)})] (A6 (frO 57 v1.1) (frO 57 v1.1) (lnP v1.1) (yla hv2) (yba hv3).1 (yia ePt (yba hv3).2))) ?_
 refine yhd (J := fun (x : ((List Int) × Int × Int × (List Qp))) => [(0, .box (eCu (x.1, x.2.1, x.2.2.1))), (2, .box (oN 57)), (3, .box (oP 57 x.2.2.2))]) (K := fun x => yib x = some r) (fun x4 h => ?_) ?_
 ·unfold yib at h
  refine kG [(0, .box (eCu (x4.1, x4.2.1, x4.2.2.1))), (2, .box (oP 57 x4.2.2.2))] [] (A1 (frO 57 x4.2.2.2)) ?_
  refine yva ?_
  obtain rfl := oi h
  exact ebr [(.ov true (oP 57 x4.2.2.2), 2)]
 obtain ⟨v5, hv5, h⟩ := bs h
 refine kG [(0, .box (eCu v5.2)), (2, .box (oN 57)), (3, .box (oP 57 v1.1)), (4, .addr 3 [(0, 0), ((Int.toNat v2.1), 0)]), (18, .p (iV v5.1))] [(1, (lNf [.p (iV v5.1)] (.box (eCu v5.2))))] (A1 (yla hv5)) ?_
 refine ywa (kG [(0, .box (eCu v5.2)), (2, .box (oN 57)), (3, .box (oP 57 v1.1)), (4, .addr 3 [(0, 0), ((Int.toNat v2.1), 0)]), (18, .p (iV v5.1)), (19, .p (.bool (v5.1 == 0)))] [] trivial ?_)
 refine kc (v5.1 == 0) (fun hc3_5 => ?_) (fun hc3_5 => ?_)
 ·obtain ⟨v7, hv7, h⟩ := bs (yma hc3_5 h)
  refine yff (r_gq [(0, .box (eCu v7.2)), (2, .box (oN 57)), (3, .box (oP 57 (v1.1.set (Int.toNat v2.1) (v7.1, v3.2))))] [(2, (lNf [.p (vRt v7.1)] (.box (eCu v7.2)))), (5, {row := some (ePt v3), fix := some (3, .box (oP 57 (v1.1.set (Int.toNat v2.1) (v7.1, v3.2))))})] (A3 (yji hv7) (show getRow [(oP 57 v1.1)] [(0, 0), ((Int.toNat v2.1), 0)] = some (ePt v3) from ((gr0 rfl).trans (gre (yia ePt (yba hv3).2)))) (show (SV.box [.sl (some 57) (setL (v1.1.map ePt) [((Int.toNat v2.1), 0)] (eRt v7.1))] : SV) = .box (oP 57 (v1.1.set (Int.toNat v2.1) (v7.1, v3.2))) from (congrArg (fun z => SV.box [.sl (some 57) z]) (set1 (f := ePt) (y := (v7.1, v3.2)) (yba hv3).2 rfl))))) ?_
  refine b_n (q_n ?_)
  exact jx (v7.2.1, v7.2.2.1, v7.2.2.2, (v1.1.set (Int.toNat v2.1) (v7.1, v3.2))) h
 replace h := yna hc3_5 h
 refine kG [(0, .box (eCu v5.2)), (2, .box (oN 57)), (3, .box (oP 57 v1.1)), (4, .addr 3 [(0, 0), ((Int.toNat v2.1), 0)]), (18, .p (iV v5.1)), (26, .p (.bool (v5.1 == 1)))] [] trivial ?_
 refine kc (v5.1 == 1) (fun hc3_7 => ?_) (fun hc3_7 => ?_)
 ·obtain ⟨v9, hv9, h⟩ := bs (yma hc3_7 h)
  refine yff (r_gq [(0, .box (eCu v9.2)), (2, .box (oN 57)), (3, .box (oP 57 (v1.1.set (Int.toNat v2.1) (v3.1, v9.1))))] [(2, (lNf [.p (vRt v9.1)] (.box (eCu v9.2)))), (5, {row := some (eRt v3.2), fix := some (3, .box (oP 57 (v1.1.set (Int.toNat v2.1) (v3.1, v9.1))))})] (A3 (yji hv9) (show getRow [(oP 57 v1.1)] [(0, 0), ((Int.toNat v2.1), 2)] = some (eRt v3.2) from ((gr0 rfl).trans (gre (yia ePt (yba hv3).2)))) (show (SV.box [.sl (some 57) (setL (v1.1.map ePt) [((Int.toNat v2.1), 2)] (eRt v9.1))] : SV) = .box (oP 57 (v1.1.set (Int.toNat v2.1) (v3.1, v9.1))) from (congrArg (fun z => SV.box [.sl (some 57) z]) (set1 (f := ePt) (y := (v3.1, v9.1)) (yba hv3).2 rfl))))) ?_
  refine b_n (q_n ?_)
  exact jx (v9.2.1, v9.2.2.1, v9.2.2.2, (v1.1.set (Int.toNat v2.1) (v3.1, v9.1))) h
 replace h := yna hc3_7 h
 refine kG [(0, .box (eCu v5.2)), (2, .box (oN 57)), (3, .box (oP 57 v1.1)), (4, .addr 3 [(0, 0), ((Int.toNat v2.1), 0)]), (18, .p (iV v5.1)), (33, .p (.bool (v5.1 == 2)))] [] trivial ?_
 refine kc (v5.1 == 2) (fun hc3_9 => ?_) (fun hc3_9 => ?_)
 ·obtain ⟨v11, hv11, h⟩ := bs (yma hc3_9 h)
  obtain ⟨v12, hv12, h⟩ := bs h
  refine yff (r_dq yca 9 [(7, 0)] [(0, .box (eCu v11.2)), (2, .box (oN 57)), (3, .box (oP 57 (v1.1.set (Int.toNat v2.1) (v3.1, v12))))] [(4, {row := some (eRt v3.2)}), (6, {pre := some (0, .u), fix := some (41, .d false [.sl none (([1, 6, (-6)]).map eI)])}), (7, (lNf [.p (iV v11.1)] (.box (eCu v11.2)))), (8, (cN [.p (vRt v12)])), (11, {row := some (eRt v3.2), fix := some (3, .box (oP 57 (v1.1.set (Int.toNat v2.1) (v3.1, v12))))})] (A6 (show getRow [(oP 57 v1.1)] [(0, 0), ((Int.toNat v2.1), 2)] = some (eRt v3.2) from ((gr0 rfl).trans (gre (yia ePt (yba hv3).2)))) (show (SV.d false (eraR [.sl (some 3) (([1, 6, (-6)]).map eI)]) : SV) = .d false [.sl none (([1, 6, (-6)]).map eI)] from (congrArg (fun z => SV.d false z) (yul (yza er_I) rfl))) (ysa hv11) (yid hv12) (show getRow [(oP 57 v1.1)] [(0, 0), ((Int.toNat v2.1), 2)] = some (eRt v3.2) from ((gr0 rfl).trans (gre (yia ePt (yba hv3).2)))) (show (SV.box [.sl (some 57) (setL (v1.1.map ePt) [((Int.toNat v2.1), 2)] (eRt v12))] : SV) = .box (oP 57 (v1.1.set (Int.toNat v2.1) (v3.1, v12))) from (congrArg (fun z => SV.box [.sl (some 57) z]) (set1 (f := ePt) (y := (v3.1, v12)) (yba hv3).2 rfl))))) ?_
  refine b_n (q_n ?_)
  exact jx (v11.2.1, v11.2.2.1, v11.2.2.2, (v1.1.set (Int.toNat v2.1) (v3.1, v12))) h
 replace h := yna hc3_9 h
 refine kG [(0, .box (eCu v5.2)), (2, .box (oN 57)), (3, .box (oP 57 v1.1)), (18, .p (iV v5.1)), (46, .p (.bool (v5.1 == 3)))] [] trivial ?_
 refine kc (v5.1 == 3) (fun hc3_12 => ?_) (fun hc3_12 => ?_)
 ·replace h := yma hc3_12 h
  refine kG [(0, .box (eCu v5.2)), (2, .box (oN 57))] [(0, bT)] trivial ?_
  refine yva (b_r (q_r ?_))
  obtain rfl := oi h
  exact ebr [(.ov true (oN 57), 2)]
 replace h := yna hc3_12 h
 refine kG [(0, .box (eCu v5.2)), (2, .box (oN 57)), (3, .box (oP 57 v1.1)), (49, .p (.bool (v5.1 == 4)))] [] trivial ?_
 refine kc (v5.1 == 4) (fun hc3_13 => ?_) (fun hc3_13 => ?_)
 ·replace h := yma hc3_13 h
  refine kG [(0, .box (eCu v5.2)), (2, .box (oN 57)), (3, .box (oN 57))] [] trivial ?_
  refine ywa ?_
  obtain ⟨y16, hl_x15, hk_x15⟩ := bs h
  clear h
  refine yuh (J := fun (x : (List Qp)) => [(0, .box (eCu v5.2)), (2, .box (oN 57)), (3, .box (oP 57 x))]) hl_x15 wkk (fun x15 o_x15 h hy_x15 => ?_)
  unfold yqh at h
  refine yqb (kG [(0, .box (eCu v5.2)), (2, .box (oN 57)), (3, .box (oP 57 x15)), (55, .p (.bool (decide ((x15.length : Int) < 13))))] [(2, {n := some x15.length})] (A2 (frO 57 x15) (lnP x15)) ?_)
  refine kc (decide ((x15.length : Int) < 13)) (fun hc6_16 => ?_) (fun hc6_16 => ?_)
  ·replace h := yma hc6_16 h
   refine yja (q_n (ywa ?_))
   obtain ⟨v18, hv18, h⟩ := bs h
   refine kG [(0, .box (eCu v5.2)), (2, .box (oN 57)), (3, .box (oP 57 x15)), (5, .box (eRt v18.1))] [(2, {n := some x15.length}), (3, (cN [.p (vRt v18.1), .p (.bool v18.2)]))] (A3 (frO 57 x15) (lnP x15) (yfe hv18)) ?_
   obtain ⟨u19, hu19, h⟩ := bs h
   refine yff (r_gq [(0, .box (eCu v5.2)), (2, .box (oN 57)), (3, .box (oP 57 (x15 ++ [(v18.1, v18.1)])))] [(6, {take := some (64, (oP 57 x15)), fix := some (69, .ov false (oP 57 (x15 ++ [(v18.1, v18.1)])))})] (A5 (frO 57 x15) (show getRow [(oP 57 x15)] [(0, 0)] = some (oP 57 x15) from rfl) (show List.length ((x15.map ePt) : List (List C)) + List.length ((([(v18.1, v18.1)]).map ePt) : List (List C)) ≤ 1099511627776 from (by have hg := (yea hu19); simpa using hg)) (show ∀ row ∈ ((([(v18.1, v18.1)]).map ePt) : List (List C)), row.length = 4 from (ydg fun _ => rfl)) (show (SV.ov false [.sl (some 57) ((x15.map ePt) ++ (([(v18.1, v18.1)]).map ePt))] : SV) = .ov false (oP 57 (x15 ++ [(v18.1, v18.1)])) from (congrArg (fun z => SV.ov false [.sl (some 57) z]) (List.map_append ..).symm)))) ?_
   refine b_n ?_
   exact lqn (x15 ++ [(v18.1, v18.1)]) h
  replace h := yna hc6_16 h
  refine ykg (q_x (lq_x (b_x (b_n ?_))))
  have hyy := hy_x15 _ (oi h).symm
  subst hyy
  have h := hk_x15
  refine q_n ?_
  exact jx (v5.2.1, v5.2.2.1, v5.2.2.2, x15) h
 replace h := yna hc3_13 h
 refine yja (b_n (q_n ?_))
 exact jx (v5.2.1, v5.2.2.1, v5.2.2.2, v1.1) h
theorem ydl {a0 : Cu}  {r : (Qr × Cu)} (h : yce a0 = some r) : MeetsB Tryz.prog 57 (.box (eCu a0)) [] [.p (vRt r.1)] (.box (eCu r.2)) := by
 refine mob Tryz.func57 [(0, .box (eCu a0))] ?_
 unfold yce at h
 refine kG [(0, .box (eCu a0)), (2, .box zR)] [] trivial ?_
 obtain ⟨v1, hv1, h⟩ := bs h
 obtain ⟨v2, hv2, h⟩ := bs h
 refine kG [(0, .box (eCu v2.2)), (2, .box zR), (3, .box (eRt v2.1))] [(3, {lend := some (some [.d false [.sl none (([1, 2, 3, 4, 5, 8, 12]).map eI)]], [.p (iV v1.1)], .box (eCu v1.2), false), fix := some (6, .d false [.sl none (([1, 2, 3, 4, 5, 8, 12]).map eI)])}), (4, (lNf [.p (vRt v2.1)] (.box (eCu v2.2))))] (A4 (show ([.d false [.sl none (eraL (([1, 2, 3, 4, 5, 8, 12]).map eI))]] : List Arg) = [.d false [.sl none (([1, 2, 3, 4, 5, 8, 12]).map eI)]] from (by simp only [yza (h := eI) er_I])) (ysa hv1) (show (SV.d false (eraR [.sl (some 3) (([1, 2, 3, 4, 5, 8, 12]).map eI)]) : SV) = .d false [.sl none (([1, 2, 3, 4, 5, 8, 12]).map eI)] from (congrArg (fun z => SV.d false z) (yul (yza er_I) rfl))) (yve hv2)) ?_
 refine yqb ?_
 obtain ⟨v3, hv3, h⟩ := bs h
 refine kG [(0, .box (eCu v3.2)), (2, .box zR), (3, .box (eRt v2.1)), (10, .p (iV v3.1))] [(1, (lNf [.p (iV v3.1)] (.box (eCu v3.2))))] (A1 (yla hv3)) ?_
 refine ywa (kG [(0, .box (eCu v3.2)), (2, .box zR), (3, .box (eRt v2.1)), (10, .p (iV v3.1)), (11, .p (.bool (v3.1 == 0)))] [] trivial ?_)
 refine kc (v3.1 == 0) (fun hc3_3 => ?_) (fun hc3_3 => ?_)
 ·obtain ⟨v5, hv5, h⟩ := bs (yma hc3_3 h)
  obtain ⟨v6, hv6, h⟩ := bs h
  refine yya (r_dq yca 4 [(3, 0)] [(0, .box (eCu v5.2)), (2, .box (eRt v6))] [(2, {pre := some (0, .u), fix := some (15, .d false [.sl none (([(-1), 1, 7, (-20), 999, (-1000)]).map eI)])}), (3, (lNf [.p (iV v5.1)] (.box (eCu v5.2)))), (4, (cN [.p (vRt v6)]))] (A3 (show (SV.d false (eraR [.sl (some 3) (([(-1), 1, 7, (-20), 999, (-1000)]).map eI)]) : SV) = .d false [.sl none (([(-1), 1, 7, (-20), 999, (-1000)]).map eI)] from (congrArg (fun z => SV.d false z) (yul (yza er_I) rfl))) (ysa hv5) (yid hv6))) ?_
  refine yva (b_r (q_r ?_))
  obtain rfl := oi h
  exact ebr [(.p (vRt v6), 2)]
 replace h := yna hc3_3 h
 refine kG [(0, .box (eCu v3.2)), (2, .box zR), (3, .box (eRt v2.1)), (10, .p (iV v3.1)), (18, .p (.bool (v3.1 == 1)))] [] trivial ?_
 refine kc (v3.1 == 1) (fun hc3_6 => ?_) (fun hc3_6 => ?_)
 ·obtain ⟨v8, hv8, h⟩ := bs (yma hc3_6 h)
  refine kG [(0, .box (eCu v8.2)), (2, .box [rI v8.1, rI 1])] [(2, {lend := some (some [.d false [.sl none (([1000, 1001, (-1000), (-1001)]).map eI)]], [.p (iV v8.1)], .box (eCu v8.2), false), fix := some (21, .d false [.sl none (([1000, 1001, (-1000), (-1001)]).map eI)])})] (A3 (show ([.d false [.sl none (eraL (([1000, 1001, (-1000), (-1001)]).map eI))]] : List Arg) = [.d false [.sl none (([1000, 1001, (-1000), (-1001)]).map eI)]] from (by simp only [yza (h := eI) er_I])) (ysa hv8) (show (SV.d false (eraR [.sl (some 3) (([1000, 1001, (-1000), (-1001)]).map eI)]) : SV) = .d false [.sl none (([1000, 1001, (-1000), (-1001)]).map eI)] from (congrArg (fun z => SV.d false z) (yul (yza er_I) rfl)))) ?_
  refine yva (b_r (q_r ?_))
  obtain rfl := oi h
  exact ebr [(.p (.agg #[.int .i64 v8.1, .int .i64 1]), 2)]
 replace h := yna hc3_6 h
 refine kG [(0, .box (eCu v3.2)), (2, .box zR), (3, .box (eRt v2.1)), (24, .p (.bool (v3.1 == 2)))] [] trivial ?_
 refine kc (v3.1 == 2) (fun hc3_8 => ?_) (fun hc3_8 => ?_)
 ·obtain ⟨v10, hv10, h⟩ := bs (yma hc3_8 h)
  refine kG [(0, .box (eCu v10.2)), (2, .box (eRt v10.1))] [(1, (lNf [.p (vRt v10.1)] (.box (eCu v10.2))))] (A1 (yji hv10)) ?_
  refine yva (b_r (q_r ?_))
  obtain rfl := oi h
  exact ebr [(.p (vRt v10.1), 2)]
 replace h := yna hc3_8 h
 refine yja (b_n (q_n (kG [(0, .box (eCu v3.2)), (2, .box (eRt v2.1))] [] trivial ?_)))
 refine yva ?_
 obtain rfl := oi h
 exact ebr [(.p (vRt v2.1), 2)]
theorem ygt {a0 : (List Int)}  {r : ((List Qp) × Qr)} (h : yck a0 = some r) : Meets Tryz.prog 29 [.d false [.sl none (a0.map (eU .u8))]] { vals := [.ov true (oP 57 r.1), .p (vRt r.2)] } := by
 refine mo Tryz.func29 [(0, .d false [.sl none (a0.map (eU .u8))])] ?_
 unfold yck at h
 refine kG [(0, .d false [.sl none (a0.map (eU .u8))]), (2, .box (oN 57)), (3, .box zR)] [] trivial ?_
 refine kG [(2, .box (oN 57)), (3, .box zR), (4, .addr 7 [(0, 0)]), (7, .box (eCu (a0, 0, 0)))] [] trivial ?_
 obtain ⟨v1, hv1, h⟩ := bs h
 obtain ⟨v2, hv2, h⟩ := bs h
 refine kG [(2, .box (oP 57 v1.1)), (3, .box (eRt v2.1))] [(1, (lNf [.ov true (oP 57 v1.1)] (.box (eCu v1.2)))), (3, (lNf [.p (vRt v2.1)] (.box (eCu v2.2))))] (A2 (ygq hv1) (ydl hv2)) ?_
 refine yva ?_
 obtain rfl := oi h
 exact er [(.ov true (oP 57 v1.1), 2), (.p (vRt v2.1), 3)]
theorem yvo {a0 : (List Int)}  {r : ((List Qp) × Qr)} (h : yqe a0 = some r) : Meets Tryz.prog 4 [.d false [.sl none (a0.map (eU .u8))]] { vals := [.ov true (oP 57 r.1), .p (vRt r.2)] } := by
 refine mo Tryz.func4 [(0, .d false [.sl none (a0.map (eU .u8))])] ?_
 unfold yqe at h
 refine kG [(0, .d false [.sl none (a0.map (eU .u8))]), (2, .box (oN 57)), (3, .box zR)] [] trivial ?_
 obtain ⟨v1, hv1, h⟩ := bs h
 refine kG [(2, .box (oP 57 v1.1)), (3, .box (eRt v1.2))] [(1, (cN [.ov true (oP 57 v1.1), .p (vRt v1.2)]))] (A2 (ygt hv1) (show List.all [.ov true (oP 57 v1.1), .p (vRt v1.2)] simpleR = true from (sa_o (wnR1 (yzm (wn_P (wn_P wn_I wn_I) (wn_P wn_I wn_I))) rfl) (sa_p rfl)))) ?_
 refine yva ?_
 obtain rfl := oi h
 exact er [(.ov true (oP 57 v1.1), 2), (.p (vRt v1.2), 3)]
theorem ylf {a0 : Int} {a1 : Int} {a2 : Int}  {r : Bool} (h : yvk a0 a1 a2 = some r) : Meets Tryz.prog 66 [wI a0, wI a1, wI a2] { vals := [.p (.bool r)] } := by
 refine mo Tryz.func66 [(0, .p (iV a0)), (1, .p (iV a1)), (2, .p (iV a2))] ?_
 unfold yvk at h
 refine kG [(0, .p (iV a0)), (1, .p (iV a1)), (2, .p (iV a2))] [] trivial ?_
 refine yya (l1 := [(6, .p (.bool ((decide (a1 ≤ a0)) && (decide (a0 ≤ a2)))))]) ?_ ?_
 ·rcases ft (decide (a1 ≤ a0)) with ha0 | ha0
  ·exact RegOk.of_eq (l2 := [(6, .p (.bool ((decide (a1 ≤ a0)) && (decide (a0 ≤ a2)))))]) (r_gq [(6, .p (.bool (decide (a0 ≤ a2))))] [(4, gT), (5, gT), (6, gT), (7, bT)] (A4 ha0 ha0 ha0 ha0)) (by simp [ha0])
  exact RegOk.of_eq (l2 := [(6, .p (.bool ((decide (a1 ≤ a0)) && (decide (a0 ≤ a2)))))]) (r_gq [(6, .p (.bool false))] [(4, gF), (5, gF), (6, gF), (7, bF)] (A4 ha0 ha0 ha0 ha0)) (by simp [ha0])
 refine yva ?_
 obtain rfl := oi h
 exact er [(.p (.bool ((decide (a1 ≤ a0)) && (decide (a0 ≤ a2)))), 6)]
theorem ymf {a0 : (List Qp)} {a1 : (Qp → Option Bool)} {F1 : FuncId} (hp1 : ∀ x0 y, a1 x0 = some y → Meets Tryz.prog F1 ([.v (vPt x0)] ++ []) { vals := [.p (.bool y)] }) {r : Int} (h : yfa a0 a1 = some r) : Meets Tryz.prog 76 [.d false (sP a0), .v (.func (.func F1) #[] #[])] { vals := [.p (iV r)] } := by
 refine mo Tryz.func76 [(0, .d false (sP a0)), (1, .p (.func (.func F1) #[] #[]))] ?_
 unfold yfa at h
 refine kG [(0, .d false (sP a0)), (1, .p (.func (.func F1) #[] #[]))] [] trivial ?_
 refine yhd (J := fun (x : Unit) => []) (K := fun x => yqa x = some r) (fun x1 h => ?_) ?_
 ·unfold yqa at h
  refine kG [(4, .p (iV (-1)))] [] trivial ?_
  refine yva ?_
  obtain rfl := oi h
  exact er [(.p (iV (-1)), 4)]
 refine kG [(0, .d false (sP a0)), (1, .p (.func (.func F1) #[] #[])), (7, .p (iV (a0.length : Int))), (8, .p (iV 0))] [(1, {n := some a0.length})] (A1 (lnP a0)) ?_
 refine ywa ?_
 obtain ⟨y3, hl_x2, hk_x2⟩ := bs h
 clear h
 refine yuh (J := fun (x : Int) => [(0, .d false (sP a0)), (1, .p (.func (.func F1) #[] #[])), (7, .p (iV (a0.length : Int))), (8, .p (iV x))]) hl_x2 wkk (fun x2 o_x2 h hy_x2 => ?_)
 unfold yga at h
 refine kG [(0, .d false (sP a0)), (1, .p (.func (.func F1) #[] #[])), (7, .p (iV (a0.length : Int))), (8, .p (iV x2)), (9, .p (.bool (decide (x2 < (a0.length : Int)))))] [] trivial ?_
 refine yqb (kc (decide (x2 < (a0.length : Int))) (fun hc5_3 => ?_) (fun hc5_3 => ?_))
 ·replace h := yma hc5_3 h
  refine yja (q_n (yqb (ywa (kG [(0, .d false (sP a0)), (1, .p (.func (.func F1) #[] #[])), (5, .p (iV x2)), (7, .p (iV (a0.length : Int))), (8, .p (iV x2))] [] trivial ?_))))
  obtain ⟨v5, hv5, h⟩ := bs h
  obtain ⟨v6, hv6, h⟩ := bs h
  refine kG [(0, .d false (sP a0)), (1, .p (.func (.func F1) #[] #[])), (5, .p (iV x2)), (7, .p (iV (a0.length : Int))), (8, .p (iV x2)), (16, .p (.bool v6))] [(3, {row := some (ePt v5)}), (5, (cN [.p (.bool v6)]))] (A3 (yba hv5).1 (yia ePt (yba hv5).2) (hp1 _ _ hv6)) ?_
  refine kc v6 (fun hc6_6 => ?_) (fun hc6_6 => ?_)
  ·replace h := yma hc6_6 h
   refine kG [(4, .p (iV x2))] [] trivial ?_
   refine yva (b_r (q_r (lq_r ?_)))
   refine b_r (q_r ?_)
   have hyy := hy_x2 _ (oi h).symm
   subst hyy
   have h := hk_x2
   dsimp only [Sum.elim] at h
   obtain rfl := oi h
   exact er [(.p (iV x2), 4)]
  replace h := yna hc6_6 h
  refine yja (b_n (q_n (yff (r_gq [(0, .d false (sP a0)), (1, .p (.func (.func F1) #[] #[])), (7, .p (iV (a0.length : Int))), (8, .p (iV (w64 (x2 + 1))))] [] trivial) ?_)))
  exact lqn (w64 (x2 + 1)) h
 replace h := yna hc5_3 h
 refine ykg (q_x (lq_x (b_x ?_)))
 have hyy := hy_x2 _ (oi h).symm
 subst hyy
 have h := hk_x2
 dsimp only [Sum.elim] at h
 refine q_n ?_
 exact jx () h
theorem yue {a0 : (List Qp)} {a1 : (Qp → Option Bool)} {F1 : FuncId} (hp1 : ∀ x0 y, a1 x0 = some y → Meets Tryz.prog F1 ([.v (vPt x0)] ++ []) { vals := [.p (.bool y)] }) {r : Bool} (h : yra a0 a1 = some r) : Meets Tryz.prog 67 [.d false (sP a0), .v (.func (.func F1) #[] #[])] { vals := [.p (.bool r)] } := by
 refine mo Tryz.func67 [(0, .d false (sP a0)), (1, .p (.func (.func F1) #[] #[]))] ?_
 unfold yra at h
 refine kG [(0, .d false (sP a0)), (1, .p (.func (.func F1) #[] #[]))] [] trivial ?_
 obtain ⟨v1, hv1, h⟩ := bs h
 refine kG [(4, .p (.bool (decide (v1 ≥ 0))))] [(2, (cN [.p (iV v1)]))] (A1 (show Meets Tryz.prog 76 ([.d false (sP a0), .v (.func (.func F1) #[] #[])] ++ []) { vals := [.p (iV v1)] } from (ymf hp1 hv1))) ?_
 refine yva ?_
 obtain rfl := oi h
 exact er [(.p (.bool (decide (v1 ≥ 0))), 4)]
theorem yxw {a0 : Int}  {r : Int} (h : yvt a0 = some r) : Meets Tryz.prog 132 [wI a0] { vals := [.p (iV r)] } := by
 refine mo Tryz.func132 [(0, .p (iV a0))] ?_
 unfold yvt at h
 refine kG [(0, .p (iV a0))] [] trivial ?_
 refine yqb (kG [(0, .p (iV a0)), (4, .p (.bool (decide (a0 < 0))))] [] trivial ?_)
 refine kc (decide (a0 < 0)) (fun hc2_0 => ?_) (fun hc2_0 => ?_)
 ·replace h := yma hc2_0 h
  refine kG [(2, .p (iV (w64 (0 - a0))))] [] trivial ?_
  refine yva (q_r ?_)
  obtain rfl := oi h
  exact er [(.p (iV (w64 (0 - a0))), 2)]
 replace h := yna hc2_0 h
 refine yja (q_n (kG [(2, .p (iV a0))] [] trivial ?_))
 refine yva ?_
 obtain rfl := oi h
 exact er [(.p (iV a0), 2)]
theorem ylj {a0 : Int} {a1 : Int}  {r : Int} (h : ylc a0 a1 = some r) : Meets Tryz.prog 105 [wI a0, wI a1] { vals := [.p (iV r)] } := by
 refine mo Tryz.func105 [(0, .p (iV a0)), (1, .p (iV a1))] ?_
 unfold ylc at h
 refine kG [(0, .p (iV a0)), (1, .p (iV a1))] [] trivial ?_
 obtain ⟨v1, hv1, h⟩ := bs h
 obtain ⟨v2, hv2, h⟩ := bs h
 refine kG [(0, .p (iV v1)), (1, .p (iV v2))] [(1, (cN [.p (iV v1)])), (3, (cN [.p (iV v2)]))] (A2 (yxw hv1) (yxw hv2)) ?_
 refine yhd (J := fun (x : Int) => [(0, .p (iV x))]) (K := fun x => ywd x = some r) (fun x3 h => ?_) ?_
 ·unfold ywd at h
  refine kG [(4, .p (iV x3))] [] trivial ?_
  refine yva ?_
  obtain rfl := oi h
  exact er [(.p (iV x3), 4)]
 refine ywa ?_
 obtain ⟨y5, hl_x4, hk_x4⟩ := bs h
 clear h
 refine yuh (J := fun (x : Qr) => [(0, .p (iV x.1)), (1, .p (iV x.2))]) hl_x4 wkk (fun x4 o_x4 h hy_x4 => ?_)
 unfold yjc at h
 refine yqb (kG [(0, .p (iV x4.1)), (1, .p (iV x4.2)), (10, .p (.bool (x4.2 != 0)))] [] trivial ?_)
 refine kc (x4.2 != 0) (fun hc5_5 => ?_) (fun hc5_5 => ?_)
 ·replace h := yma hc5_5 h
  refine yja (q_n (ywa ?_))
  obtain ⟨u7, hu7, h⟩ := bs h
  refine yff (r_dq yca 5 [] [(0, .p (iV x4.2)), (1, .p (iV (Int.tmod x4.1 x4.2)))] [] (A1 (yea hu7))) ?_
  refine b_n ?_
  exact lqn (x4.2, (Int.tmod x4.1 x4.2)) h
 replace h := yna hc5_5 h
 refine ykg (q_x (lq_x (b_x ?_)))
 have hyy := hy_x4 _ (oi h).symm
 subst hyy
 have h := hk_x4
 refine q_n ?_
 exact jx x4.1 h
theorem ykb {a0 : Qr}  {r : Bool} (h : yrg a0 = some r) : Meets Tryz.prog 61 [.v (vRt a0)] { vals := [.p (.bool r)] } := by
 refine mo Tryz.func61 [(0, .p (vRt a0))] ?_
 unfold yrg at h
 refine kG [(1, .box (eRt a0))] [] trivial ?_
 obtain ⟨v1, hv1, h⟩ := bs h
 obtain ⟨w4, hw4, h⟩ := bs h
 refine yya (l1 := [(2, .p (.bool w4))]) ?_ ?_
 ·clear h
  rcases ft v1 with ha0 | ha0
  ·obtain ⟨v2, hv2, hw4⟩ := bs (yma ha0 hw4)
   rcases ft v2 with ha1 | ha1
   ·obtain ⟨v3, hv3, hw4⟩ := bs (yma ha1 hw4)
    have hw4 := oi hw4
    subst hw4
    exact (r_gq [(2, .p (.bool (v3 == 1)))] [(2, (cN [.p (.bool v1)])), (4, gT), (5, gT), (6, {g := some true, call := some (none, [.p (.bool v2)], true)}), (7, bT), (9, gT), (10, gT), (11, gT), (12, gT), (13, {g := some true, call := some (none, [.p (iV v3)], true)}), (14, gT), (15, bT)] (B6 (ylf hv1) ha0 ha0 ha0 (ylf hv2) ha0 (B6 ha1 ha1 ha1 ha1 ha1 (ylj hv3) (A2 ha1 ha1))))
   replace hw4 := yna ha1 hw4
   have hw4 := oi hw4
   subst hw4
   exact (r_gq [(2, .p (.bool false))] [(2, (cN [.p (.bool v1)])), (4, gT), (5, gT), (6, {g := some true, call := some (none, [.p (.bool v2)], true)}), (7, bT), (9, gF), (10, gF), (11, gF), (12, gF), (13, gF), (14, gF), (15, bF)] (B6 (ylf hv1) ha0 ha0 ha0 (ylf hv2) ha0 (B6 ha1 ha1 ha1 ha1 ha1 ha1 (A1 ha1))))
  replace hw4 := yna ha0 hw4
  have hw4 := oi hw4
  subst hw4
  exact (r_gq [(2, .p (.bool false))] [(2, (cN [.p (.bool v1)])), (4, gF), (5, gF), (6, gF), (7, bF), (9, gF), (10, gF), (11, gF), (12, gF), (13, gF), (14, gF), (15, bF)] (B6 (ylf hv1) ha0 ha0 ha0 ha0 fF (A6 fF fF fF fF fF fF)))
 refine yva ?_
 obtain rfl := oi h
 exact er [(.p (.bool w4), 2)]
theorem ybs {a0 : Qr}  {r : Bool} (h : yon a0 = some r) : Meets Tryz.prog 109 [.v (vRt a0)] { vals := [.p (.bool r)] } := by
 refine mo Tryz.func109 [(0, .p (vRt a0))] ?_
 unfold yon at h
 refine kG [(1, .box (eRt a0))] [] trivial ?_
 obtain ⟨v1, hv1, h⟩ := bs h
 refine yya (l1 := [(2, .p (.bool (v1 && ((decide (a0.1 ≥ 0)) && (decide (a0.1 ≤ a0.2))))))]) ?_ ?_
 ·rcases ft v1 with ha0 | ha0
  ·rcases ft (decide (a0.1 ≥ 0)) with ha1 | ha1
   ·exact RegOk.of_eq (l2 := [(2, .p (.bool (v1 && ((decide (a0.1 ≥ 0)) && (decide (a0.1 ≤ a0.2))))))]) (r_gq [(2, .p (.bool (decide (a0.1 ≤ a0.2))))] [(1, (cN [.p (.bool v1)])), (3, gT), (4, gT), (5, gT), (6, bT), (8, gT), (9, gT), (10, gT), (11, gT), (12, gT), (13, bT)] (B6 (ykb hv1) ha0 ha0 ha0 ha0 ha1 (A5 ha1 ha1 ha1 ha1 ha1))) (by simp [ha0, ha1])
   exact RegOk.of_eq (l2 := [(2, .p (.bool (v1 && ((decide (a0.1 ≥ 0)) && (decide (a0.1 ≤ a0.2))))))]) (r_gq [(2, .p (.bool false))] [(1, (cN [.p (.bool v1)])), (3, gT), (4, gT), (5, gT), (6, bT), (8, gF), (9, gF), (10, gF), (11, gF), (12, gF), (13, bF)] (B6 (ykb hv1) ha0 ha0 ha0 ha0 ha1 (A5 ha1 ha1 ha1 ha1 ha1))) (by simp [ha0, ha1])
  exact RegOk.of_eq (l2 := [(2, .p (.bool (v1 && ((decide (a0.1 ≥ 0)) && (decide (a0.1 ≤ a0.2))))))]) (r_gq [(2, .p (.bool false))] [(1, (cN [.p (.bool v1)])), (3, gF), (4, gF), (5, gF), (6, bF), (8, gF), (9, gF), (10, gF), (11, gF), (12, gF), (13, bF)] (B6 (ykb hv1) ha0 ha0 ha0 ha0 fF (A5 fF fF fF fF fF))) (by simp [ha0])
 refine yva ?_
 obtain rfl := oi h
 exact er [(.p (.bool (v1 && ((decide (a0.1 ≥ 0)) && (decide (a0.1 ≤ a0.2))))), 2)]
theorem yvh {a0 : Qr}  {r : Bool} (h : yol a0 = some r) : Meets Tryz.prog 69 [.v (vRt a0)] { vals := [.p (.bool r)] } := by
 refine mo Tryz.func69 [(0, .p (vRt a0))] ?_
 unfold yol at h
 refine kG [(1, .box (eRt a0))] [] trivial ?_
 obtain ⟨v1, hv1, h⟩ := bs h
 refine yya (l1 := [(2, .p (.bool (v1 && (decide (a0.2 ≤ 100)))))]) ?_ ?_
 ·rcases ft v1 with ha0 | ha0
  ·exact RegOk.of_eq (l2 := [(2, .p (.bool (v1 && (decide (a0.2 ≤ 100)))))]) (r_gq [(2, .p (.bool (decide (a0.2 ≤ 100))))] [(1, (cN [.p (.bool v1)])), (3, gT), (4, gT), (5, gT), (6, bT)] (A5 (ybs hv1) ha0 ha0 ha0 ha0)) (by simp [ha0])
  exact RegOk.of_eq (l2 := [(2, .p (.bool (v1 && (decide (a0.2 ≤ 100)))))]) (r_gq [(2, .p (.bool false))] [(1, (cN [.p (.bool v1)])), (3, gF), (4, gF), (5, gF), (6, bF)] (A5 (ybs hv1) ha0 ha0 ha0 ha0)) (by simp [ha0])
 refine yva ?_
 obtain rfl := oi h
 exact er [(.p (.bool (v1 && (decide (a0.2 ≤ 100)))), 2)]
theorem yge {a0 : Int}  {r : Qr} (h : yhe a0 = some r) : Meets Tryz.prog 59 [wI a0] { vals := [.p (vRt r)] } := by
 refine mo Tryz.func59 [(0, .p (iV a0))] ?_
 unfold yhe at h
 refine kG [(0, .p (iV a0)), (2, .box zR)] [] trivial ?_
 refine kG [(2, .box [rI a0, rI 1])] [] trivial ?_
 refine yva ?_
 obtain rfl := oi h
 exact er [(.p (.agg #[.int .i64 a0, .int .i64 1]), 2)]
theorem yim {a0 : Qr} {a1 : Qr}  {r : Int} (h : ymc a0 a1 = some r) : Meets Tryz.prog 107 [.v (vRt a0), .v (vRt a1)] { vals := [.p (iV r)] } := by
 refine mo Tryz.func107 [(0, .p (vRt a0)), (1, .p (vRt a1))] ?_
 unfold ymc at h
 refine kG [(2, .box (eRt a0)), (3, .box (eRt a1))] [] trivial ?_
 refine yqb (yya (r_dq yca 11 [] [(5, .p (iV (w64 (a0.1 * a1.2)))), (6, .p (iV (w64 (a1.1 * a0.2))))] [] trivial) ?_)
 refine ywa (kG [(5, .p (iV (w64 (a0.1 * a1.2)))), (6, .p (iV (w64 (a1.1 * a0.2)))), (17, .p (.bool (decide ((w64 (a0.1 * a1.2)) < (w64 (a1.1 * a0.2))))))] [] trivial ?_)
 refine kc (decide ((w64 (a0.1 * a1.2)) < (w64 (a1.1 * a0.2)))) (fun hc3_0 => ?_) (fun hc3_0 => ?_)
 ·replace h := yma hc3_0 h
  refine kG [(4, .p (iV (-1)))] [] trivial ?_
  refine yva (b_r (q_r ?_))
  obtain rfl := oi h
  exact er [(.p (iV (-1)), 4)]
 replace h := yna hc3_0 h
 refine kG [(21, .p (.bool (decide ((w64 (a0.1 * a1.2)) > (w64 (a1.1 * a0.2))))))] [] trivial ?_
 refine kc (decide ((w64 (a0.1 * a1.2)) > (w64 (a1.1 * a0.2)))) (fun hc3_1 => ?_) (fun hc3_1 => ?_)
 ·replace h := yma hc3_1 h
  refine kG [(4, .p (iV 1))] [] trivial ?_
  refine yva (b_r (q_r ?_))
  obtain rfl := oi h
  exact er [(.p (iV 1), 4)]
 replace h := yna hc3_1 h
 refine yja (b_n (q_n (kG [(4, .p (iV 0))] [] trivial ?_)))
 refine yva ?_
 obtain rfl := oi h
 exact er [(.p (iV 0), 4)]
theorem ydd {a0 : Qr} {a1 : Qr}  {r : Bool} (h : ydh a0 a1 = some r) : Meets Tryz.prog 70 [.v (vRt a0), .v (vRt a1)] { vals := [.p (.bool r)] } := by
 refine mo Tryz.func70 [(0, .p (vRt a0)), (1, .p (vRt a1))] ?_
 unfold ydh at h
 refine kG [(2, .box (eRt a0)), (3, .box (eRt a1))] [] trivial ?_
 obtain ⟨v1, hv1, h⟩ := bs h
 refine kG [(4, .p (.bool (decide (v1 < 0))))] [(2, (cN [.p (iV v1)]))] (A1 (yim hv1)) ?_
 refine yva ?_
 obtain rfl := oi h
 exact er [(.p (.bool (decide (v1 < 0))), 4)]
theorem ylv {a0 : Qp}  {r : Bool} (h : ysi a0 = some r) : Meets Tryz.prog 68 [.v (vPt a0)] { vals := [.p (.bool r)] } := by
 refine mo Tryz.func68 [(0, .p (vPt a0))] ?_
 unfold ysi at h
 refine kG [(1, .box (ePt a0))] [] trivial ?_
 obtain ⟨v1, hv1, h⟩ := bs h
 obtain ⟨w7, hw7, h⟩ := bs h
 refine yya (l1 := [(2, .p (.bool w7))]) ?_ ?_
 ·clear h
  rcases ft (!v1) with ha0 | ha0
  ·replace hw7 := yma ha0 hw7
   have hw7 := oi hw7
   subst hw7
   exact (r_dq yca 26 [] [(2, .p (.bool true))] [(2, (cN [.p (.bool v1)])), (5, gT), (6, gT), (7, gT), (8, gT), (9, bT), (11, gT), (12, gT), (13, gT), (14, gT), (15, bT), (17, gT), (18, gT), (19, gT), (20, gT), (21, bT), (23, gT), (24, gT), (25, gT), (26, gT), (27, bT)] (B6 (yvh hv1) ha0 ha0 ha0 ha0 ha0 (B6 tT tT tT tT tT tT (B6 tT tT tT tT tT tT (A3 tT tT tT)))))
  obtain ⟨v2, hv2, hw7⟩ := bs (yna ha0 hw7)
  rcases ft (!v2) with ha1 | ha1
  ·replace hw7 := yma ha1 hw7
   have hw7 := oi hw7
   subst hw7
   exact (r_dq yca 26 [] [(2, .p (.bool true))] [(2, (cN [.p (.bool v1)])), (5, gF), (6, gF), (7, (gN [.p (.bool v2)])), (8, gF), (9, bF), (11, gT), (12, gT), (13, gT), (14, gT), (15, bT), (17, gT), (18, gT), (19, gT), (20, gT), (21, bT), (23, gT), (24, gT), (25, gT), (26, gT), (27, bT)] (B6 (yvh hv1) ha0 ha0 ha0 (ykb hv2) ha0 (B6 ha0 ha1 ha1 ha1 ha1 ha1 (B6 tT tT tT tT tT tT (A4 tT tT tT tT)))))
  replace hw7 := yna ha1 hw7
  rcases ft (decide (a0.2.2 > 100)) with ha2 | ha2
  ·replace hw7 := yma ha2 hw7
   have hw7 := oi hw7
   subst hw7
   exact (r_dq yca 26 [] [(2, .p (.bool true))] [(2, (cN [.p (.bool v1)])), (5, gF), (6, gF), (7, (gN [.p (.bool v2)])), (8, gF), (9, bF), (11, gF), (12, gF), (13, gF), (14, gF), (15, bF), (17, gT), (18, gT), (19, gT), (20, gT), (21, bT), (23, gT), (24, gT), (25, gT), (26, gT), (27, bT)] (B6 (yvh hv1) ha0 ha0 ha0 (ykb hv2) ha0 (B6 ha0 ha1 ha1 ha1 ha1 ha1 (B6 ha2 ha2 ha2 ha2 ha2 tT (A4 tT tT tT tT)))))
  obtain ⟨v3, hv3, hw7⟩ := bs (yna ha2 hw7)
  obtain ⟨v4, hv4, hw7⟩ := bs hw7
  rcases ft v4 with ha3 | ha3
  ·replace hw7 := yma ha3 hw7
   have hw7 := oi hw7
   subst hw7
   exact (r_dq yca 26 [] [(2, .p (.bool true))] [(2, (cN [.p (.bool v1)])), (5, gF), (6, gF), (7, (gN [.p (.bool v2)])), (8, gF), (9, bF), (11, gF), (12, gF), (13, gF), (14, gF), (15, bF), (17, gF), (18, gF), (19, (gN [.p (vRt v3)])), (20, (gN [.p (.bool v4)])), (21, bF), (23, gT), (24, gT), (25, gT), (26, gT), (27, bT)] (B6 (yvh hv1) ha0 ha0 ha0 (ykb hv2) ha0 (B6 ha0 ha1 ha1 ha1 ha1 ha1 (B6 ha2 ha2 ha2 (yge hv3) ha2 (ydd hv4) (A6 ha2 ha3 ha3 ha3 ha3 ha3)))))
  obtain ⟨v5, hv5, hw7⟩ := bs (yna ha3 hw7)
  obtain ⟨v6, hv6, hw7⟩ := bs hw7
  have hw7 := oi hw7
  subst hw7
  exact (r_dq yca 26 [] [(2, .p (.bool v6))] [(2, (cN [.p (.bool v1)])), (5, gF), (6, gF), (7, (gN [.p (.bool v2)])), (8, gF), (9, bF), (11, gF), (12, gF), (13, gF), (14, gF), (15, bF), (17, gF), (18, gF), (19, (gN [.p (vRt v3)])), (20, (gN [.p (.bool v4)])), (21, bF), (23, (gN [.p (vRt v5)])), (24, gF), (25, gF), (26, (gN [.p (.bool v6)])), (27, bF)] (B6 (yvh hv1) ha0 ha0 ha0 (ykb hv2) ha0 (B6 ha0 ha1 ha1 ha1 ha1 ha1 (B6 ha2 ha2 ha2 (yge hv3) ha2 (ydd hv4) (B6 ha2 ha3 (yge hv5) ha3 ha3 ha3 (A2 (ydd hv6) ha3))))))
 refine yva ?_
 obtain rfl := oi h
 exact er [(.p (.bool w7), 2)]
theorem ywn   {r : Qr} (h : yeq  = some r) : Meets Tryz.prog 71 [] { vals := [.p (vRt r)] } := by
 refine mo Tryz.func71 [] ?_
 unfold yeq at h
 refine kG [(0, .box zR)] [] trivial ?_
 refine kG [(0, .box [rI 0, rI 1])] [] trivial ?_
 refine yva ?_
 obtain rfl := oi h
 exact er [(.p (.agg #[.int .i64 0, .int .i64 1]), 0)]
theorem yxn   {r : Qr} (h : yxk  = some r) : Meets Tryz.prog 72 [] { vals := [.p (vRt r)] } := by
 refine mo Tryz.func72 [] ?_
 unfold yxk at h
 refine kG [(0, .box zR)] [] trivial ?_
 refine kG [(0, .box [rI 1, rI 1])] [] trivial ?_
 refine yva ?_
 obtain rfl := oi h
 exact er [(.p (.agg #[.int .i64 1, .int .i64 1]), 0)]
theorem yac {a0 : (List Qp)}  {r : Bool} (h : ync a0 = some r) : Meets Tryz.prog 30 [.d true (sP a0)] { vals := [.p (.bool r)] } := by
 refine mo Tryz.func30 [(0, .d true (sP a0))] ?_
 unfold ync at h
 refine kG [(1, .box (sP a0))] [] trivial ?_
 refine kG [(3, .d false (sP a0))] [(1, bT)] (A1 (frE a0)) ?_
 refine yqb ?_
 obtain ⟨v1, hv1, h⟩ := bs h
 obtain ⟨w3, hw3, h⟩ := bs h
 refine yya (l1 := [(3, .d false (sP a0)), (16, .p (.bool w3))]) ?_ ?_
 ·clear h
  rcases ft (!v1) with ha0 | ha0
  ·replace hw3 := yma ha0 hw3
   have hw3 := oi hw3
   subst hw3
   exact (r_gq [(3, .d false (sP a0)), (16, .p (.bool true))] [(1, {n := some a0.length}), (2, (cN [.p (.bool v1)])), (5, gT), (6, gT), (7, bT)] (A5 (lnP a0) (ylf hv1) ha0 ha0 ha0))
  obtain ⟨v2, hv2, hw3⟩ := bs (yna ha0 hw3)
  have hw3 := oi hw3
  subst hw3
  exact (r_gq [(3, .d false (sP a0)), (16, .p (.bool v2))] [(1, {n := some a0.length}), (2, (cN [.p (.bool v1)])), (5, gF), (6, (gN [.p (.bool v2)])), (7, bF)] (A6 (lnP a0) (ylf hv1) ha0 ha0 (show Meets Tryz.prog 67 ([.d false (sP a0), .v (.func (.func 68) #[] #[])] ++ []) { vals := [.p (.bool v2)] } from (yue (fun x0 y hy => ylv hy) hv2)) ha0))
 refine kc w3 (fun hc2_3 => ?_) (fun hc2_3 => ?_)
 ·replace h := yma hc2_3 h
  refine kG [(2, .p (.bool false))] [] trivial ?_
  refine yva (q_r ?_)
  obtain rfl := oi h
  exact er [(.p (.bool false), 2)]
 replace h := yna hc2_3 h
 refine yja (q_n (yhd (J := fun (x : Unit) => [(3, .d false (sP a0))]) (K := fun x => yfj a0 x = some r) (fun x5 h => ?_) ?_))
 ·unfold yfj at h
  obtain ⟨v6, hv6, h⟩ := bs h
  obtain ⟨v7, hv7, h⟩ := bs h
  refine yya (r_dq yca 12 [(11, 5)] [(5, .box (ePt v6)), (6, .box (ePt v7))] [(1, {row := some (ePt v6)}), (5, {n := some a0.length}), (7, {row := some (ePt v7)})] (A5 (yba hv6).1 (yia ePt (yba hv6).2) (lnP a0) (yba hv7).1 (yia ePt (yba hv7).2))) ?_
  obtain ⟨v8, hv8, h⟩ := bs h
  obtain ⟨w10, hw10, h⟩ := bs h
  refine yya (l1 := [(2, .p (.bool w10))]) ?_ ?_
  ·clear h
   rcases ft ((v6.1.1 == v8.1) && (v6.1.2 == v8.2)) with ha1 | ha1
   ·obtain ⟨v9, hv9, hw10⟩ := bs (yma ha1 hw10)
    rcases ft ((v7.1.1 == v9.1) && (v7.1.2 == v9.2)) with ha2 | ha2
    ·replace hw10 := yma ha2 hw10
     have hw10 := oi hw10
     subst hw10
     exact (r_dq yca 24 [] [(2, .p (.bool ((v7.2.1 == (w64 (v6.2.1 + v6.2.2))) && (v7.2.2 == v6.2.2))))] [(2, (cN [.p (vRt v8)])), (3, {pv := some (.bool ((v6.1.1 == v8.1) && (v6.1.2 == v8.2)))}), (5, gT), (6, gT), (7, {g := some true, call := some (none, [.p (vRt v9)], true)}), (8, {g := some true, pv := some (.bool ((v7.1.1 == v9.1) && (v7.1.2 == v9.2)))}), (9, bT), (11, gT), (12, gT), (13, gT), (14, gT), (15, gT), (16, gT), (17, gT), (18, gT), (19, gT), (20, gT), (21, gT), (22, gT), (23, gT), (24, {g := some true, pv := some (.bool ((v7.2.1 == (w64 (v6.2.1 + v6.2.2))) && (v7.2.2 == v6.2.2)))}), (25, bT)] (B6 (ywn hv8) (show PureAt Tryz.prog (.binOp .eql 27 (.tmp 60) (.tmp 61) 27) [vRt v6.1, vRt v8] (.bool ((v6.1.1 == v8.1) && (v6.1.2 == v8.2))) from (ygg (by kernel_rfl))) ha1 ha1 ha1 (yxn hv9) (B6 ha1 (show PureAt Tryz.prog (.binOp .eql 27 (.tmp 65) (.tmp 66) 27) [vRt v7.1, vRt v9] (.bool ((v7.1.1 == v9.1) && (v7.1.2 == v9.2))) from (ygg (by kernel_rfl))) ha1 ha2 ha2 ha2 (B6 ha2 ha2 ha2 ha2 ha2 ha2 (B6 ha2 ha2 ha2 ha2 ha2 (show PureAt Tryz.prog (.binOp .eql 27 (.tmp 71) (.tmp 82) 27) [vRt v7.2, .agg #[.int .i64 (w64 (v6.2.1 + v6.2.2)), .int .i64 v6.2.2]] (.bool ((v7.2.1 == (w64 (v6.2.1 + v6.2.2))) && (v7.2.2 == v6.2.2))) from (ygg (by kernel_rfl))) (A1 ha2))))))
    replace hw10 := yna ha2 hw10
    have hw10 := oi hw10
    subst hw10
    exact (r_dq yca 24 [] [(2, .p (.bool false))] [(2, (cN [.p (vRt v8)])), (3, {pv := some (.bool ((v6.1.1 == v8.1) && (v6.1.2 == v8.2)))}), (5, gT), (6, gT), (7, {g := some true, call := some (none, [.p (vRt v9)], true)}), (8, {g := some true, pv := some (.bool ((v7.1.1 == v9.1) && (v7.1.2 == v9.2)))}), (9, bT), (11, gF), (12, gF), (13, gF), (14, gF), (15, gF), (16, gF), (17, gF), (18, gF), (19, gF), (20, gF), (21, gF), (22, gF), (23, gF), (24, gF), (25, bF)] (B6 (ywn hv8) (show PureAt Tryz.prog (.binOp .eql 27 (.tmp 60) (.tmp 61) 27) [vRt v6.1, vRt v8] (.bool ((v6.1.1 == v8.1) && (v6.1.2 == v8.2))) from (ygg (by kernel_rfl))) ha1 ha1 ha1 (yxn hv9) (B6 ha1 (show PureAt Tryz.prog (.binOp .eql 27 (.tmp 65) (.tmp 66) 27) [vRt v7.1, vRt v9] (.bool ((v7.1.1 == v9.1) && (v7.1.2 == v9.2))) from (ygg (by kernel_rfl))) ha1 ha2 ha2 ha2 (B6 ha2 ha2 ha2 ha2 ha2 ha2 (A6 ha2 ha2 ha2 ha2 ha2 ha2)))))
   replace hw10 := yna ha1 hw10
   have hw10 := oi hw10
   subst hw10
   exact (r_dq yca 24 [] [(2, .p (.bool false))] [(2, (cN [.p (vRt v8)])), (3, {pv := some (.bool ((v6.1.1 == v8.1) && (v6.1.2 == v8.2)))}), (5, gF), (6, gF), (7, gF), (8, gF), (9, bF), (11, gF), (12, gF), (13, gF), (14, gF), (15, gF), (16, gF), (17, gF), (18, gF), (19, gF), (20, gF), (21, gF), (22, gF), (23, gF), (24, gF), (25, bF)] (B6 (ywn hv8) (show PureAt Tryz.prog (.binOp .eql 27 (.tmp 60) (.tmp 61) 27) [vRt v6.1, vRt v8] (.bool ((v6.1.1 == v8.1) && (v6.1.2 == v8.2))) from (ygg (by kernel_rfl))) ha1 ha1 ha1 ha1 (B6 ha1 fF fF fF fF fF (B6 fF fF fF fF fF fF (A4 fF fF fF fF)))))
  refine yva ?_
  obtain rfl := oi h
  exact er [(.p (.bool w10), 2)]
 refine kG [(3, .d false (sP a0)), (4, .p (iV 1))] [] trivial ?_
 refine ywa ?_
 obtain ⟨y12, hl_x11, hk_x11⟩ := bs h
 clear h
 refine yuh (J := fun (x : Int) => [(3, .d false (sP a0)), (4, .p (iV x))]) hl_x11 wkk (fun x11 o_x11 h hy_x11 => ?_)
 unfold ygj at h
 refine yqb (kG [(3, .d false (sP a0)), (4, .p (iV x11)), (20, .p (.bool (decide (x11 < (a0.length : Int)))))] [(2, {n := some a0.length})] (A1 (lnP a0)) ?_)
 refine kc (decide (x11 < (a0.length : Int))) (fun hc5_12 => ?_) (fun hc5_12 => ?_)
 ·replace h := yma hc5_12 h
  refine yja (q_n (yqb (ywa ?_)))
  obtain ⟨v14, hv14, h⟩ := bs h
  obtain ⟨v15, hv15, h⟩ := bs h
  obtain ⟨v16, hv16, h⟩ := bs h
  obtain ⟨w18, hw18, h⟩ := bs h
  refine yya (l1 := [(3, .d false (sP a0)), (4, .p (iV x11)), (49, .p (.bool w18))]) ?_ ?_
  ·clear h
   rcases ft (!v16) with ha2 | ha2
   ·replace hw18 := yma ha2 hw18
    have hw18 := oi hw18
    subst hw18
    exact (r_dq yca 25 [] [(3, .d false (sP a0)), (4, .p (iV x11)), (49, .p (.bool true))] [(3, {row := some (ePt v14)}), (8, {row := some (ePt v15)}), (11, (cN [.p (.bool v16)])), (14, gT), (15, gT), (16, gT), (17, gT), (18, gT), (19, gT), (20, gT), (21, gT), (22, gT), (23, gT), (24, gT), (25, gT), (26, bT)] (B6 (yba hv14).1 (yia ePt (yba hv14).2) (yba hv15).1 (yia ePt (yba hv15).2) (ydd hv16) ha2 (B6 ha2 ha2 ha2 ha2 ha2 ha2 (A6 ha2 ha2 ha2 ha2 ha2 ha2))))
   obtain ⟨v17, hv17, hw18⟩ := bs (yna ha2 hw18)
   have hw18 := oi hw18
   subst hw18
   exact (r_dq yca 25 [] [(3, .d false (sP a0)), (4, .p (iV x11)), (49, .p (.bool v17))] [(3, {row := some (ePt v14)}), (8, {row := some (ePt v15)}), (11, (cN [.p (.bool v16)])), (14, gF), (15, gF), (16, {g := some false, row := some (ePt v15)}), (17, gF), (18, gF), (19, gF), (20, gF), (21, gF), (22, {g := some false, row := some (ePt v14)}), (23, gF), (24, gF), (25, (gN [.p (.bool v17)])), (26, bF)] (B6 (yba hv14).1 (yia ePt (yba hv14).2) (yba hv15).1 (yia ePt (yba hv15).2) (ydd hv16) ha2 (B6 ha2 ha2 (yba hv15).1 (yia ePt (yba hv15).2) ha2 ha2 (B6 ha2 ha2 ha2 ha2 (yba hv14).1 (yia ePt (yba hv14).2) (A5 ha2 ha2 ha2 (ydd hv17) ha2)))))
  refine kc w18 (fun hc6_18 => ?_) (fun hc6_18 => ?_)
  ·replace h := yma hc6_18 h
   refine kG [(2, .p (.bool false))] [] trivial ?_
   refine yva (b_r (q_r (lq_r ?_)))
   refine b_r (q_r ?_)
   have hyy := hy_x11 _ (oi h).symm
   subst hyy
   have h := hk_x11
   dsimp only [Sum.elim] at h
   obtain rfl := oi h
   exact er [(.p (.bool false), 2)]
  replace h := yna hc6_18 h
  refine yja (b_n (q_n (yff (r_gq [(3, .d false (sP a0)), (4, .p (iV (w64 (x11 + 1))))] [] trivial) ?_)))
  exact lqn (w64 (x11 + 1)) h
 replace h := yna hc5_12 h
 refine ykg (q_x (lq_x (b_x ?_)))
 have hyy := hy_x11 _ (oi h).symm
 subst hyy
 have h := hk_x11
 dsimp only [Sum.elim] at h
 refine q_n ?_
 exact jx () h
theorem ywo {a0 : Qr}  {r : Bool} (h : yml a0 = some r) : Meets Tryz.prog 31 [.v (vRt a0)] { vals := [.p (.bool r)] } := by
 refine mo Tryz.func31 [(0, .p (vRt a0))] ?_
 unfold yml at h
 refine kG [(1, .box (eRt a0))] [] trivial ?_
 obtain ⟨v1, hv1, h⟩ := bs h
 obtain ⟨w6, hw6, h⟩ := bs h
 refine yya (l1 := [(2, .p (.bool w6))]) ?_ ?_
 ·clear h
  rcases ft v1 with ha0 | ha0
  ·obtain ⟨v2, hv2, hw6⟩ := bs (yma ha0 hw6)
   obtain ⟨v3, hv3, hw6⟩ := bs hw6
   rcases ft (!v3) with ha1 | ha1
   ·obtain ⟨v4, hv4, hw6⟩ := bs (yma ha1 hw6)
    obtain ⟨v5, hv5, hw6⟩ := bs hw6
    have hw6 := oi hw6
    subst hw6
    exact (r_dq yca 11 [] [(2, .p (.bool (!v5)))] [(1, (cN [.p (.bool v1)])), (3, gT), (4, {g := some true, call := some (none, [.p (vRt v2)], true)}), (5, {g := some true, call := some (none, [.p (.bool v3)], true)}), (6, gT), (7, bT), (9, {g := some true, call := some (none, [.p (vRt v4)], true)}), (10, gT), (11, {g := some true, call := some (none, [.p (.bool v5)], true)}), (12, gT), (13, bT)] (B6 (ykb hv1) ha0 ha0 (yge hv2) ha0 (ydd hv3) (B6 ha0 ha0 ha1 (yge hv4) ha1 ha1 (A3 (ydd hv5) ha1 ha1))))
   replace hw6 := yna ha1 hw6
   have hw6 := oi hw6
   subst hw6
   exact (r_dq yca 11 [] [(2, .p (.bool false))] [(1, (cN [.p (.bool v1)])), (3, gT), (4, {g := some true, call := some (none, [.p (vRt v2)], true)}), (5, {g := some true, call := some (none, [.p (.bool v3)], true)}), (6, gT), (7, bT), (9, gF), (10, gF), (11, gF), (12, gF), (13, bF)] (B6 (ykb hv1) ha0 ha0 (yge hv2) ha0 (ydd hv3) (B6 ha0 ha0 ha1 ha1 ha1 ha1 (A1 ha1))))
  replace hw6 := yna ha0 hw6
  have hw6 := oi hw6
  subst hw6
  exact (r_dq yca 11 [] [(2, .p (.bool false))] [(1, (cN [.p (.bool v1)])), (3, gF), (4, gF), (5, gF), (6, gF), (7, bF), (9, gF), (10, gF), (11, gF), (12, gF), (13, bF)] (B6 (ykb hv1) ha0 ha0 ha0 ha0 ha0 (A5 fF fF fF fF fF)))
 refine yva ?_
 obtain rfl := oi h
 exact er [(.p (.bool w6), 2)]
theorem ycs {a0 : Int} {a1 : Int}  {r : Int} (h : ysg a0 a1 = some r) : Meets Tryz.prog 104 [wI a0, wI a1] { vals := [.p (iV r)] } := by
 refine mo Tryz.func104 [(0, .p (iV a0)), (1, .p (iV a1))] ?_
 unfold ysg at h
 refine kG [(0, .p (iV a0)), (1, .p (iV a1))] [] trivial ?_
 obtain ⟨u1, hu1, h⟩ := bs h
 refine kG [(0, .p (iV a0)), (1, .p (iV a1)), (5, .p (iV (w64 (Int.tdiv a0 a1))))] [] (A1 (yea hu1)) ?_
 refine yqb (kG [(5, .p (iV (w64 (Int.tdiv a0 a1)))), (12, .p (.bool (decide ((Int.tmod a0 a1) < 0))))] [] (A1 (yea hu1)) ?_)
 refine kc (decide ((Int.tmod a0 a1) < 0)) (fun hc2_1 => ?_) (fun hc2_1 => ?_)
 ·replace h := yma hc2_1 h
  refine yff (r_gq [(5, .p (iV (w64 ((w64 (Int.tdiv a0 a1)) - 1))))] [] trivial) ?_
  refine q_n (kG [(4, .p (iV (w64 ((w64 (Int.tdiv a0 a1)) - 1))))] [] trivial ?_)
  refine yva ?_
  obtain rfl := oi h
  exact er [(.p (iV (w64 ((w64 (Int.tdiv a0 a1)) - 1))), 4)]
 replace h := yna hc2_1 h
 refine yja (q_n (kG [(4, .p (iV (w64 (Int.tdiv a0 a1))))] [] trivial ?_))
 refine yva ?_
 obtain rfl := oi h
 exact er [(.p (iV (w64 (Int.tdiv a0 a1))), 4)]
theorem ygk {a0 : Qr}  {r : Int} (h : yxh a0 = some r) : Meets Tryz.prog 60 [.v (vRt a0)] { vals := [.p (iV r)] } := by
 refine mo Tryz.func60 [(0, .p (vRt a0))] ?_
 unfold yxh at h
 refine kG [(1, .box (eRt a0))] [] trivial ?_
 obtain ⟨v1, hv1, h⟩ := bs h
 refine kG [(2, .p (iV v1))] [(4, (cN [.p (iV v1)]))] (A1 (ycs hv1)) ?_
 refine yva ?_
 obtain rfl := oi h
 exact er [(.p (iV v1), 2)]
theorem yel {a0 : Qr}  {r : Qr} (h : yde a0 = some r) : Meets Tryz.prog 73 [.v (vRt a0)] { vals := [.p (vRt r)] } := by
 refine mo Tryz.func73 [(0, .p (vRt a0))] ?_
 unfold yde at h
 refine kG [(1, .box (eRt a0)), (2, .box zR)] [] trivial ?_
 obtain ⟨v1, hv1, h⟩ := bs h
 refine yya (r_dq yca 10 [] [(2, .box [rI (w64 (a0.1 - (w64 (v1 * a0.2)))), rI a0.2])] [(3, (cN [.p (iV v1)]))] (A1 (ygk hv1))) ?_
 refine yva ?_
 obtain rfl := oi h
 exact er [(.p (.agg #[.int .i64 (w64 (a0.1 - (w64 (v1 * a0.2)))), .int .i64 a0.2]), 2)]
theorem ygw {a0 : Qr}  {r : Qr} (h : ynl a0 = some r) : Meets Tryz.prog 103 [.v (vRt a0)] { vals := [.p (vRt r)] } := by
 refine mo Tryz.func103 [(0, .p (vRt a0))] ?_
 unfold ynl at h
 refine kG [(1, .box (eRt a0)), (2, .box zR)] [] trivial ?_
 refine kG [(2, .box [rI (w64 (0 - a0.1)), rI a0.2])] [] trivial ?_
 refine yva ?_
 obtain rfl := oi h
 exact er [(.p (.agg #[.int .i64 (w64 (0 - a0.1)), .int .i64 a0.2]), 2)]
theorem ybk {a0 : (List Qr)}  {r : Bool} (h : yli a0 = some r) : Meets Tryz.prog 130 [.d false [.sl none (a0.map eRt)]] { vals := [.p (.bool r)] } := by
 refine mo Tryz.func130 [(0, .d false [.sl none (a0.map eRt)])] ?_
 unfold yli at h
 refine kG [(0, .d false [.sl none (a0.map eRt)])] [] trivial ?_
 refine yhd (J := fun (x : Unit) => []) (K := fun x => yqm x = some r) (fun x1 h => ?_) ?_
 ·unfold yqm at h
  refine kG [(2, .p (.bool true))] [] trivial ?_
  refine yva ?_
  obtain rfl := oi h
  exact er [(.p (.bool true), 2)]
 refine kG [(5, .d false [.sl none (a0.map eRt)]), (6, .p (iV (a0.length : Int))), (7, .p (iV 0))] [(1, {n := some a0.length})] (A1 (show (a0.map eRt).length = a0.length from (List.length_map ..))) ?_
 refine ywa ?_
 obtain ⟨y3, hl_x2, hk_x2⟩ := bs h
 clear h
 refine yuh (J := fun (x : Int) => [(5, .d false [.sl none (a0.map eRt)]), (6, .p (iV (a0.length : Int))), (7, .p (iV x))]) hl_x2 wkk (fun x2 o_x2 h hy_x2 => ?_)
 unfold yyh at h
 refine kG [(5, .d false [.sl none (a0.map eRt)]), (6, .p (iV (a0.length : Int))), (7, .p (iV x2)), (8, .p (.bool (decide (x2 < (a0.length : Int)))))] [] trivial ?_
 refine yqb (kc (decide (x2 < (a0.length : Int))) (fun hc5_3 => ?_) (fun hc5_3 => ?_))
 ·replace h := yma hc5_3 h
  refine yja (q_n (yqb (ywa ?_)))
  obtain ⟨v5, hv5, h⟩ := bs h
  refine kG [(4, .box (eRt v5)), (5, .d false [.sl none (a0.map eRt)]), (6, .p (iV (a0.length : Int))), (7, .p (iV x2))] [(0, {row := some (eRt v5)})] (A2 (yba hv5).1 (yia eRt (yba hv5).2)) ?_
  obtain ⟨v6, hv6, h⟩ := bs h
  refine kG [(5, .d false [.sl none (a0.map eRt)]), (6, .p (iV (a0.length : Int))), (7, .p (iV x2)), (13, .p (.bool (!v6)))] [(1, (cN [.p (.bool v6)]))] (A1 (ykb hv6)) ?_
  refine kc (!v6) (fun hc6_6 => ?_) (fun hc6_6 => ?_)
  ·replace h := yma hc6_6 h
   refine kG [(2, .p (.bool false))] [] trivial ?_
   refine yva (b_r (q_r (lq_r ?_)))
   refine b_r (q_r ?_)
   have hyy := hy_x2 _ (oi h).symm
   subst hyy
   have h := hk_x2
   dsimp only [Sum.elim] at h
   obtain rfl := oi h
   exact er [(.p (.bool false), 2)]
  replace h := yna hc6_6 h
  refine yja (b_n (q_n (yff (r_gq [(5, .d false [.sl none (a0.map eRt)]), (6, .p (iV (a0.length : Int))), (7, .p (iV (w64 (x2 + 1))))] [] trivial) ?_)))
  exact lqn (w64 (x2 + 1)) h
 replace h := yna hc5_3 h
 refine ykg (q_x (lq_x (b_x ?_)))
 have hyy := hy_x2 _ (oi h).symm
 subst hyy
 have h := hk_x2
 dsimp only [Sum.elim] at h
 refine q_n ?_
 exact jx () h
theorem yyn {a0 : Int} {a1 : Int}  {r : (Qr × Bool)} (h : ytj a0 a1 = some r) : Meets Tryz.prog 131 [wI a0, wI a1] { vals := [.p (vRt r.1), .p (.bool r.2)] } := by
 refine mo Tryz.func131 [(0, .p (iV a0)), (1, .p (iV a1))] ?_
 unfold ytj at h
 refine kG [(0, .p (iV a0)), (1, .p (iV a1)), (4, .box zR)] [] trivial ?_
 obtain ⟨v1, hv1, h⟩ := bs h
 refine kG [(0, .p (iV a0)), (1, .p (iV a1)), (4, .box zR), (6, .p (iV v1))] [(2, (cN [.p (iV v1)]))] (A1 (ylj hv1)) ?_
 refine yhd (J := fun (x : Int) => [(0, .p (iV a0)), (1, .p (iV a1)), (4, .box zR), (6, .p (iV x))]) (K := fun x => yeh a0 a1 x = some r) (fun x2 h => ?_) ?_
 ·unfold yeh at h
  obtain ⟨u3, hu3, h⟩ := bs h
  refine yya (r_dq yca 8 [] [(4, .box zR), (7, .box [rI (w64 (Int.tdiv a0 x2)), rI (w64 (Int.tdiv a1 x2))])] [] (A2 (yea hu3) (yea hu3))) ?_
  refine yqb ?_
  obtain ⟨v4, hv4, h⟩ := bs h
  refine kG [(4, .box zR), (7, .box [rI (w64 (Int.tdiv a0 x2)), rI (w64 (Int.tdiv a1 x2))]), (24, .p (.bool (!v4)))] [(1, (cN [.p (.bool v4)]))] (A1 (ykb hv4)) ?_
  refine kc (!v4) (fun hc2_4 => ?_) (fun hc2_4 => ?_)
  ·replace h := yma hc2_4 h
   refine kG [(4, .box zR), (5, .p (.bool false))] [] trivial ?_
   refine yva (q_r ?_)
   obtain rfl := oi h
   exact er [(.p (.agg #[.int .i64 0, .int .i64 0]), 4), (.p (.bool false), 5)]
  replace h := yna hc2_4 h
  refine yja (q_n (kG [(4, .box [rI (w64 (Int.tdiv a0 x2)), rI (w64 (Int.tdiv a1 x2))]), (5, .p (.bool true))] [] trivial ?_))
  refine yva ?_
  obtain rfl := oi h
  exact er [(.p (.agg #[.int .i64 (w64 (Int.tdiv a0 x2)), .int .i64 (w64 (Int.tdiv a1 x2))]), 4), (.p (.bool true), 5)]
 refine kG [(0, .p (iV a0)), (1, .p (iV a1)), (4, .box zR), (6, .p (iV v1)), (12, .p (.bool (decide (a1 < 0))))] [] trivial ?_
 refine kc (decide (a1 < 0)) (fun hc2_5 => ?_) (fun hc2_5 => ?_)
 ·replace h := yma hc2_5 h
  refine yff (r_gq [(0, .p (iV a0)), (1, .p (iV a1)), (4, .box zR), (6, .p (iV (w64 (0 - v1))))] [] trivial) ?_
  refine q_n ?_
  exact jx (w64 (0 - v1)) h
 replace h := yna hc2_5 h
 refine yja (q_n ?_)
 exact jx v1 h
theorem ylq {a0 : Qr} {a1 : Qr}  {r : (Qr × Bool)} (h : ymi a0 a1 = some r) : Meets Tryz.prog 102 [.v (vRt a0), .v (vRt a1)] { vals := [.p (vRt r.1), .p (.bool r.2)] } := by
 refine mo Tryz.func102 [(0, .p (vRt a0)), (1, .p (vRt a1))] ?_
 unfold ymi at h
 refine kG [(2, .box (eRt a0)), (3, .box (eRt a1)), (4, .box zR)] [] trivial ?_
 refine yqb ?_
 obtain ⟨v1, hv1, h⟩ := bs h
 refine kG [(2, .box (eRt a0)), (3, .box (eRt a1)), (4, .box zR), (10, .p (.bool (!v1)))] [(3, (cS [.d false [.sl none (([a0, a1]).map eRt)]] [.p (.bool v1)]))] (A2 (show ([.d false [.sl none (eraL (([a0, a1]).map eRt))]] : List Arg) = [.d false [.sl none (([a0, a1]).map eRt)]] from (by simp only [yza (h := eRt) (ysm er_I er_I)])) (ybk hv1)) ?_
 refine kc (!v1) (fun hc2_1 => ?_) (fun hc2_1 => ?_)
 ·replace h := yma hc2_1 h
  refine kG [(4, .box zR), (5, .p (.bool false))] [] trivial ?_
  refine yva (q_r ?_)
  obtain rfl := oi h
  exact er [(.p (.agg #[.int .i64 0, .int .i64 0]), 4), (.p (.bool false), 5)]
 replace h := yna hc2_1 h
 refine yja (q_n ?_)
 obtain ⟨v3, hv3, h⟩ := bs h
 refine kG [(4, .box (eRt v3.1)), (5, .p (.bool v3.2))] [(16, (cN [.p (vRt v3.1), .p (.bool v3.2)]))] (A1 (yyn hv3)) ?_
 refine yva ?_
 obtain rfl := oi h
 exact er [(.p (vRt v3.1), 4), (.p (.bool v3.2), 5)]
theorem yfl {a0 : Qr} {a1 : Qr}  {r : (Qr × Bool)} (h : yed a0 a1 = some r) : Meets Tryz.prog 58 [.v (vRt a0), .v (vRt a1)] { vals := [.p (vRt r.1), .p (.bool r.2)] } := by
 refine mo Tryz.func58 [(0, .p (vRt a0)), (1, .p (vRt a1))] ?_
 unfold yed at h
 refine kG [(2, .box (eRt a0)), (3, .box (eRt a1)), (4, .box zR)] [] trivial ?_
 obtain ⟨v1, hv1, h⟩ := bs h
 obtain ⟨v2, hv2, h⟩ := bs h
 refine yya (r_dq yca 3 [] [(4, .box (eRt v2.1)), (5, .p (.bool v2.2))] [(2, (cN [.p (vRt v1)])), (3, (cN [.p (vRt v2.1), .p (.bool v2.2)]))] (A2 (ygw hv1) (ylq hv2))) ?_
 refine yva ?_
 obtain rfl := oi h
 exact er [(.p (vRt v2.1), 4), (.p (.bool v2.2), 5)]
theorem yhi {a0 : Bool} {a1 : Qr} {a2 : Bool}  {r : (Qr × Bool)} (h : yme a0 a1 a2 = some r) : MeetsB Tryz.prog 110 (.box [.raw (.bool a0)]) [.v (vRt a1), .v (.bool a2)] [.p (vRt r.1)] (.box [.raw (.bool r.2)]) := by
 refine mob Tryz.func110 [(0, .box [.raw (.bool a0)]), (1, .p (vRt a1)), (2, .p (.bool a2))] ?_
 unfold yme at h
 refine kG [(0, .box [.raw (.bool a0)]), (2, .p (.bool a2)), (4, .box (eRt a1)), (6, .box zR)] [] trivial ?_
 refine yqb (kG [(0, .box [.raw (.bool a0)]), (4, .box (eRt a1)), (6, .box zR), (8, .p (.bool (!a2)))] [] trivial ?_)
 refine kc (!a2) (fun hc2_0 => ?_) (fun hc2_0 => ?_)
 ·replace h := yma hc2_0 h
  refine kG [(0, .box [.raw (.bool true)]), (6, .box zR)] [] trivial ?_
  obtain ⟨v2, hv2, h⟩ := bs h
  refine kG [(0, .box [.raw (.bool true)]), (6, .box (eRt v2))] [(0, (cN [.p (vRt v2)]))] (A1 (ywn hv2)) ?_
  refine yva (q_r ?_)
  obtain rfl := oi h
  exact ebr [(.p (vRt v2), 6)]
 replace h := yna hc2_0 h
 refine yja (q_n (kG [(0, .box [.raw (.bool a0)]), (6, .box (eRt a1))] [] trivial ?_))
 refine yva ?_
 obtain rfl := oi h
 exact ebr [(.p (vRt a1), 6)]
theorem ytc {a0 : Bool} {a1 : Qr} {a2 : Qr}  {r : (Qr × Bool)} (h : ygc a0 a1 a2 = some r) : MeetsB Tryz.prog 74 (.box [.raw (.bool a0)]) [.v (vRt a1), .v (vRt a2)] [.p (vRt r.1)] (.box [.raw (.bool r.2)]) := by
 refine mob Tryz.func74 [(0, .box [.raw (.bool a0)]), (1, .p (vRt a1)), (2, .p (vRt a2))] ?_
 unfold ygc at h
 refine kG [(0, .box [.raw (.bool a0)]), (4, .box (eRt a1)), (5, .box (eRt a2)), (6, .box zR)] [] trivial ?_
 obtain ⟨v1, hv1, h⟩ := bs h
 obtain ⟨v2, hv2, h⟩ := bs h
 refine kG [(0, .box [.raw (.bool v2.2)]), (6, .box (eRt v2.1))] [(3, (cN [.p (vRt v1.1), .p (.bool v1.2)])), (6, (lNt [.p (vRt v2.1)] (.box [.raw (.bool v2.2)])))] (A2 (yfl hv1) (yhi hv2)) ?_
 refine yva ?_
 obtain rfl := oi h
 exact ebr [(.p (vRt v2.1), 6)]
theorem ylg {a0 : Bool} {a1 : Qr} {a2 : Qr}  {r : (Qr × Bool)} (h : yne a0 a1 a2 = some r) : MeetsB Tryz.prog 75 (.box [.raw (.bool a0)]) [.v (vRt a1), .v (vRt a2)] [.p (vRt r.1)] (.box [.raw (.bool r.2)]) := by
 refine mob Tryz.func75 [(0, .box [.raw (.bool a0)]), (1, .p (vRt a1)), (2, .p (vRt a2))] ?_
 unfold yne at h
 refine kG [(0, .box [.raw (.bool a0)]), (4, .box (eRt a1)), (5, .box (eRt a2)), (6, .box zR)] [] trivial ?_
 obtain ⟨v1, hv1, h⟩ := bs h
 obtain ⟨v2, hv2, h⟩ := bs h
 refine kG [(0, .box [.raw (.bool v2.2)]), (6, .box (eRt v2.1))] [(3, (cN [.p (vRt v1.1), .p (.bool v1.2)])), (6, (lNt [.p (vRt v2.1)] (.box [.raw (.bool v2.2)])))] (A2 (ylq hv1) (yhi hv2)) ?_
 refine yva ?_
 obtain rfl := oi h
 exact ebr [(.p (vRt v2.1), 6)]
theorem ybc {a0 : (List Qp)} {a1 : (Qp → Option Bool)} {F1 : FuncId} {K1 : List (Bool × List C)} (hp1 : ∀ x0 y, a1 x0 = some y → Meets Tryz.prog F1 ([.v (vPt x0)] ++ (K1.map fun (g, cs) => mkA g cs)) { vals := [.p (.bool y)] }) {r : Int} (h : yfa a0 a1 = some r) : Meets Tryz.prog 76 [.d false (sP a0), .d false [.fn F1 K1]] { vals := [.p (iV r)] } := by
 refine mo Tryz.func76 [(0, .d false (sP a0)), (1, .d false [.fn F1 K1])] ?_
 unfold yfa at h
 refine kG [(0, .d false (sP a0)), (1, .d false [.fn F1 K1])] [] trivial ?_
 refine yhd (J := fun (x : Unit) => []) (K := fun x => yqa x = some r) (fun x1 h => ?_) ?_
 ·unfold yqa at h
  refine kG [(4, .p (iV (-1)))] [] trivial ?_
  refine yva ?_
  obtain rfl := oi h
  exact er [(.p (iV (-1)), 4)]
 refine kG [(0, .d false (sP a0)), (1, .d false [.fn F1 K1]), (7, .p (iV (a0.length : Int))), (8, .p (iV 0))] [(1, {n := some a0.length})] (A1 (lnP a0)) ?_
 refine ywa ?_
 obtain ⟨y3, hl_x2, hk_x2⟩ := bs h
 clear h
 refine yuh (J := fun (x : Int) => [(0, .d false (sP a0)), (1, .d false [.fn F1 K1]), (7, .p (iV (a0.length : Int))), (8, .p (iV x))]) hl_x2 wkk (fun x2 o_x2 h hy_x2 => ?_)
 unfold yga at h
 refine kG [(0, .d false (sP a0)), (1, .d false [.fn F1 K1]), (7, .p (iV (a0.length : Int))), (8, .p (iV x2)), (9, .p (.bool (decide (x2 < (a0.length : Int)))))] [] trivial ?_
 refine yqb (kc (decide (x2 < (a0.length : Int))) (fun hc5_3 => ?_) (fun hc5_3 => ?_))
 ·replace h := yma hc5_3 h
  refine yja (q_n (yqb (ywa (kG [(0, .d false (sP a0)), (1, .d false [.fn F1 K1]), (5, .p (iV x2)), (7, .p (iV (a0.length : Int))), (8, .p (iV x2))] [] trivial ?_))))
  obtain ⟨v5, hv5, h⟩ := bs h
  obtain ⟨v6, hv6, h⟩ := bs h
  refine kG [(0, .d false (sP a0)), (1, .d false [.fn F1 K1]), (5, .p (iV x2)), (7, .p (iV (a0.length : Int))), (8, .p (iV x2)), (16, .p (.bool v6))] [(3, {row := some (ePt v5)}), (5, (cN [.p (.bool v6)]))] (A3 (yba hv5).1 (yia ePt (yba hv5).2) (hp1 _ _ hv6)) ?_
  refine kc v6 (fun hc6_6 => ?_) (fun hc6_6 => ?_)
  ·replace h := yma hc6_6 h
   refine kG [(4, .p (iV x2))] [] trivial ?_
   refine yva (b_r (q_r (lq_r ?_)))
   refine b_r (q_r ?_)
   have hyy := hy_x2 _ (oi h).symm
   subst hyy
   have h := hk_x2
   dsimp only [Sum.elim] at h
   obtain rfl := oi h
   exact er [(.p (iV x2), 4)]
  replace h := yna hc6_6 h
  refine yja (b_n (q_n (yff (r_gq [(0, .d false (sP a0)), (1, .d false [.fn F1 K1]), (7, .p (iV (a0.length : Int))), (8, .p (iV (w64 (x2 + 1))))] [] trivial) ?_)))
  exact lqn (w64 (x2 + 1)) h
 replace h := yna hc5_3 h
 refine ykg (q_x (lq_x (b_x ?_)))
 have hyy := hy_x2 _ (oi h).symm
 subst hyy
 have h := hk_x2
 dsimp only [Sum.elim] at h
 refine q_n ?_
 exact jx () h
theorem ycn {a0 : Qp} {c0 : Qr}  {r : Bool} (h : yxc a0 c0 = some r) : Meets Tryz.prog 77 [.v (vPt a0), .d false [.pt (eRt c0)]] { vals := [.p (.bool r)] } := by
 refine mo Tryz.func77 [(0, .p (vPt a0)), (1, .d false [.pt (eRt c0)])] ?_
 unfold yxc at h
 refine kG [(1, .d false [.pt (eRt c0)]), (2, .box (ePt a0))] [] trivial ?_
 obtain ⟨v1, hv1, h⟩ := bs h
 refine kG [(3, .p (.bool (!v1)))] [(3, (cN [.p (.bool v1)]))] (A1 (ydd hv1)) ?_
 refine yva ?_
 obtain rfl := oi h
 exact er [(.p (.bool (!v1)), 3)]
theorem yht {a0 : Qr} {a1 : Qr}  {r : (Qr × Bool)} (h : yzh a0 a1 = some r) : Meets Tryz.prog 133 [.v (vRt a0), .v (vRt a1)] { vals := [.p (vRt r.1), .p (.bool r.2)] } := by
 refine mo Tryz.func133 [(0, .p (vRt a0)), (1, .p (vRt a1))] ?_
 unfold yzh at h
 refine kG [(2, .box (eRt a0)), (3, .box (eRt a1)), (4, .box zR)] [] trivial ?_
 refine yqb ?_
 obtain ⟨v1, hv1, h⟩ := bs h
 refine yya (l1 := [(2, .box (eRt a0)), (3, .box (eRt a1)), (4, .box zR), (15, .p (.bool ((!v1) || (a1.1 == 0))))]) ?_ ?_
 ·rcases ft (!v1) with ha0 | ha0
  ·exact RegOk.of_eq (l2 := [(2, .box (eRt a0)), (3, .box (eRt a1)), (4, .box zR), (15, .p (.bool ((!v1) || (a1.1 == 0))))]) (r_gq [(2, .box (eRt a0)), (3, .box (eRt a1)), (4, .box zR), (15, .p (.bool true))] [(3, (cS [.d false [.sl none (([a0, a1]).map eRt)]] [.p (.bool v1)])), (6, gT), (7, gT), (8, gT), (9, bT)] (A6 (show ([.d false [.sl none (eraL (([a0, a1]).map eRt))]] : List Arg) = [.d false [.sl none (([a0, a1]).map eRt)]] from (by simp only [yza (h := eRt) (ysm er_I er_I)])) (ybk hv1) ha0 ha0 ha0 ha0)) (by simp [ha0])
  exact RegOk.of_eq (l2 := [(2, .box (eRt a0)), (3, .box (eRt a1)), (4, .box zR), (15, .p (.bool ((!v1) || (a1.1 == 0))))]) (r_gq [(2, .box (eRt a0)), (3, .box (eRt a1)), (4, .box zR), (15, .p (.bool (a1.1 == 0)))] [(3, (cS [.d false [.sl none (([a0, a1]).map eRt)]] [.p (.bool v1)])), (6, gF), (7, gF), (8, gF), (9, bF)] (A6 (show ([.d false [.sl none (eraL (([a0, a1]).map eRt))]] : List Arg) = [.d false [.sl none (([a0, a1]).map eRt)]] from (by simp only [yza (h := eRt) (ysm er_I er_I)])) (ybk hv1) ha0 ha0 ha0 ha0)) (by simp [ha0])
 refine kc ((!v1) || (a1.1 == 0)) (fun hc2_1 => ?_) (fun hc2_1 => ?_)
 ·replace h := yma hc2_1 h
  refine kG [(4, .box zR), (5, .p (.bool false))] [] trivial ?_
  refine yva (q_r ?_)
  obtain rfl := oi h
  exact er [(.p (.agg #[.int .i64 0, .int .i64 0]), 4), (.p (.bool false), 5)]
 replace h := yna hc2_1 h
 refine yja (q_n ?_)
 obtain ⟨v3, hv3, h⟩ := bs h
 refine kG [(4, .box (eRt v3.1)), (5, .p (.bool v3.2))] [(10, (cN [.p (vRt v3.1), .p (.bool v3.2)]))] (A1 (yyn hv3)) ?_
 refine yva ?_
 obtain rfl := oi h
 exact er [(.p (vRt v3.1), 4), (.p (.bool v3.2), 5)]
theorem yxo {a0 : Bool} {a1 : Qr} {a2 : Qr}  {r : (Qr × Bool)} (h : yti a0 a1 a2 = some r) : MeetsB Tryz.prog 111 (.box [.raw (.bool a0)]) [.v (vRt a1), .v (vRt a2)] [.p (vRt r.1)] (.box [.raw (.bool r.2)]) := by
 refine mob Tryz.func111 [(0, .box [.raw (.bool a0)]), (1, .p (vRt a1)), (2, .p (vRt a2))] ?_
 unfold yti at h
 refine kG [(0, .box [.raw (.bool a0)]), (4, .box (eRt a1)), (5, .box (eRt a2)), (6, .box zR)] [] trivial ?_
 obtain ⟨v1, hv1, h⟩ := bs h
 obtain ⟨v2, hv2, h⟩ := bs h
 refine kG [(0, .box [.raw (.bool v2.2)]), (6, .box (eRt v2.1))] [(3, (cN [.p (vRt v1.1), .p (.bool v1.2)])), (6, (lNt [.p (vRt v2.1)] (.box [.raw (.bool v2.2)])))] (A2 (yht hv1) (yhi hv2)) ?_
 refine yva ?_
 obtain rfl := oi h
 exact ebr [(.p (vRt v2.1), 6)]
theorem ydn {a0 : Bool} {a1 : Qp} {a2 : Qp}  {r : (Qr × Bool)} (h : yzf a0 a1 a2 = some r) : MeetsB Tryz.prog 112 (.box [.raw (.bool a0)]) [.v (vPt a1), .v (vPt a2)] [.p (vRt r.1)] (.box [.raw (.bool r.2)]) := by
 refine mob Tryz.func112 [(0, .box [.raw (.bool a0)]), (1, .p (vPt a1)), (2, .p (vPt a2))] ?_
 unfold yzf at h
 refine kG [(0, .box [.raw (.bool a0)]), (4, .box (ePt a1)), (5, .box (ePt a2)), (6, .box zR)] [] trivial ?_
 obtain ⟨v1, hv1, h⟩ := bs h
 obtain ⟨v2, hv2, h⟩ := bs h
 obtain ⟨v3, hv3, h⟩ := bs h
 refine yya (r_dq yca 13 [(6, 0), (12, 0)] [(0, .box [.raw (.bool v3.2)]), (6, .box (eRt v3.1))] [(6, (lNt [.p (vRt v1.1)] (.box [.raw (.bool v1.2)]))), (12, (lNt [.p (vRt v2.1)] (.box [.raw (.bool v2.2)]))), (13, (lNt [.p (vRt v3.1)] (.box [.raw (.bool v3.2)])))] (A3 (ytc hv1) (ytc hv2) (yxo hv3))) ?_
 refine yva ?_
 obtain rfl := oi h
 exact ebr [(.p (vRt v3.1), 6)]
theorem yfu {a0 : Bool} {a1 : Qp} {a2 : Qp} {a3 : Qr}  {r : (Qr × Bool)} (h : ykj a0 a1 a2 a3 = some r) : MeetsB Tryz.prog 78 (.box [.raw (.bool a0)]) [.v (vPt a1), .v (vPt a2), .v (vRt a3)] [.p (vRt r.1)] (.box [.raw (.bool r.2)]) := by
 refine mob Tryz.func78 [(0, .box [.raw (.bool a0)]), (1, .p (vPt a1)), (2, .p (vPt a2)), (3, .p (vRt a3))] ?_
 unfold ykj at h
 refine kG [(0, .box [.raw (.bool a0)]), (5, .box (ePt a1)), (6, .box (ePt a2)), (7, .box (eRt a3)), (8, .box zR)] [] trivial ?_
 obtain ⟨v1, hv1, h⟩ := bs h
 obtain ⟨v2, hv2, h⟩ := bs h
 obtain ⟨v3, hv3, h⟩ := bs h
 obtain ⟨v4, hv4, h⟩ := bs h
 refine yya (r_dq yca 14 [(8, 0), (12, 0), (13, 0)] [(0, .box [.raw (.bool v4.2)]), (8, .box (eRt v4.1))] [(8, (lNt [.p (vRt v1.1)] (.box [.raw (.bool v1.2)]))), (12, (lNt [.p (vRt v2.1)] (.box [.raw (.bool v2.2)]))), (13, (lNt [.p (vRt v3.1)] (.box [.raw (.bool v3.2)]))), (14, (lNt [.p (vRt v4.1)] (.box [.raw (.bool v4.2)])))] (A4 (ytc hv1) (ydn hv2) (yxo hv3) (ylg hv4))) ?_
 refine yva ?_
 obtain rfl := oi h
 exact ebr [(.p (vRt v4.1), 8)]
theorem yno {a0 : Bool} {a1 : (List Qp)} {a2 : Qr}  {r : (Qr × Bool)} (h : ypf a0 a1 a2 = some r) : MeetsB Tryz.prog 32 (.box [.raw (.bool a0)]) [.d true (sP a1), .v (vRt a2)] [.p (vRt r.1)] (.box [.raw (.bool r.2)]) := by
 refine mob Tryz.func32 [(0, .box [.raw (.bool a0)]), (1, .d true (sP a1)), (2, .p (vRt a2))] ?_
 unfold ypf at h
 refine kG [(0, .box [.raw (.bool a0)]), (4, .box (sP a1)), (5, .box (eRt a2)), (6, .box zR)] [] trivial ?_
 refine kG [(0, .box [.raw (.bool a0)]), (5, .box (eRt a2)), (6, .box zR), (7, .d false (sP a1))] [(1, bT)] (A1 (frE a1)) ?_
 obtain ⟨v1, hv1, h⟩ := bs h
 refine kG [(0, .box [.raw (.bool a0)]), (5, .box (eRt a2)), (6, .box zR), (7, .d false (sP a1)), (8, .box (eRt v1.2))] [(1, {row := some (ePt v1)})] (A2 (yba hv1).1 (yia ePt (yba hv1).2)) ?_
 obtain ⟨v2, hv2, h⟩ := bs h
 obtain ⟨v3, hv3, h⟩ := bs h
 obtain ⟨v4, hv4, h⟩ := bs h
 refine yya (r_dq yca 7 [] [(0, .box [.raw (.bool a0)]), (5, .box (eRt a2)), (6, .box zR), (7, .d false (sP a1)), (8, .box (eRt v1.2)), (9, .box (eRt v4))] [(1, (cN [.p (iV v2)])), (3, (cN [.p (iV v3)])), (5, (cN [.p (vRt v4)]))] (A3 (ygk hv2) (ygk hv3) (yge hv4))) ?_
 refine yhd (J := fun (x : Int) => [(0, .box [.raw (.bool a0)]), (5, .box (eRt a2)), (6, .box zR), (7, .d false (sP a1)), (8, .box (eRt v1.2)), (9, .box [rI x, rI v4.2])]) (K := fun x => ycb a0 a1 a2 v1 v4 x = some r) (fun x5 h => ?_) ?_
 ·unfold ycb at h
  obtain ⟨v6, hv6, h⟩ := bs h
  refine kG [(0, .box [.raw (.bool v6.2)]), (5, .box (eRt v6.1)), (6, .box zR), (7, .d false (sP a1)), (8, .box (eRt v1.2)), (9, .box [rI x5, rI v4.2])] [(3, (lNt [.p (vRt v6.1)] (.box [.raw (.bool v6.2)])))] (A1 (ytc hv6)) ?_
  refine yqb (kG [(0, .box [.raw (.bool v6.2)]), (5, .box (eRt v6.1)), (6, .box zR), (7, .d false (sP a1)), (8, .box (eRt v1.2)), (9, .box [rI x5, rI v4.2]), (40, .p (.bool v6.2))] [] trivial ?_)
  refine kc v6.2 (fun hc2_6 => ?_) (fun hc2_6 => ?_)
  ·replace h := yma hc2_6 h
   refine kG [(0, .box [.raw (.bool v6.2)]), (6, .box zR)] [] trivial ?_
   refine yva (q_r ?_)
   obtain rfl := oi h
   exact ebr [(.p (.agg #[.int .i64 0, .int .i64 0]), 6)]
  replace h := yna hc2_6 h
  refine yja (q_n (yhd (J := fun (x : Unit) => [(0, .box [.raw (.bool v6.2)]), (5, .box (eRt v6.1)), (6, .box zR), (7, .d false (sP a1)), (9, .box [rI x5, rI v4.2])]) (K := fun x => yxd a1 v4 x5 v6 x = some r) (fun x8 h => ?_) ?_))
  ·unfold yxd at h
   refine yrr1 5 (eRt v6.1) (eRt v6.1) [(0, .box [.raw (.bool v6.2)]), (5, .d false [.pt (eRt v6.1)]), (6, .box zR), (7, .d false (sP a1)), (9, .box [rI x5, rI v4.2])] (by kernel_rfl) (yxc1 (yxc1 rfl)) (by kernel_rfl) (by kernel_rfl) ?_
   obtain ⟨v9, hv9, h⟩ := bs h
   refine kG [(0, .box [.raw (.bool v6.2)]), (5, .d false [.pt (eRt v6.1)]), (6, .box zR), (7, .d false (sP a1)), (9, .box [rI x5, rI v4.2]), (11, .p (iV v9))] [(2, (cN [.p (iV v9)]))] (A1 (show Meets Tryz.prog 76 ([.d false (sP a1), .d false [.fn 77 [(false, [.pt (eRt v6.1)])]]] ++ []) { vals := [.p (iV v9)] } from (ybc (fun x0 y hy => ycn hy) hv9))) ?_
   obtain ⟨v10, hv10, h⟩ := bs h
   obtain ⟨v11, hv11, h⟩ := bs h
   obtain ⟨v12, hv12, h⟩ := bs h
   obtain ⟨v13, hv13, h⟩ := bs h
   refine yya (r_dq yca 14 [(12, 0)] [(0, .box [.raw (.bool v13.2)]), (6, .box (eRt v13.1))] [(5, {row := some (ePt v10)}), (9, {row := some (ePt v11)}), (12, (lNt [.p (vRt v12.1)] (.box [.raw (.bool v12.2)]))), (14, (lNt [.p (vRt v13.1)] (.box [.raw (.bool v13.2)])))] (A6 (yba hv10).1 (yia ePt (yba hv10).2) (yba hv11).1 (yia ePt (yba hv11).2) (yfu hv12) (ylg hv13))) ?_
   refine yva ?_
   obtain rfl := oi h
   exact ebr [(.p (vRt v13.1), 6)]
  refine kG [(0, .box [.raw (.bool v6.2)]), (5, .box (eRt v6.1)), (6, .box zR), (7, .d false (sP a1)), (9, .box [rI x5, rI v4.2]), (44, .p (.bool ((v6.1.1 == v1.2.1) && (v6.1.2 == v1.2.2))))] [(2, {pv := some (.bool ((v6.1.1 == v1.2.1) && (v6.1.2 == v1.2.2)))})] (A1 (show PureAt Tryz.prog (.binOp .eql 27 (.tmp 42) (.tmp 43) 27) [vRt v6.1, vRt v1.2] (.bool ((v6.1.1 == v1.2.1) && (v6.1.2 == v1.2.2))) from (ygg (by kernel_rfl)))) ?_
  refine kc ((v6.1.1 == v1.2.1) && (v6.1.2 == v1.2.2)) (fun hc2_13 => ?_) (fun hc2_13 => ?_)
  ·replace h := yma hc2_13 h
   refine kG [(0, .box [.raw (.bool v6.2)]), (6, .box zR), (7, .d false (sP a1)), (9, .box [rI x5, rI v4.2]), (10, .p (iV (w64 ((a1.length : Int) - 1))))] [(1, {n := some a1.length})] (A1 (lnP a1)) ?_
   refine yhd (J := fun (x : Int) => [(0, .box [.raw (.bool v6.2)]), (6, .box zR), (7, .d false (sP a1)), (9, .box [rI x5, rI v4.2]), (10, .p (iV x))]) (K := fun x => yyd a1 v4 x5 v6 x = some r) (fun x15 h => ?_) ?_
   ·unfold yyd at h
    obtain ⟨v16, hv16, h⟩ := bs h
    obtain ⟨v17, hv17, h⟩ := bs h
    obtain ⟨v18, hv18, h⟩ := bs h
    obtain ⟨v19, hv19, h⟩ := bs h
    refine yya (r_dq yca 10 [(8, 0)] [(0, .box [.raw (.bool v19.2)]), (6, .box (eRt v19.1))] [(4, {row := some (ePt v16)}), (7, (cN [.p (vRt v17)])), (8, (lNt [.p (vRt v18.1)] (.box [.raw (.bool v18.2)]))), (10, (lNt [.p (vRt v19.1)] (.box [.raw (.bool v19.2)])))] (A5 (yba hv16).1 (yia ePt (yba hv16).2) (yxn hv17) (ytc hv18) (ylg hv19))) ?_
    refine yva (q_r ?_)
    obtain rfl := oi h
    exact ebr [(.p (vRt v19.1), 6)]
   refine ywa ?_
   obtain ⟨y21, hl_x20, hk_x20⟩ := bs h
   clear h
   refine yuh (J := fun (x : Int) => [(0, .box [.raw (.bool v6.2)]), (6, .box zR), (7, .d false (sP a1)), (9, .box [rI x5, rI v4.2]), (10, .p (iV x))]) hl_x20 wkk (fun x20 o_x20 h hy_x20 => ?_)
   unfold ykc at h
   refine yqb ?_
   obtain ⟨v22, hv22, h⟩ := bs h
   obtain ⟨v23, hv23, h⟩ := bs h
   refine yya (r_dq yca 11 [] [(0, .box [.raw (.bool v6.2)]), (6, .box zR), (7, .d false (sP a1)), (9, .box [rI x5, rI v4.2]), (10, .p (iV x20)), (59, .p (.bool ((v22.2.1 == v23.2.1) && (v22.2.2 == v23.2.2))))] [(3, {row := some (ePt v22)}), (8, {row := some (ePt v23)}), (11, {pv := some (.bool ((v22.2.1 == v23.2.1) && (v22.2.2 == v23.2.2)))})] (A5 (yba hv22).1 (yia ePt (yba hv22).2) (yba hv23).1 (yia ePt (yba hv23).2) (show PureAt Tryz.prog (.binOp .eql 27 (.tmp 53) (.tmp 58) 27) [vRt v22.2, vRt v23.2] (.bool ((v22.2.1 == v23.2.1) && (v22.2.2 == v23.2.2))) from (ygg (by kernel_rfl))))) ?_
   refine kc ((v22.2.1 == v23.2.1) && (v22.2.2 == v23.2.2)) (fun hc6_23 => ?_) (fun hc6_23 => ?_)
   ·replace h := yma hc6_23 h
    refine yja (q_n (ywa (yff (r_gq [(0, .box [.raw (.bool v6.2)]), (6, .box zR), (7, .d false (sP a1)), (9, .box [rI x5, rI v4.2]), (10, .p (iV (w64 (x20 - 1))))] [] trivial) ?_)))
    refine b_n ?_
    exact lqn (w64 (x20 - 1)) h
   replace h := yna hc6_23 h
   refine ykg (q_x (lq_x (b_x ?_)))
   have hyy := hy_x20 _ (oi h).symm
   subst hyy
   have h := hk_x20
   refine q_n ?_
   exact jx x20 h
  replace h := yna hc2_13 h
  refine yja (q_n ?_)
  exact jx () h
 obtain ⟨v25, hv25, h⟩ := bs h
 obtain ⟨v26, hv26, h⟩ := bs h
 obtain ⟨v27, hv27, h⟩ := bs h
 refine yya (r_dq yca 3 [] [(0, .box [.raw (.bool a0)]), (5, .box (eRt a2)), (6, .box zR), (7, .d false (sP a1)), (8, .box (eRt v1.2)), (9, .box (eRt v4)), (28, .p (.bool v27))] [(1, (cN [.p (vRt v25)])), (3, (cN [.p (vRt v26)])), (4, (cN [.p (.bool v27)]))] (A3 (yel hv25) (yel hv26) (ydd hv27))) ?_
 refine kc v27 (fun hc2_27 => ?_) (fun hc2_27 => ?_)
 ·replace h := yma hc2_27 h
  refine yff (r_gq [(0, .box [.raw (.bool a0)]), (5, .box (eRt a2)), (6, .box zR), (7, .d false (sP a1)), (8, .box (eRt v1.2)), (9, .box [rI (w64 (v4.1 - 1)), rI v4.2])] [] trivial) ?_
  refine q_n ?_
  exact jx (w64 (v4.1 - 1)) h
 replace h := yna hc2_27 h
 refine yja (q_n ?_)
 exact jx v4.1 h
theorem yit {a0 : (List Qp)} {a1 : Qr}  {r : (Qr × Bool)} (h : yci a0 a1 = some r) : Meets Tryz.prog 5 [.d true (sP a0), .v (vRt a1)] { vals := [.p (vRt r.1), .p (.bool r.2)] } := by
 refine mo Tryz.func5 [(0, .d true (sP a0)), (1, .p (vRt a1))] ?_
 unfold yci at h
 refine kG [(2, .box (sP a0)), (3, .box (eRt a1)), (4, .box zR)] [] trivial ?_
 refine yqb ?_
 obtain ⟨v1, hv1, h⟩ := bs h
 obtain ⟨w3, hw3, h⟩ := bs h
 refine yya (l1 := [(2, .box (sP a0)), (3, .box (eRt a1)), (4, .box zR), (15, .p (.bool w3))]) ?_ ?_
 ·clear h
  rcases ft (!v1) with ha0 | ha0
  ·replace hw3 := yma ha0 hw3
   have hw3 := oi hw3
   subst hw3
   exact (r_gq [(2, .box (sP a0)), (3, .box (eRt a1)), (4, .box zR), (15, .p (.bool true))] [(0, bT), (1, (cN [.p (.bool v1)])), (4, gT), (5, gT), (6, gT), (7, bT)] (A6 (frE a0) (yac hv1) ha0 ha0 ha0 ha0))
  obtain ⟨v2, hv2, hw3⟩ := bs (yna ha0 hw3)
  have hw3 := oi hw3
  subst hw3
  exact (r_gq [(2, .box (sP a0)), (3, .box (eRt a1)), (4, .box zR), (15, .p (.bool (!v2)))] [(0, bT), (1, (cN [.p (.bool v1)])), (4, gF), (5, (gN [.p (.bool v2)])), (6, gF), (7, bF)] (B6 (frE a0) (yac hv1) ha0 ha0 (ywo hv2) ha0 (A1 ha0)))
 refine kc w3 (fun hc2_3 => ?_) (fun hc2_3 => ?_)
 ·replace h := yma hc2_3 h
  refine kG [(4, .box zR), (5, .p (.bool false))] [] trivial ?_
  refine yva (q_r ?_)
  obtain rfl := oi h
  exact er [(.p (.agg #[.int .i64 0, .int .i64 0]), 4), (.p (.bool false), 5)]
 replace h := yna hc2_3 h
 refine yja (q_n (kG [(2, .box (sP a0)), (3, .box (eRt a1)), (4, .box zR), (6, .box [.raw (.bool false)])] [] trivial ?_))
 obtain ⟨v5, hv5, h⟩ := bs h
 refine kG [(4, .box zR), (6, .box [.raw (.bool v5.2)]), (7, .box (eRt v5.1))] [(0, bT), (2, (lNt [.p (vRt v5.1)] (.box [.raw (.bool v5.2)])))] (A2 (frE a0) (yno hv5)) ?_
 refine yqb (kG [(4, .box zR), (7, .box (eRt v5.1)), (21, .p (.bool v5.2))] [] trivial ?_)
 refine kc v5.2 (fun hc2_5 => ?_) (fun hc2_5 => ?_)
 ·replace h := yma hc2_5 h
  refine kG [(4, .box zR), (5, .p (.bool false))] [] trivial ?_
  refine yva (q_r ?_)
  obtain rfl := oi h
  exact er [(.p (.agg #[.int .i64 0, .int .i64 0]), 4), (.p (.bool false), 5)]
 replace h := yna hc2_5 h
 refine yja (q_n (kG [(4, .box (eRt v5.1)), (5, .p (.bool true))] [] trivial ?_))
 refine yva ?_
 obtain rfl := oi h
 exact er [(.p (vRt v5.1), 4), (.p (.bool true), 5)]
theorem yzn {a0 : Qr}  {r : Bool} (h : ysj a0 = some r) : Meets Tryz.prog 34 [.v (vRt a0)] { vals := [.p (.bool r)] } := by
 refine mo Tryz.func34 [(0, .p (vRt a0))] ?_
 unfold ysj at h
 refine kG [(1, .box (eRt a0))] [] trivial ?_
 obtain ⟨v1, hv1, h⟩ := bs h
 obtain ⟨w3, hw3, h⟩ := bs h
 refine yya (l1 := [(2, .p (.bool w3))]) ?_ ?_
 ·clear h
  rcases ft v1 with ha0 | ha0
  ·obtain ⟨v2, hv2, hw3⟩ := bs (yma ha0 hw3)
   have hw3 := oi hw3
   subst hw3
   exact (r_gq [(2, .p (.bool v2))] [(1, (cN [.p (.bool v1)])), (3, gT), (4, gT), (5, gT), (6, gT), (7, gT), (8, gT), (9, gT), (10, gT), (11, {g := some true, call := some (none, [.p (.bool v2)], true)}), (12, bT)] (B6 (yqc hv1) ha0 ha0 ha0 ha0 ha0 (A6 ha0 ha0 ha0 ha0 (ycd hv2) ha0)))
  replace hw3 := yna ha0 hw3
  have hw3 := oi hw3
  subst hw3
  exact (r_gq [(2, .p (.bool false))] [(1, (cN [.p (.bool v1)])), (3, gF), (4, gF), (5, gF), (6, gF), (7, gF), (8, gF), (9, gF), (10, gF), (11, gF), (12, bF)] (B6 (yqc hv1) ha0 ha0 ha0 ha0 ha0 (A5 ha0 ha0 ha0 ha0 ha0)))
 refine yva ?_
 obtain rfl := oi h
 exact er [(.p (.bool w3), 2)]
theorem yqx {a0 : Int} {a1 : Int}  {r : Int} (h : ykn a0 a1 = some r) : Meets Tryz.prog 82 [wI a0, wI a1] { vals := [.p (iV r)] } := by
 refine mo Tryz.func82 [(0, .p (iV a0)), (1, .p (iV a1))] ?_
 unfold ykn at h
 refine kG [(0, .p (iV a0)), (1, .p (iV a1))] [] trivial ?_
 refine yqb (kG [(0, .p (iV a0)), (1, .p (iV a1)), (7, .p (.bool (a1 == 0)))] [] trivial ?_)
 refine kc (a1 == 0) (fun hc2_0 => ?_) (fun hc2_0 => ?_)
 ·replace h := yma hc2_0 h
  refine kG [(4, .p (iV 0))] [] trivial ?_
  refine yva (q_r ?_)
  obtain rfl := oi h
  exact er [(.p (iV 0), 4)]
 replace h := yna hc2_0 h
 refine yja (q_n ?_)
 obtain ⟨u2, hu2, h⟩ := bs h
 refine kG [(0, .p (iV a0)), (1, .p (iV a1)), (5, .p (iV (w64 (Int.tdiv a0 a1))))] [] (A1 (yea hu2)) ?_
 refine yqb (kG [(5, .p (iV (w64 (Int.tdiv a0 a1)))), (14, .p (.bool (decide ((Int.tmod a0 a1) < 0))))] [] (A1 (yea hu2)) ?_)
 refine kc (decide ((Int.tmod a0 a1) < 0)) (fun hc2_2 => ?_) (fun hc2_2 => ?_)
 ·replace h := yma hc2_2 h
  refine yff (r_gq [(5, .p (iV (w64 ((w64 (Int.tdiv a0 a1)) - 1))))] [] trivial) ?_
  refine q_n (kG [(4, .p (iV (w64 ((w64 (Int.tdiv a0 a1)) - 1))))] [] trivial ?_)
  refine yva ?_
  obtain rfl := oi h
  exact er [(.p (iV (w64 ((w64 (Int.tdiv a0 a1)) - 1))), 4)]
 replace h := yna hc2_2 h
 refine yja (q_n (kG [(4, .p (iV (w64 (Int.tdiv a0 a1))))] [] trivial ?_))
 refine yva ?_
 obtain rfl := oi h
 exact er [(.p (iV (w64 (Int.tdiv a0 a1))), 4)]
theorem ywh {a0 : Qr}  {r : Int} (h : yre a0 = some r) : Meets Tryz.prog 35 [.v (vRt a0)] { vals := [.p (iV r)] } := by
 refine mo Tryz.func35 [(0, .p (vRt a0))] ?_
 unfold yre at h
 refine kG [(1, .box (eRt a0))] [] trivial ?_
 obtain ⟨v1, hv1, h⟩ := bs h
 refine kG [(2, .p (iV v1))] [(4, (cN [.p (iV v1)]))] (A1 (yqx hv1)) ?_
 refine yva ?_
 obtain rfl := oi h
 exact er [(.p (iV v1), 2)]
theorem yds {a0 : Qr}  {r : Qr} (h : yyk a0 = some r) : Meets Tryz.prog 37 [.v (vRt a0)] { vals := [.p (vRt r)] } := by
 refine mo Tryz.func37 [(0, .p (vRt a0))] ?_
 unfold yyk at h
 refine kG [(1, .box (eRt a0)), (2, .box zR)] [] trivial ?_
 obtain ⟨v1, hv1, h⟩ := bs h
 refine yya (r_dq yca 10 [] [(2, .box [rI (w64 (a0.1 - (w64 (v1 * a0.2)))), rI a0.2])] [(3, (cN [.p (iV v1)]))] (A1 (ywh hv1))) ?_
 refine yva ?_
 obtain rfl := oi h
 exact er [(.p (.agg #[.int .i64 (w64 (a0.1 - (w64 (v1 * a0.2)))), .int .i64 a0.2]), 2)]
theorem ymg {a0 : Qr} {a1 : Qr}  {r : (Qr × Bool)} (h : ywg a0 a1 = some r) : Meets Tryz.prog 38 [.v (vRt a0), .v (vRt a1)] { vals := [.p (vRt r.1), .p (.bool r.2)] } := by
 refine mo Tryz.func38 [(0, .p (vRt a0)), (1, .p (vRt a1))] ?_
 unfold ywg at h
 refine kG [(2, .box (eRt a0)), (3, .box (eRt a1)), (4, .box zR)] [] trivial ?_
 obtain ⟨v1, hv1, h⟩ := bs h
 refine kG [(4, .box (eRt v1.1)), (5, .p (.bool v1.2))] [(16, (cN [.p (vRt v1.1), .p (.bool v1.2)]))] (A1 (yfe hv1)) ?_
 refine yva ?_
 obtain rfl := oi h
 exact er [(.p (vRt v1.1), 4), (.p (.bool v1.2), 5)]
theorem yau {a0 : Qr} {a1 : Qr}  {r : (Qr × Bool)} (h : ypn a0 a1 = some r) : Meets Tryz.prog 85 [.v (vRt a0), .v (vRt a1)] { vals := [.p (vRt r.1), .p (.bool r.2)] } := by
 refine mo Tryz.func85 [(0, .p (vRt a0)), (1, .p (vRt a1))] ?_
 unfold ypn at h
 refine kG [(2, .box (eRt a0)), (3, .box (eRt a1)), (4, .box zR)] [] trivial ?_
 refine yqb (kG [(2, .box (eRt a0)), (3, .box (eRt a1)), (4, .box zR), (8, .p (.bool (a1.1 == 0)))] [] trivial ?_)
 refine kc (a1.1 == 0) (fun hc2_0 => ?_) (fun hc2_0 => ?_)
 ·replace h := yma hc2_0 h
  refine kG [(4, .box zR), (5, .p (.bool false))] [] trivial ?_
  refine yva (q_r ?_)
  obtain rfl := oi h
  exact er [(.p (.agg #[.int .i64 0, .int .i64 0]), 4), (.p (.bool false), 5)]
 replace h := yna hc2_0 h
 refine yja (q_n ?_)
 obtain ⟨v2, hv2, h⟩ := bs h
 refine kG [(4, .box (eRt v2.1)), (5, .p (.bool v2.2))] [(10, (cN [.p (vRt v2.1), .p (.bool v2.2)]))] (A1 (yfe hv2)) ?_
 refine yva ?_
 obtain rfl := oi h
 exact er [(.p (vRt v2.1), 4), (.p (.bool v2.2), 5)]
theorem ymq {a0 : Qp} {a1 : Qp}  {r : Qr} (h : yvj a0 a1 = some r) : Meets Tryz.prog 86 [.v (vPt a0), .v (vPt a1)] { vals := [.p (vRt r)] } := by
 refine mo Tryz.func86 [(0, .p (vPt a0)), (1, .p (vPt a1))] ?_
 unfold yvj at h
 refine kG [(2, .box (ePt a0)), (3, .box (ePt a1)), (4, .box zR)] [] trivial ?_
 obtain ⟨v1, hv1, h⟩ := bs h
 refine kG [(2, .box (ePt a0)), (3, .box (ePt a1)), (4, .box zR), (5, .box (eRt v1.1))] [(4, (cN [.p (vRt v1.1), .p (.bool v1.2)]))] (A1 (ymg hv1)) ?_
 obtain ⟨v2, hv2, h⟩ := bs h
 refine kG [(4, .box zR), (5, .box (eRt v1.1)), (7, .box (eRt v2.1))] [(4, (cN [.p (vRt v2.1), .p (.bool v2.2)]))] (A1 (ymg hv2)) ?_
 obtain ⟨v3, hv3, h⟩ := bs h
 refine kG [(4, .box zR), (9, .box (eRt v3.1))] [(2, (cN [.p (vRt v3.1), .p (.bool v3.2)]))] (A1 (yau hv3)) ?_
 refine kG [(4, .box (eRt v3.1))] [] trivial ?_
 refine yva ?_
 obtain rfl := oi h
 exact er [(.p (vRt v3.1), 4)]
theorem yrx {a0 : Qp} {a1 : Qp} {a2 : Qr}  {r : (Qr × Bool)} (h : yrn a0 a1 a2 = some r) : Meets Tryz.prog 40 [.v (vPt a0), .v (vPt a1), .v (vRt a2)] { vals := [.p (vRt r.1), .p (.bool r.2)] } := by
 refine mo Tryz.func40 [(0, .p (vPt a0)), (1, .p (vPt a1)), (2, .p (vRt a2))] ?_
 unfold yrn at h
 refine kG [(3, .box (ePt a0)), (4, .box (ePt a1)), (5, .box (eRt a2)), (6, .box zR)] [] trivial ?_
 obtain ⟨v1, hv1, h⟩ := bs h
 refine kG [(3, .box (ePt a0)), (4, .box (ePt a1)), (6, .box zR), (8, .box (eRt v1.1)), (9, .p (.bool v1.2))] [(3, (cN [.p (vRt v1.1), .p (.bool v1.2)]))] (A1 (ymg hv1)) ?_
 refine yqb (kG [(3, .box (ePt a0)), (4, .box (ePt a1)), (6, .box zR), (8, .box (eRt v1.1)), (20, .p (.bool (!v1.2)))] [] trivial ?_)
 refine kc (!v1.2) (fun hc2_1 => ?_) (fun hc2_1 => ?_)
 ·replace h := yma hc2_1 h
  refine kG [(6, .box zR), (7, .p (.bool false))] [] trivial ?_
  refine yva (q_r ?_)
  obtain rfl := oi h
  exact er [(.p (.agg #[.int .i64 0, .int .i64 0]), 6), (.p (.bool false), 7)]
 replace h := yna hc2_1 h
 refine yja (q_n ?_)
 obtain ⟨v3, hv3, h⟩ := bs h
 obtain ⟨v4, hv4, h⟩ := bs h
 refine yya (r_dq yca 10 [(9, 10)] [(3, .box (ePt a0)), (6, .box zR), (10, .box (eRt v4.1)), (11, .p (.bool v4.2))] [(3, (cN [.p (vRt v3)])), (4, (cN [.p (vRt v4.1), .p (.bool v4.2)]))] (A2 (ymq hv3) (yau hv4))) ?_
 refine yqb (kG [(3, .box (ePt a0)), (6, .box zR), (10, .box (eRt v4.1)), (31, .p (.bool (!v4.2)))] [] trivial ?_)
 refine kc (!v4.2) (fun hc2_4 => ?_) (fun hc2_4 => ?_)
 ·replace h := yma hc2_4 h
  refine kG [(6, .box zR), (7, .p (.bool false))] [] trivial ?_
  refine yva (q_r ?_)
  obtain rfl := oi h
  exact er [(.p (.agg #[.int .i64 0, .int .i64 0]), 6), (.p (.bool false), 7)]
 replace h := yna hc2_4 h
 refine yja (q_n ?_)
 obtain ⟨v6, hv6, h⟩ := bs h
 refine kG [(6, .box (eRt v6.1)), (7, .p (.bool v6.2))] [(3, (cN [.p (vRt v6.1), .p (.bool v6.2)]))] (A1 (yfk hv6)) ?_
 refine yva ?_
 obtain rfl := oi h
 exact er [(.p (vRt v6.1), 6), (.p (.bool v6.2), 7)]
end Go.PV

/-
  Plain definitions of what the functions answer.
  Conditions: none.
-/
import Derived.Test.YtigabkbbbpokbaaGreatDoorPvCx
set_option linter.all false
namespace Go.PV
abbrev sP (l : List Qp) : List C := [.sl none (l.map ePt)]
abbrev oP (n : Nat) (l : List Qp) : List C := [.sl (some n) (l.map ePt)]
abbrev oN (n : Nat) : List C := [.sl (some n) []]
theorem frE (l : List Qp) : frR (sP l) = true := frR1 (yyc1 (fr_P (fr_P fr_I fr_I) (fr_P fr_I fr_I))) rfl
theorem frO (n : Nat) (l : List Qp) : frR (oP n l) = false := rfl
theorem erPt (l : List Qp) : eraL (l.map ePt) = l.map ePt := yza (ysm (ysm er_I er_I) (ysm er_I er_I))
abbrev cN (l : List RV) : HH := {call := some (none, l, true)}
abbrev hB (b : Bool) : HH := {g := some false, pv := some (.bool b)}
abbrev gFbT : HH := {g := some false, b := some true}
abbrev gFbF : HH := {g := some false, b := some false}
abbrev nR (a b : Qr) : Bool := !((a.1 == b.1) && (a.2 == b.2))
theorem kG {P : Program} {N id : Nat} {ops : List Oper} {b : Code} {l0 : LS} {R : Prop} {Q : Ex → LS → Prop} (l1 : LS) (hs : List (Nat × HH)) (ho : R) (hq : OkL P N b l1 Q) (e : (xGo P ops hs l0 l1).map (fun p => (p.1, allP p.2)) = some (l1, R) := by kernel_rfl) : OkL P N (.seq (.region id ops.toArray false) b) l0 Q := yya (r_gq l1 hs ho e) hq
abbrev zR : List C := [rI 0, rI 0]
abbrev gC (a : List Arg) (v : List RV) : HH := {g := some false, call := some (some a, v, true)}
abbrev gN (v : List RV) : HH := {g := some false, call := some (none, v, true)}
abbrev cS (a : List Arg) (v : List RV) : HH := {call := some (some a, v, true)}
abbrev lNt (v : List RV) (x : SV) : HH := {lend := some (none, v, x, true)}
abbrev lNf (v : List RV) (x : SV) : HH := {lend := some (none, v, x, false)}
theorem lnP (l : List Qp) : (l.map ePt).length = l.length := List.length_map ..
theorem tT : true = true := rfl
theorem fF : false = false := rfl
theorem wkk {l l' : LS} (h1 : refsOk l' = true := by kernel_rfl) (h2 : readL (ofL l) l' = l' := by kernel_rfl) : wk l l' := ybp1 h1 h2
noncomputable section
def yyi (a0 : Int) (a1 : Int) (a2 : Int) : Option Bool :=
 some ((decide (a0 ≥ a1)) && (decide (a0 ≤ a2)))
def yvk (a0 : Int) (a1 : Int) (a2 : Int) : Option Bool :=
 some ((decide (a1 ≤ a0)) && (decide (a0 ≤ a2)))
def ywk (a0 : Int) (a1 : Int) : Option Int :=
 if (decide (a0 > a1)) = true then
  some a0
 else
  some a1
def ykl (a0 : Int) : Option Int :=
 (ywk a0 (w64 (0 - a0))).bind fun v1 =>
 some v1
def yll  (x1 : Int) : Option Int :=
 some x1
def yqg  (x2 : Qr) : Option (Qr ⊕ Int) :=
 if (decide (x2.2 > 0)) = true then
  (guardO (x2.2 ≠ 0)).bind fun u5 =>
  some (.inl (x2.2, (Int.tmod x2.1 x2.2)))
 else
  some (.inr x2.1)
def yri (a0 : Int) (a1 : Int) : Option Int :=
 (loopO yqg (a0, a1)).bind fun y3 => yll y3
def yxf (a0 : Qr) : Option Bool :=
 (yyi a0.2 1 1000000000).bind fun v1 =>
 (if v1 = true then
   (yyi a0.1 (-1000000000) 1000000000).bind fun v2 =>
   if v2 = true then
    (ykl a0.1).bind fun v3 =>
    (yri v3 a0.2).bind fun v4 =>
    some (v4 == 1)
   else
    some false
  else
   some false).bind fun w5 =>
 some w5
def ysj (a0 : Qr) : Option Bool :=
 (yxf a0).bind fun v1 =>
 (if v1 = true then
   (yyi a0.1 (w64 ((-1000) * a0.2)) (w64 (1000 * a0.2))).bind fun v2 =>
   some v2
  else
   some false).bind fun w3 =>
 some w3
def ykn (a0 : Int) (a1 : Int) : Option Int :=
 if (a1 == 0) = true then
  some 0
 else
  (guardO (a1 ≠ 0)).bind fun u2 =>
  if (decide ((Int.tmod a0 a1) < 0)) = true then
   some (w64 ((w64 (Int.tdiv a0 a1)) - 1))
  else
   some (w64 (Int.tdiv a0 a1))
def yre (a0 : Qr) : Option Int :=
 (ykn a0.1 a0.2).bind fun v1 =>
 some v1
def yfb (a0 : Qr) (a1 : Int) : Option Qr :=
 some ((w64 (a0.1 + (w64 (a1 * a0.2)))), a0.2)
def yzi (a0 : Qr) : Option (Qr × Bool) :=
 (ysj a0).bind fun v1 =>
 if (!v1) = true then
  some ((0, 0), false)
 else
  (yre a0).bind fun v3 =>
  (yfb a0 (w64 (0 - v3))).bind fun v4 =>
  some (v4, true)
def yvt (a0 : Int) : Option Int :=
 if (decide (a0 < 0)) = true then
  some (w64 (0 - a0))
 else
  some a0
def ywd  (x3 : Int) : Option Int :=
 some x3
def yjc  (x4 : Qr) : Option (Qr ⊕ Int) :=
 if (x4.2 != 0) = true then
  (guardO (x4.2 ≠ 0)).bind fun u7 =>
  some (.inl (x4.2, (Int.tmod x4.1 x4.2)))
 else
  some (.inr x4.1)
def ylc (a0 : Int) (a1 : Int) : Option Int :=
 (yvt a0).bind fun v1 =>
 (yvt a1).bind fun v2 =>
 (loopO yjc (v1, v2)).bind fun y5 => ywd y5
def yrg (a0 : Qr) : Option Bool :=
 (yvk a0.2 1 1000000000).bind fun v1 =>
 (if v1 = true then
   (yvk a0.1 (-1000000000) 1000000000).bind fun v2 =>
   if v2 = true then
    (ylc a0.1 a0.2).bind fun v3 =>
    some (v3 == 1)
   else
    some false
  else
   some false).bind fun w4 =>
 some w4
def yhe (a0 : Int) : Option Qr :=
 some (a0, 1)
def ymc (a0 : Qr) (a1 : Qr) : Option Int :=
 if (decide ((w64 (a0.1 * a1.2)) < (w64 (a1.1 * a0.2)))) = true then
  some (-1)
 else
  if (decide ((w64 (a0.1 * a1.2)) > (w64 (a1.1 * a0.2)))) = true then
   some 1
  else
   some 0
def ydh (a0 : Qr) (a1 : Qr) : Option Bool :=
 (ymc a0 a1).bind fun v1 =>
 some (decide (v1 < 0))
def yml (a0 : Qr) : Option Bool :=
 (yrg a0).bind fun v1 =>
 (if v1 = true then
   (yhe (-1000)).bind fun v2 =>
   (ydh a0 v2).bind fun v3 =>
   if (!v3) = true then
    (yhe 1000).bind fun v4 =>
    (ydh v4 a0).bind fun v5 =>
    some (!v5)
   else
    some false
  else
   some false).bind fun w6 =>
 some w6
def ysg (a0 : Int) (a1 : Int) : Option Int :=
 (guardO (a1 ≠ 0)).bind fun u1 =>
 if (decide ((Int.tmod a0 a1) < 0)) = true then
  some (w64 ((w64 (Int.tdiv a0 a1)) - 1))
 else
  some (w64 (Int.tdiv a0 a1))
def yxh (a0 : Qr) : Option Int :=
 (ysg a0.1 a0.2).bind fun v1 =>
 some v1
def ynl (a0 : Qr) : Option Qr :=
 some ((w64 (0 - a0.1)), a0.2)
def yqm  (x1 : Unit) : Option Bool :=
 some true
def yyh (a0 : (List Qr)) (x2 : Int) : Option (Int ⊕ (Bool ⊕ Unit)) :=
 if (decide (x2 < (a0.length : Int))) = true then
  (idxO a0 x2).bind fun v5 =>
  (yrg v5).bind fun v6 =>
  if (!v6) = true then
   some (.inr (.inl false))
  else
   some (.inl (w64 (x2 + 1)))
 else
  some (.inr (.inr ()))
def yli (a0 : (List Qr)) : Option Bool :=
 (loopO (yyh a0) 0).bind fun y3 => (Sum.elim (fun p => some p) (fun p => yqm p)) y3
def yeh (a0 : Int) (a1 : Int) (x2 : Int) : Option (Qr × Bool) :=
 (guardO (x2 ≠ 0)).bind fun u3 =>
 (yrg ((w64 (Int.tdiv a0 x2)), (w64 (Int.tdiv a1 x2)))).bind fun v4 =>
 if (!v4) = true then
  some ((0, 0), false)
 else
  some (((w64 (Int.tdiv a0 x2)), (w64 (Int.tdiv a1 x2))), true)
def ytj (a0 : Int) (a1 : Int) : Option (Qr × Bool) :=
 (ylc a0 a1).bind fun v1 =>
 if (decide (a1 < 0)) = true then
  yeh a0 a1 (w64 (0 - v1))
 else
  yeh a0 a1 v1
def ymi (a0 : Qr) (a1 : Qr) : Option (Qr × Bool) :=
 (yli ([a0, a1])).bind fun v1 =>
 if (!v1) = true then
  some ((0, 0), false)
 else
  (ytj (w64 ((w64 (a0.1 * a1.2)) + (w64 (a1.1 * a0.2)))) (w64 (a0.2 * a1.2))).bind fun v3 =>
  some v3
def yed (a0 : Qr) (a1 : Qr) : Option (Qr × Bool) :=
 (ynl a1).bind fun v1 =>
 (ymi a0 v1).bind fun v2 =>
 some v2
def yaj (a0 : Qr) : Option (Qr × Bool) :=
 (yml a0).bind fun v1 =>
 if (!v1) = true then
  some ((0, 0), false)
 else
  (yxh a0).bind fun v3 =>
  (yhe v3).bind fun v4 =>
  (yed a0 v4).bind fun v5 =>
  some v5
def yqw (a0 : Int) (a1 : Int) : Option Qr :=
 some ((IntKind.wrap .u64 ((IntKind.wrap .u64 ((IntKind.wrap .u64 ((ishr .u64 a0 32) * (ishr .u64 a1 32))) + (ishr .u64 (IntKind.wrap .u64 ((IntKind.wrap .u64 ((ishr .u64 a0 32) * (iand .u64 a1 4294967295))) + (ishr .u64 (IntKind.wrap .u64 ((iand .u64 a0 4294967295) * (iand .u64 a1 4294967295))) 32))) 32))) + (ishr .u64 (IntKind.wrap .u64 ((iand .u64 (IntKind.wrap .u64 ((IntKind.wrap .u64 ((ishr .u64 a0 32) * (iand .u64 a1 4294967295))) + (ishr .u64 (IntKind.wrap .u64 ((iand .u64 a0 4294967295) * (iand .u64 a1 4294967295))) 32))) 4294967295) + (IntKind.wrap .u64 ((iand .u64 a0 4294967295) * (ishr .u64 a1 32))))) 32))), (IntKind.wrap .u64 (a0 * a1)))
def ycl1 (a0 : Int) (a1 : Int) : Option Qr :=
 (yqw a0 a1).bind fun v2 =>
 some v2
def yfh (a0 : Int) (a1 : Int) (x5 : Int) : Option (Qr × Bool) :=
 (guardO (x5 ≠ 0)).bind fun u6 =>
 (yxf ((w64 (Int.tdiv a0 x5)), (w64 (Int.tdiv a1 x5)))).bind fun v7 =>
 if (!v7) = true then
  some ((0, 0), false)
 else
  some (((w64 (Int.tdiv a0 x5)), (w64 (Int.tdiv a1 x5))), true)
def yyc (a0 : Int) (a1 : Int) : Option (Qr × Bool) :=
 if (a1 == 0) = true then
  some ((0, 0), false)
 else
  (ykl a0).bind fun v2 =>
  (ykl a1).bind fun v3 =>
  (yri v2 v3).bind fun v4 =>
  if (decide (a1 < 0)) = true then
   yfh a0 a1 (w64 (0 - v4))
  else
   yfh a0 a1 v4
def yln (a0 : Int) : Option Int :=
 if (decide (a0 > 0)) = true then
  some 1
 else
  if (decide (a0 < 0)) = true then
   some (-1)
  else
   some 0
def yuc (a0 : Qr) (a1 : Qr) : Option Int :=
 (yln (w64 ((w64 (a0.1 * a1.2)) - (w64 (a1.1 * a0.2))))).bind fun v1 =>
 some v1
def ymn (a0 : Qr) (a1 : Qr) : Option Qr :=
 (yuc a0 a1).bind fun v1 =>
 if (decide (v1 < 0)) = true then
  some a0
 else
  some a1
def ybj (a0 : Qr) (a1 : Qr) : Option Qr :=
 (yuc a0 a1).bind fun v1 =>
 if (decide (v1 < 0)) = true then
  some a1
 else
  some a0
def ysb  (x3 : Qr) : Option Qr :=
 some x3
def yta (a0 : (List Qr)) (a1 : Qr → Qr → Option Int) (x4 : (Int × Int × Int)) : Option ((Int × Int × Int) ⊕ Qr) :=
 if (decide (x4.2.2 < (a0.length : Int))) = true then
  (idxO a0 x4.2.2).bind fun v7 =>
  (a1 v7 (x4.1, x4.2.1)).bind fun v8 =>
  if (decide (v8 < 0)) = true then
   some (.inl (v7.1, v7.2, (w64 (x4.2.2 + 1))))
  else
   some (.inl (x4.1, x4.2.1, (w64 (x4.2.2 + 1))))
 else
  some (.inr (x4.1, x4.2.1))
def ydb (a0 : (List Qr)) (a1 : Qr → Qr → Option Int) (x1 : Unit) : Option Qr :=
 (idxO a0 0).bind fun v2 =>
 (loopO (yta a0 a1) (v2.1, v2.2, 1)).bind fun y5 => ysb y5
def yab (a0 : (List Qr)) (a1 : (Qr → Qr → Option Int)) : Option Qr :=
 if (decide ((a0.length : Int) < 1)) = true then
  none
 else
  ydb a0 a1 ()
def ytb  (x3 : Qr) : Option Qr :=
 some x3
def yua (a0 : (List Qr)) (a1 : Qr → Qr → Option Int) (x4 : (Int × Int × Int)) : Option ((Int × Int × Int) ⊕ Qr) :=
 if (decide (x4.2.2 < (a0.length : Int))) = true then
  (idxO a0 x4.2.2).bind fun v7 =>
  (a1 v7 (x4.1, x4.2.1)).bind fun v8 =>
  if (decide (v8 > 0)) = true then
   some (.inl (v7.1, v7.2, (w64 (x4.2.2 + 1))))
  else
   some (.inl (x4.1, x4.2.1, (w64 (x4.2.2 + 1))))
 else
  some (.inr (x4.1, x4.2.1))
def yeb (a0 : (List Qr)) (a1 : Qr → Qr → Option Int) (x1 : Unit) : Option Qr :=
 (idxO a0 0).bind fun v2 =>
 (loopO (yua a0 a1) (v2.1, v2.2, 1)).bind fun y5 => ytb y5
def ybb (a0 : (List Qr)) (a1 : (Qr → Qr → Option Int)) : Option Qr :=
 if (decide ((a0.length : Int) < 1)) = true then
  none
 else
  yeb a0 a1 ()
def yod (a0 : Cu) (x1 : Int) : Option (Int × Cu) :=
 if (decide ((w64 (a0.2.1 + 1)) ≤ (a0.1.length : Int))) = true then
  some (x1, (a0.1, (w64 (a0.2.1 + 1)), (IntKind.wrap .u64 ((IntKind.wrap .u64 ((IntKind.wrap .u64 (a0.2.2 * 6364136223846793005)) + (IntKind.wrap .u64 x1))) + 1442695040888963407))))
 else
  some ((IntKind.wrap .i64 (iand .u64 (ishr .u64 (IntKind.wrap .u64 ((IntKind.wrap .u64 ((IntKind.wrap .u64 (a0.2.2 * 6364136223846793005)) + (IntKind.wrap .u64 x1))) + 1442695040888963407)) 40) 255)), (a0.1, (w64 (a0.2.1 + 1)), (IntKind.wrap .u64 ((IntKind.wrap .u64 ((IntKind.wrap .u64 (a0.2.2 * 6364136223846793005)) + (IntKind.wrap .u64 x1))) + 1442695040888963407))))
def yyf (a0 : Cu) : Option (Int × Cu) :=
 if (decide (a0.2.1 < (a0.1.length : Int))) = true then
  (idxO a0.1 a0.2.1).bind fun v4 =>
  yod a0 (IntKind.wrap .i64 v4)
 else
  yod a0 0
def ypd (a1 : Int) (x3 : ((List Int) × Int × Int × Int)) : Option (Int × Cu) :=
 (guardO (a1 ≠ 0)).bind fun u4 =>
 some ((Int.tmod x3.2.2.2 a1), (x3.1, x3.2.1, x3.2.2.1))
def yoa (a0 : Cu) (a1 : Int) : Option (Int × Cu) :=
 if (decide (a1 ≤ 1)) = true then
  some (0, a0)
 else
  (yyf a0).bind fun v2 =>
  if (decide (a1 > 200)) = true then
   (yyf v2.2).bind fun v6 =>
   ypd a1 (v6.2.1, v6.2.2.1, v6.2.2.2, (w64 ((w64 (v2.1 * 256)) + v6.1)))
  else
   ypd a1 (v2.2.1, v2.2.2.1, v2.2.2.2, v2.1)
def ypa (a0 : Cu) (a1 : (List Int)) : Option (Int × Cu) :=
 (yoa a0 (a1.length : Int)).bind fun v1 =>
 (idxO a1 v1.1).bind fun v2 =>
 some (v2, v1.2)
def yie (a0 : Cu) (a1 : Int) : Option (Bool × Cu) :=
 (yoa a0 a1).bind fun v1 =>
 some ((v1.1 == 0), v1.2)
def yjb (a0 : Int) : Option Qr :=
 some (a0, 1)
def yvb (a0 : Cu) (a1 : Int) : Option (Qr × Cu) :=
 (yoa a0 (w64 (a1 + 1))).bind fun v1 =>
 (yyc v1.1 a1).bind fun v2 =>
 some (v2.1, v1.2)
def ydm (a0 : (List Qr)) (a1 : Qr) (x1 : Int) : Option (List Qr) :=
 (if (decide (x1 < (a0.length : Int))) = true then
   (idxO a0 x1).bind fun v2 =>
   some ((v2.1 == a1.1) && (v2.2 == a1.2))
  else
   some false).bind fun w3 =>
 if w3 = true then
  some a0
 else
  (guardO (0 ≤ x1 ∧ x1 ≤ (a0.length : Int))).bind fun u5 =>
  (guardO ((a0.take (Int.toNat x1)).length ≤ 1099511627776)).bind fun u6 =>
  (guardO ((a0.take (Int.toNat x1)).length + ([a1]).length ≤ 1099511627776)).bind fun u7 =>
  (guardO (((a0.take (Int.toNat x1)) ++ [a1]).length + (a0.drop (Int.toNat x1)).length ≤ 1099511627776)).bind fun u8 =>
  some (((a0.take (Int.toNat x1)) ++ [a1]) ++ (a0.drop (Int.toNat x1)))
def ynp (a0 : (List Qr)) (a1 : Qr) (x9 : Int) : Option (Int ⊕ Int) :=
 (if (decide (x9 < (a0.length : Int))) = true then
   (idxO a0 x9).bind fun v11 =>
   (yuc v11 a1).bind fun v12 =>
   some (decide (v12 < 0))
  else
   some false).bind fun w13 =>
 if w13 = true then
  some (.inl (w64 (x9 + 1)))
 else
  some (.inr x9)
def yop (a0 : (List Qr)) (a1 : Qr) : Option (List Qr) :=
 (loopO (ynp a0 a1) 0).bind fun y10 => ydm a0 a1 y10
def yvc (a0 : Qr) (a1 : Qr) : Option (Qr × Bool) :=
 (yyc (w64 ((w64 (a0.1 * a1.2)) + (w64 (a1.1 * a0.2)))) (w64 (a0.2 * a1.2))).bind fun v1 =>
 some v1
def yje (x8 : ((List Int) × Int × Int × (List Int))) (x9 : (List Qp)) : Option ((List Qp) × Cu) :=
 some (x9, (x8.1, x8.2.1, x8.2.2.1))
def ylb (x10 : ((List Qp) × Int)) (v13 : Qr) (x14 : Qr) : Option (((List Qp) × Int) ⊕ (List Qp)) :=
 (guardO (x10.1.length + ([(v13, x14)]).length ≤ 1099511627776)).bind fun u15 =>
 some (.inl ((x10.1 ++ [(v13, x14)]), (w64 (x10.2 + 1))))
def ytg (a1 : Int) (x5 : ((List Int) × Int × Int × (List Qr))) (x7 : ((List Int) × Int × Int × Int × Int)) (x8 : ((List Int) × Int × Int × (List Int))) (x10 : ((List Qp) × Int)) : Option (((List Qp) × Int) ⊕ (List Qp)) :=
 if (decide (x10.2 < (x5.2.2.2.length : Int))) = true then
  (idxO x5.2.2.2 x10.2).bind fun v13 =>
  if ((w64 (x10.2 + 1)) == (x5.2.2.2.length : Int)) = true then
   (yfb x7.2.2.2 1).bind fun v17 =>
   ylb x10 v13 v17
  else
   if (decide (x10.2 > 0)) = true then
    (idxO x8.2.2.2 x10.2).bind fun v19 =>
    (yyc v19 a1).bind fun v20 =>
    (yvc x7.2.2.2 v20.1).bind fun v21 =>
    ylb x10 v13 v21.1
   else
    ylb x10 v13 x7.2.2.2
 else
  some (.inr x10.1)
def ywc (a1 : Int) (x5 : ((List Int) × Int × Int × (List Qr))) (x7 : ((List Int) × Int × Int × Int × Int)) (x8 : ((List Int) × Int × Int × (List Int))) : Option ((List Qp) × Cu) :=
 (loopO (ytg a1 x5 x7 x8) ([], 0)).bind fun y11 => yje x8 y11
def yug (a1 : Int) (x5 : ((List Int) × Int × Int × (List Qr))) (x22 : ((List Int) × Int × Int × (List Int))) : Option (((List Int) × Int × Int × (List Int)) ⊕ ((List Int) × Int × Int × (List Int))) :=
 if (decide ((x22.2.2.2.length : Int) < (w64 ((x5.2.2.2.length : Int) - 1)))) = true then
  (idxO x22.2.2.2 (w64 ((x22.2.2.2.length : Int) - 1))).bind fun v25 =>
  (yoa (x22.1, x22.2.1, x22.2.2.1) (w64 (a1 + 1))).bind fun v26 =>
  (ywk v25 v26.1).bind fun v27 =>
  (guardO (x22.2.2.2.length + ([v27]).length ≤ 1099511627776)).bind fun u28 =>
  some (.inl (v26.2.1, v26.2.2.1, v26.2.2.2, (x22.2.2.2 ++ [v27])))
 else
  some (.inr x22)
def ywb (a1 : Int) (x5 : ((List Int) × Int × Int × (List Qr))) (x7 : ((List Int) × Int × Int × Int × Int)) : Option ((List Qp) × Cu) :=
 (loopO (yug a1 x5) (x7.1, x7.2.1, x7.2.2.1, [0])).bind fun y23 => ywc a1 x5 x7 y23
def yke (a1 : Int) (x5 : ((List Int) × Int × Int × (List Qr))) : Option ((List Qp) × Cu) :=
 (yvb (x5.1, x5.2.1, x5.2.2.1) a1).bind fun v6 =>
 (yie v6.2 6).bind fun v29 =>
 if v29.1 = true then
  (ypa v29.2 ([(-5), (-1), 1, 3])).bind fun v31 =>
  (yfb v6.1 v31.1).bind fun v32 =>
  ywb a1 x5 (v31.2.1, v31.2.2.1, v31.2.2.2, v32.1, v32.2)
 else
  ywb a1 x5 (v29.2.1, v29.2.2.1, v29.2.2.2, v6.1.1, v6.1.2)
def yvg (a1 : Int) (x2 : ((List Int) × Int × Int × Int)) (x33 : ((List Int) × Int × Int × (List Qr) × Int)) : Option (((List Int) × Int × Int × (List Qr) × Int) ⊕ ((List Int) × Int × Int × (List Qr))) :=
 if ((decide ((x33.2.2.2.1.length : Int) < (w64 (x2.2.2.2 + 2)))) && (decide (x33.2.2.2.2 < 60))) = true then
  (yvb (x33.1, x33.2.1, x33.2.2.1) a1).bind fun v36 =>
  (yop x33.2.2.2.1 v36.1).bind fun v37 =>
  some (.inl (v36.2.1, v36.2.2.1, v36.2.2.2, v37, (w64 (x33.2.2.2.2 + 1))))
 else
  some (.inr (x33.1, x33.2.1, x33.2.2.1, x33.2.2.2.1))
def yxb (a1 : Int) (x2 : ((List Int) × Int × Int × Int)) : Option ((List Qp) × Cu) :=
 (yjb 0).bind fun v3 =>
 (yjb 1).bind fun v4 =>
 (loopO (yvg a1 x2) (x2.1, x2.2.1, x2.2.2.1, [v3, v4], 0)).bind fun y34 => yke a1 y34
def yle (a0 : Cu) (a1 : Int) : Option ((List Qp) × Cu) :=
 (ypa a0 ([0, 1, 1, 2, 3])).bind fun v1 =>
 (yie v1.2 16).bind fun v38 =>
 if v38.1 = true then
  yxb a1 (v38.2.1, v38.2.2.1, v38.2.2.2, 10)
 else
  yxb a1 (v38.2.1, v38.2.2.1, v38.2.2.2, v1.1)
def ynn (a0 : Qr) : Option Bool :=
 (yxf a0).bind fun v1 =>
 (if v1 = true then
   (yyi a0.1 0 a0.2).bind fun v2 =>
   some v2
  else
   some false).bind fun w3 =>
 some w3
def yuj (a0 : Qr) : Option Bool :=
 (ynn a0).bind fun v1 =>
 some (v1 && (decide (a0.2 ≤ 100)))
def ycj (a0 : (List Qp)) (x3 : Unit) : Option Bool :=
 (idxO a0 0).bind fun v4 =>
 (idxO a0 (w64 ((a0.length : Int) - 1))).bind fun v5 =>
 (yjb 0).bind fun v6 =>
 (yuc v4.1 v6).bind fun v7 =>
 (if (v7 == 0) = true then
   (yjb 1).bind fun v8 =>
   (yuc v5.1 v8).bind fun v9 =>
   if (v9 == 0) = true then
    (yfb v4.2 1).bind fun v10 =>
    some ((v5.2.1 == v10.1) && (v5.2.2 == v10.2))
   else
    some false
  else
   some false).bind fun w11 =>
 some w11
def ydj (a0 : (List Qp)) (x12 : Int) : Option (Int ⊕ (Bool ⊕ Unit)) :=
 if (decide (x12 < (a0.length : Int))) = true then
  (idxO a0 x12).bind fun v15 =>
  (yuj v15.1).bind fun v16 =>
  (if (!v16) = true then
    some true
   else
    (yxf v15.2).bind fun v17 =>
    if (!v17) = true then
     some true
    else
     if (decide (v15.2.2 > 100)) = true then
      some true
     else
      (yyi v15.2.1 (w64 ((-5) * v15.2.2)) (w64 (5 * v15.2.2))).bind fun v18 =>
      some (!v18)).bind fun w19 =>
  if w19 = true then
   some (.inr (.inl false))
  else
   (if (decide (x12 > 0)) = true then
     (idxO a0 (w64 (x12 - 1))).bind fun v21 =>
     (yuc v21.1 v15.1).bind fun v22 =>
     if (decide (v22 ≥ 0)) = true then
      some true
     else
      (yuc v21.2 v15.2).bind fun v23 =>
      some (decide (v23 > 0))
    else
     some false).bind fun w24 =>
   if w24 = true then
    some (.inr (.inl false))
   else
    some (.inl (w64 (x12 + 1)))
 else
  some (.inr (.inr ()))
def yzc (a0 : (List Qp)) : Option Bool :=
 (yyi (a0.length : Int) 2 12).bind fun v1 =>
 if (!v1) = true then
  some false
 else
  (loopO (ydj a0) 0).bind fun y13 => (Sum.elim (fun p => some p) (fun p => ycj a0 p)) y13
def ynd (a0 : Cu) : Option ((List Qp) × Cu) :=
 (ypa a0 ([1, 2, 3, 4, 5, 6, 8, 12, 100])).bind fun v1 =>
 (yle v1.2 v1.1).bind fun v2 =>
 (yie v2.2 3).bind fun v3 =>
 (if v3.1 = true then
   some true
  else
   (yzc v2.1).bind fun v4 =>
   some (!v4)).bind fun w5 =>
 if w5 = true then
  (ypa v3.2 ([2, 3, 5, 8, 13])).bind fun v7 =>
  (yvb v7.2 v7.1).bind fun v8 =>
  (yjb 0).bind fun v9 =>
  (yjb 1).bind fun v10 =>
  (yfb v8.1 1).bind fun v11 =>
  some ([(v9, v8.1), (v10, v11)], v8.2)
 else
  some (v2.1, v3.2)
def yej (a0 : Cu) : Option (Qr × Cu) :=
 (yoa a0 41).bind fun v1 =>
 (yoa v1.2 2001).bind fun v2 =>
 (ypa v2.2 ([0, 1, 2, 3, (-1), (-5), (w64 (v1.1 - 20)), (w64 (v2.1 - 1000)), 1000000000, (-1000000000)])).bind fun v3 =>
 (yoa v3.2 20).bind fun v4 =>
 (yoa v4.2 1000).bind fun v5 =>
 (ypa v5.2 ([1, 2, 3, 4, 8, 7, (w64 (1 + v4.1)), (w64 (1 + v5.1)), 1000000000, 999999999])).bind fun v6 =>
 (yyc v3.1 v6.1).bind fun v7 =>
 if (!v7.2) = true then
  (yjb 1).bind fun v9 =>
  some (v9, v6.2)
 else
  some (v7.1, v6.2)
def yfd (a0 : Cu) : Option (Qr × Cu) :=
 (yej a0).bind fun v1 =>
 (yoa v1.2 40).bind fun v2 =>
 if (v2.1 == 0) = true then
  (ypa v2.2 ([0, (-1), 1000000001])).bind fun v4 =>
  some ((v1.1.1, v4.1), v4.2)
 else
  if (v2.1 == 1) = true then
   (ypa v2.2 ([1000000001, (-1000000001), (-9223372036854775808)])).bind fun v6 =>
   some ((v6.1, v1.1.2), v6.2)
  else
   if (v2.1 == 2) = true then
    (ypa v2.2 ([2, 0, (-4)])).bind fun v8 =>
    (ypa v8.2 ([2, 4, 6])).bind fun v9 =>
    some ((v8.1, v9.1), v9.2)
   else
    some (v1.1, v2.2)
def yib  (x4 : ((List Int) × Int × Int × (List Qp))) : Option ((List Qp) × Cu) :=
 some (x4.2.2.2, (x4.1, x4.2.1, x4.2.2.1))
def yqh (v5 : (Int × Cu)) (x15 : (List Qp)) : Option ((List Qp) ⊕ ((List Int) × Int × Int × (List Qp))) :=
 if (decide ((x15.length : Int) < 13)) = true then
  (yyc (x15.length : Int) 12).bind fun v18 =>
  (guardO (x15.length + ([(v18.1, v18.1)]).length ≤ 1099511627776)).bind fun u19 =>
  some (.inl (x15 ++ [(v18.1, v18.1)]))
 else
  some (.inr (v5.2.1, v5.2.2.1, v5.2.2.2, x15))
def yye (a0 : Cu) : Option ((List Qp) × Cu) :=
 (ynd a0).bind fun v1 =>
 (yoa v1.2 (v1.1.length : Int)).bind fun v2 =>
 (idxO v1.1 v2.1).bind fun v3 =>
 (yoa v2.2 36).bind fun v5 =>
 if (v5.1 == 0) = true then
  (yfd v5.2).bind fun v7 =>
  yib (v7.2.1, v7.2.2.1, v7.2.2.2, (v1.1.set (Int.toNat v2.1) (v7.1, v3.2)))
 else
  if (v5.1 == 1) = true then
   (yfd v5.2).bind fun v9 =>
   yib (v9.2.1, v9.2.2.1, v9.2.2.2, (v1.1.set (Int.toNat v2.1) (v3.1, v9.1)))
  else
   if (v5.1 == 2) = true then
    (ypa v5.2 ([1, 6, (-6)])).bind fun v11 =>
    (yfb v3.2 v11.1).bind fun v12 =>
    yib (v11.2.1, v11.2.2.1, v11.2.2.2, (v1.1.set (Int.toNat v2.1) (v3.1, v12)))
   else
    if (v5.1 == 3) = true then
     some ([], v5.2)
    else
     if (v5.1 == 4) = true then
      (loopO (yqh v5) ([])).bind fun y16 => yib y16
     else
      yib (v5.2.1, v5.2.2.1, v5.2.2.2, v1.1)
def yce (a0 : Cu) : Option (Qr × Cu) :=
 (ypa a0 ([1, 2, 3, 4, 5, 8, 12])).bind fun v1 =>
 (yvb v1.2 v1.1).bind fun v2 =>
 (yoa v2.2 8).bind fun v3 =>
 if (v3.1 == 0) = true then
  (ypa v3.2 ([(-1), 1, 7, (-20), 999, (-1000)])).bind fun v5 =>
  (yfb v2.1 v5.1).bind fun v6 =>
  some (v6, v5.2)
 else
  if (v3.1 == 1) = true then
   (ypa v3.2 ([1000, 1001, (-1000), (-1001)])).bind fun v8 =>
   some ((v8.1, 1), v8.2)
  else
   if (v3.1 == 2) = true then
    (yfd v3.2).bind fun v10 =>
    some v10
   else
    some (v2.1, v3.2)
def yqa  (x1 : Unit) : Option Int :=
 some (-1)
def yga (a0 : (List Qp)) (a1 : Qp → Option Bool) (x2 : Int) : Option (Int ⊕ (Int ⊕ Unit)) :=
 if (decide (x2 < (a0.length : Int))) = true then
  (idxO a0 x2).bind fun v5 =>
  (a1 v5).bind fun v6 =>
  if v6 = true then
   some (.inr (.inl x2))
  else
   some (.inl (w64 (x2 + 1)))
 else
  some (.inr (.inr ()))
def yfa (a0 : (List Qp)) (a1 : (Qp → Option Bool)) : Option Int :=
 (loopO (yga a0 a1) 0).bind fun y3 => (Sum.elim (fun p => some p) (fun p => yqa p)) y3
def yra (a0 : (List Qp)) (a1 : (Qp → Option Bool)) : Option Bool :=
 (yfa a0 a1).bind fun v1 =>
 some (decide (v1 ≥ 0))
def yon (a0 : Qr) : Option Bool :=
 (yrg a0).bind fun v1 =>
 some (v1 && ((decide (a0.1 ≥ 0)) && (decide (a0.1 ≤ a0.2))))
def yol (a0 : Qr) : Option Bool :=
 (yon a0).bind fun v1 =>
 some (v1 && (decide (a0.2 ≤ 100)))
def ysi (a0 : Qp) : Option Bool :=
 (yol a0.1).bind fun v1 =>
 (if (!v1) = true then
   some true
  else
   (yrg a0.2).bind fun v2 =>
   if (!v2) = true then
    some true
   else
    if (decide (a0.2.2 > 100)) = true then
     some true
    else
     (yhe (-5)).bind fun v3 =>
     (ydh a0.2 v3).bind fun v4 =>
     if v4 = true then
      some true
     else
      (yhe 5).bind fun v5 =>
      (ydh v5 a0.2).bind fun v6 =>
      some v6).bind fun w7 =>
 some w7
def yeq  : Option Qr :=
 some (0, 1)
def yxk  : Option Qr :=
 some (1, 1)
def yfj (a0 : (List Qp)) (x5 : Unit) : Option Bool :=
 (idxO a0 0).bind fun v6 =>
 (idxO a0 (w64 ((a0.length : Int) - 1))).bind fun v7 =>
 (yeq).bind fun v8 =>
 (if ((v6.1.1 == v8.1) && (v6.1.2 == v8.2)) = true then
   (yxk).bind fun v9 =>
   if ((v7.1.1 == v9.1) && (v7.1.2 == v9.2)) = true then
    some ((v7.2.1 == (w64 (v6.2.1 + v6.2.2))) && (v7.2.2 == v6.2.2))
   else
    some false
  else
   some false).bind fun w10 =>
 some w10
def ygj (a0 : (List Qp)) (x11 : Int) : Option (Int ⊕ (Bool ⊕ Unit)) :=
 if (decide (x11 < (a0.length : Int))) = true then
  (idxO a0 (w64 (x11 - 1))).bind fun v14 =>
  (idxO a0 x11).bind fun v15 =>
  (ydh v14.1 v15.1).bind fun v16 =>
  (if (!v16) = true then
    some true
   else
    (ydh v15.2 v14.2).bind fun v17 =>
    some v17).bind fun w18 =>
  if w18 = true then
   some (.inr (.inl false))
  else
   some (.inl (w64 (x11 + 1)))
 else
  some (.inr (.inr ()))
def ync (a0 : (List Qp)) : Option Bool :=
 (yvk (a0.length : Int) 2 12).bind fun v1 =>
 (if (!v1) = true then
   some true
  else
   (yra a0 (fun x0 => ysi x0)).bind fun v2 =>
   some v2).bind fun w3 =>
 if w3 = true then
  some false
 else
  (loopO (ygj a0) 1).bind fun y12 => (Sum.elim (fun p => some p) (fun p => yfj a0 p)) y12
def yme (a0 : Bool) (a1 : Qr) (a2 : Bool) : Option (Qr × Bool) :=
 if (!a2) = true then
  (yeq).bind fun v2 =>
  some (v2, true)
 else
  some (a1, a0)
def ygc (a0 : Bool) (a1 : Qr) (a2 : Qr) : Option (Qr × Bool) :=
 (yed a1 a2).bind fun v1 =>
 (yme a0 v1.1 v1.2).bind fun v2 =>
 some v2
def yhj (a0 : Qp) (c0 : Qr) : Option Bool :=
 (ydh a0.1 c0).bind fun v1 =>
 some (!v1)
def ypl (a0 : (List Qp)) (a1 : Qr) : Option Int :=
 (yfa a0 (fun x0 => yhj x0 a1)).bind fun v1 =>
 some (if (w64 (v1 - 1)) < 0 then 0 else (w64 (v1 - 1)))
def yzh (a0 : Qr) (a1 : Qr) : Option (Qr × Bool) :=
 (yli ([a0, a1])).bind fun v1 =>
 if ((!v1) || (a1.1 == 0)) = true then
  some ((0, 0), false)
 else
  (ytj (w64 (a0.1 * a1.2)) (w64 (a0.2 * a1.1))).bind fun v3 =>
  some v3
def yti (a0 : Bool) (a1 : Qr) (a2 : Qr) : Option (Qr × Bool) :=
 (yzh a1 a2).bind fun v1 =>
 (yme a0 v1.1 v1.2).bind fun v2 =>
 some v2
def yzf (a0 : Bool) (a1 : Qp) (a2 : Qp) : Option (Qr × Bool) :=
 (ygc a0 a2.2 a1.2).bind fun v1 =>
 (ygc v1.2 a2.1 a1.1).bind fun v2 =>
 (yti v2.2 v1.1 v2.1).bind fun v3 =>
 some v3
def ytf (a0 : Qr) (a1 : Qr) : Option (Qr × Bool) :=
 (yli ([a0, a1])).bind fun v1 =>
 if (!v1) = true then
  some ((0, 0), false)
 else
  (ytj (w64 (a0.1 * a1.1)) (w64 (a0.2 * a1.2))).bind fun v3 =>
  some v3
def yhk (a0 : Bool) (a1 : Qr) (a2 : Qr) : Option (Qr × Bool) :=
 (ytf a1 a2).bind fun v1 =>
 (yme a0 v1.1 v1.2).bind fun v2 =>
 some v2
def yne (a0 : Bool) (a1 : Qr) (a2 : Qr) : Option (Qr × Bool) :=
 (ymi a1 a2).bind fun v1 =>
 (yme a0 v1.1 v1.2).bind fun v2 =>
 some v2
def yij (a0 : Bool) (a1 : Qp) (a2 : Qr) (a3 : Qr) : Option (Qr × Bool) :=
 (ygc a0 a3 a1.1).bind fun v1 =>
 (yhk v1.2 a2 v1.1).bind fun v2 =>
 (yne v2.2 a1.2 v2.1).bind fun v3 =>
 some v3
def yag (a0 : Bool) (a1 : (List Qp)) (a2 : Qr) : Option (Qr × Bool) :=
 (ypl a1 a2).bind fun v1 =>
 (idxO a1 v1).bind fun v2 =>
 (idxO a1 (w64 (v1 + 1))).bind fun v3 =>
 (yzf a0 v2 v3).bind fun v4 =>
 (yij v4.2 v2 v4.1 a2).bind fun v5 =>
 some v5
def yjj (a0 : Bool) (a1 : (List Qp)) (a2 : Qr) : Option (Qr × Bool) :=
 (yxh a2).bind fun v1 =>
 (yhe v1).bind fun v2 =>
 (ygc a0 a2 v2).bind fun v3 =>
 (yag v3.2 a1 v3.1).bind fun v4 =>
 (yne v4.2 v4.1 v2).bind fun v5 =>
 some v5
def yrm  (x1 : Int) : Option Int :=
 some x1
def yai (a0 : (List Qp)) (a1 : Qr) (x2 : Int) : Option (Int ⊕ Int) :=
 (if (decide ((w64 (x2 + 2)) < (a0.length : Int))) = true then
   (idxO a0 (w64 (x2 + 1))).bind fun v4 =>
   (yuc v4.1 a1).bind fun v5 =>
   some (decide (v5 < 0))
  else
   some false).bind fun w6 =>
 if w6 = true then
  some (.inl (w64 (x2 + 1)))
 else
  some (.inr x2)
def yql (a0 : (List Qp)) (a1 : Qr) : Option Int :=
 (loopO (yai a0 a1) 0).bind fun y3 => yrm y3
def ywg (a0 : Qr) (a1 : Qr) : Option (Qr × Bool) :=
 (yyc (w64 ((w64 (a0.1 * a1.2)) - (w64 (a1.1 * a0.2)))) (w64 (a0.2 * a1.2))).bind fun v1 =>
 some v1
def ypn (a0 : Qr) (a1 : Qr) : Option (Qr × Bool) :=
 if (a1.1 == 0) = true then
  some ((0, 0), false)
 else
  (yyc (w64 (a0.1 * a1.2)) (w64 (a0.2 * a1.1))).bind fun v2 =>
  some v2
def yvj (a0 : Qp) (a1 : Qp) : Option Qr :=
 (ywg a1.2 a0.2).bind fun v1 =>
 (ywg a1.1 a0.1).bind fun v2 =>
 (ypn v1.1 v2.1).bind fun v3 =>
 some v3.1
def yrl (a0 : Qr) (a1 : Qr) : Option (Qr × Bool) :=
 (yyc (w64 (a0.1 * a1.1)) (w64 (a0.2 * a1.2))).bind fun v1 =>
 some v1
def ycv (a0 : Qp) (a1 : Qp) (a2 : Qr) : Option (Qr × Bool) :=
 (ywg a2 a0.1).bind fun v1 =>
 (yvj a0 a1).bind fun v2 =>
 (yrl v1.1 v2).bind fun v3 =>
 if ((!v1.2) || (!v3.2)) = true then
  some ((0, 0), false)
 else
  (yvc a0.2 v3.1).bind fun v5 =>
  some v5
def yfq (a0 : (List Qp)) (a1 : Qr) : Option (Qr × Bool) :=
 (yql a0 a1).bind fun v1 =>
 (idxO a0 v1).bind fun v2 =>
 (idxO a0 (w64 (v1 + 1))).bind fun v3 =>
 (ycv v2 v3 a1).bind fun v4 =>
 some v4
def ysk (a0 : (List Qp)) (a1 : Qr) : Option (Qr × Bool) :=
 (yre a1).bind fun v1 =>
 (yfb a1 (w64 (0 - v1))).bind fun v2 =>
 (yfq a0 v2).bind fun v3 =>
 if (!v3.2) = true then
  some ((0, 0), false)
 else
  (yjb v1).bind fun v5 =>
  (yvc v3.1 v5).bind fun v6 =>
  some v6
def yck (a0 : (List Int)) : Option ((List Qp) × Qr) :=
 (yye (a0, 0, 0)).bind fun v1 =>
 (yce v1.2).bind fun v2 =>
 some (v1.1, v2.1)
def yio (a0 : (List Qp)) : Option ((List Qp) × Bool) :=
 (yzc a0).bind fun v1 =>
 if (!v1) = true then
  some ([], false)
 else
  some (a0, true)
def ykr  (x2 : Unit) : Option Bool :=
 some true
def ysl (a0 : (List Qp)) (a1 : (List Qp)) (x3 : Int) : Option (Int ⊕ (Bool ⊕ Unit)) :=
 if (decide (x3 < (a0.length : Int))) = true then
  (idxO a0 x3).bind fun v6 =>
  (idxO a1 x3).bind fun v7 =>
  if (!(((v6.1.1 == v7.1.1) && (v6.1.2 == v7.1.2)) && ((v6.2.1 == v7.2.1) && (v6.2.2 == v7.2.2)))) = true then
   some (.inr (.inl false))
  else
   some (.inl (w64 (x3 + 1)))
 else
  some (.inr (.inr ()))
def yem (a0 : (List Qp)) (a1 : (List Qp)) : Option Bool :=
 if ((a0.length : Int) != (a1.length : Int)) = true then
  some false
 else
  (loopO (ysl a0 a1) 0).bind fun y4 => (Sum.elim (fun p => some p) (fun p => ykr p)) y4
def yqn (a0 : (List Qp)) : Option Bool :=
 (ync a0).bind fun v1 =>
 some v1
def ygh  (x1 : (Bool × (List Qr))) : Option (Qr × Qr × Bool) :=
 (yab x1.2 (fun x0 x1 => ymc x0 x1)).bind fun v2 =>
 (ybb x1.2 (fun x0 x1 => ymc x0 x1)).bind fun v3 =>
 some (v2, v3, x1.1)
def yqd (a1 : (List Qp)) (x4 : (Bool × (List Qr) × Int)) : Option ((Bool × (List Qr) × Int) ⊕ (Bool × (List Qr))) :=
 if (decide (x4.2.2 < (a1.length : Int))) = true then
  (idxO a1 x4.2.2).bind fun v7 =>
  (ygc x4.1 v7.2 v7.1).bind fun v8 =>
  (guardO (x4.2.1.length + ([v8.1]).length ≤ 1099511627776)).bind fun u9 =>
  some (.inl (v8.2, (x4.2.1 ++ [v8.1]), (w64 (x4.2.2 + 1))))
 else
  some (.inr (x4.1, x4.2.1))
def ybi (a0 : Bool) (a1 : (List Qp)) : Option (Qr × Qr × Bool) :=
 (loopO (yqd a1) (a0, [], 0)).bind fun y5 => ygh y5
def yyb (a0 : (List Qp)) : Option (Qr × Qr × Bool) :=
 (ync a0).bind fun v1 =>
 if (!v1) = true then
  some ((0, 0), (0, 0), false)
 else
  (ybi false a0).bind fun v3 =>
  some (v3.1, v3.2.1, true)
def yrh  (x5 : (Int × Int × Int × Int)) : Option (Qr × Qr × Bool) :=
 some ((x5.1, x5.2.1), x5.2.2, true)
def yec (a0 : (List Qp)) (x6 : (Int × Int × Int × Int × Int)) : Option ((Int × Int × Int × Int × Int) ⊕ (Int × Int × Int × Int)) :=
 if (decide (x6.2.2.2.2 < (a0.length : Int))) = true then
  (idxO a0 x6.2.2.2.2).bind fun v9 =>
  (ywg v9.2 v9.1).bind fun v10 =>
  (ymn (x6.1, x6.2.1) v10.1).bind fun v11 =>
  (ybj (x6.2.2.1, x6.2.2.2.1) v10.1).bind fun v12 =>
  some (.inl (v11.1, v11.2, v12.1, v12.2, (w64 (x6.2.2.2.2 + 1))))
 else
  some (.inr (x6.1, x6.2.1, x6.2.2.1, x6.2.2.2.1))
def yrd (a0 : (List Qp)) : Option (Qr × Qr × Bool) :=
 (yzc a0).bind fun v1 =>
 if (!v1) = true then
  some ((0, 0), (0, 0), false)
 else
  (idxO a0 0).bind fun v3 =>
  (ywg v3.2 v3.1).bind fun v4 =>
  (loopO (yec a0) (v4.1.1, v4.1.2, v4.1.1, v4.1.2, 0)).bind fun y7 => yrh y7
def yew (a0 : Qr) (a1 : Qr) : Option Int :=
 if (decide ((w64 ((w64 (a0.1 * a1.2)) - (w64 (a1.1 * a0.2)))) < 0)) = true then
  some (-1)
 else
  if (decide ((w64 ((w64 (a0.1 * a1.2)) - (w64 (a1.1 * a0.2)))) > 0)) = true then
   some 1
  else
   some 0
def yik (a0 : Qr) : Option Qr :=
 some ((w64 (a0.2 - a0.1)), a0.2)
def ykj (a0 : Bool) (a1 : Qp) (a2 : Qp) (a3 : Qr) : Option (Qr × Bool) :=
 (ygc a0 a3 a1.2).bind fun v1 =>
 (yzf v1.2 a1 a2).bind fun v2 =>
 (yti v2.2 v1.1 v2.1).bind fun v3 =>
 (yne v3.2 a1.1 v3.1).bind fun v4 =>
 some v4
def yrn (a0 : Qp) (a1 : Qp) (a2 : Qr) : Option (Qr × Bool) :=
 (ywg a2 a0.2).bind fun v1 =>
 if (!v1.2) = true then
  some ((0, 0), false)
 else
  (yvj a0 a1).bind fun v3 =>
  (ypn v1.1 v3).bind fun v4 =>
  if (!v4.2) = true then
   some ((0, 0), false)
  else
   (yvc a0.1 v4.1).bind fun v6 =>
   some v6
def ywj (a0 : (List Qp)) (a1 : Qr) : Option (Qr × Bool) :=
 (yzc a0).bind fun v1 =>
 (if (!v1) = true then
   some true
  else
   (ysj a1).bind fun v2 =>
   some (!v2)).bind fun w3 =>
 if w3 = true then
  some ((0, 0), false)
 else
  (ysk a0 a1).bind fun v5 =>
  some v5
def yui (a0 : (List Qp)) (a1 : Qr) : Option (Qr × Bool) :=
 (ync a0).bind fun v1 =>
 (if (!v1) = true then
   some true
  else
   (yml a1).bind fun v2 =>
   some (!v2)).bind fun w3 =>
 if w3 = true then
  some ((0, 0), false)
 else
  (yjj false a0 a1).bind fun v5 =>
  if v5.2 = true then
   some ((0, 0), false)
  else
   some (v5.1, true)
def yyk (a0 : Qr) : Option Qr :=
 (yre a0).bind fun v1 =>
 some ((w64 (a0.1 - (w64 (v1 * a0.2)))), a0.2)
def yob (x8 : Int) (x13 : Qr) : Option (Qr × Bool) :=
 (yjb x8).bind fun v14 =>
 (yvc x13 v14).bind fun v15 =>
 some v15
def yze (a0 : (List Qp)) (x8 : Int) (x12 : Qr) (x17 : Int) : Option (Qr × Bool) :=
 if (decide (x17 < (w64 ((a0.length : Int) - 1)))) = true then
  (idxO a0 x17).bind fun v19 =>
  (yfb v19.1 (-1)).bind fun v20 =>
  yob x8 v20
 else
  yob x8 x12
def yaf (a0 : (List Qp)) (x21 : Int) : Option (Int ⊕ Int) :=
 (if (decide (x21 > 0)) = true then
   (idxO a0 (w64 (x21 - 1))).bind fun v23 =>
   (idxO a0 x21).bind fun v24 =>
   some ((v23.2.1 == v24.2.1) && (v23.2.2 == v24.2.2))
  else
   some false).bind fun w25 =>
 if w25 = true then
  some (.inl (w64 (x21 - 1)))
 else
  some (.inr x21)
def yoc (a0 : (List Qp)) (v5 : Qp) (x8 : Int) (x12 : Qr) : Option (Qr × Bool) :=
 if ((x12.1 == v5.1.1) && (x12.2 == v5.1.2)) = true then
  (loopO (yaf a0) (w64 ((a0.length : Int) - 1))).bind fun y22 => yze a0 x8 x12 y22
 else
  yob x8 x12
def ypb (a0 : (List Qp)) (v10 : (Qr × Bool)) (x27 : (Int × Int × Int)) : Option ((Int × Int × Int) ⊕ ((Qr × Bool) ⊕ Qr)) :=
 if (decide (x27.2.2 < (a0.length : Int))) = true then
  (idxO a0 (w64 (x27.2.2 - 1))).bind fun v30 =>
  (idxO a0 x27.2.2).bind fun v31 =>
  (yuc v30.2 v10.1).bind fun v32 =>
  (if (decide (v32 < 0)) = true then
    (yuc v10.1 v31.2).bind fun v33 =>
    some (decide (v33 ≤ 0))
   else
    some false).bind fun w34 =>
  if w34 = true then
   (yrn v30 v31 v10.1).bind fun v36 =>
   if (!v36.2) = true then
    some (.inr (.inl ((0, 0), false)))
   else
    some (.inl (v36.1.1, v36.1.2, (w64 (x27.2.2 + 1))))
  else
   some (.inl (x27.1, x27.2.1, (w64 (x27.2.2 + 1))))
 else
  some (.inr (.inr (x27.1, x27.2.1)))
def ygb (a0 : (List Qp)) (a1 : Qr) (v5 : Qp) (x8 : Int) : Option (Qr × Bool) :=
 (yjb x8).bind fun v9 =>
 (ywg a1 v9).bind fun v10 =>
 if (!v10.2) = true then
  some ((0, 0), false)
 else
  (loopO (ypb a0 v10) (v5.1.1, v5.1.2, 1)).bind fun y28 => (Sum.elim (fun p => some p) (fun p => yoc a0 v5 x8 p)) y28
def ysc (a0 : (List Qp)) (a1 : Qr) : Option (Qr × Bool) :=
 (yzc a0).bind fun v1 =>
 (if (!v1) = true then
   some true
  else
   (ysj a1).bind fun v2 =>
   some (!v2)).bind fun w3 =>
 if w3 = true then
  some ((0, 0), false)
 else
  (idxO a0 0).bind fun v5 =>
  (yre a1).bind fun v6 =>
  (yre v5.2).bind fun v7 =>
  (yyk a1).bind fun v38 =>
  (yyk v5.2).bind fun v39 =>
  (yuc v38 v39).bind fun v40 =>
  if (decide (v40 < 0)) = true then
   ygb a0 a1 v5 (w64 ((w64 (v6 - v7)) - 1))
  else
   ygb a0 a1 v5 (w64 (v6 - v7))
def yde (a0 : Qr) : Option Qr :=
 (yxh a0).bind fun v1 =>
 some ((w64 (a0.1 - (w64 (v1 * a0.2)))), a0.2)
def yxc (a0 : Qp) (c0 : Qr) : Option Bool :=
 (ydh a0.2 c0).bind fun v1 =>
 some (!v1)
def yxd (a1 : (List Qp)) (v4 : Qr) (x5 : Int) (v6 : (Qr × Bool)) (x8 : Unit) : Option (Qr × Bool) :=
 (yfa a1 (fun x0 => yxc x0 v6.1)).bind fun v9 =>
 (idxO a1 (w64 (v9 - 1))).bind fun v10 =>
 (idxO a1 v9).bind fun v11 =>
 (ykj v6.2 v10 v11 v6.1).bind fun v12 =>
 (yne v12.2 v12.1 (x5, v4.2)).bind fun v13 =>
 some v13
def yyd (a1 : (List Qp)) (v4 : Qr) (x5 : Int) (v6 : (Qr × Bool)) (x15 : Int) : Option (Qr × Bool) :=
 (idxO a1 x15).bind fun v16 =>
 (yxk).bind fun v17 =>
 (ygc v6.2 v16.1 v17).bind fun v18 =>
 (yne v18.2 v18.1 (x5, v4.2)).bind fun v19 =>
 some v19
def ykc (a1 : (List Qp)) (x20 : Int) : Option (Int ⊕ Int) :=
 (idxO a1 (w64 (x20 - 1))).bind fun v22 =>
 (idxO a1 x20).bind fun v23 =>
 if ((v22.2.1 == v23.2.1) && (v22.2.2 == v23.2.2)) = true then
  some (.inl (w64 (x20 - 1)))
 else
  some (.inr x20)
def ycb (a0 : Bool) (a1 : (List Qp)) (a2 : Qr) (v1 : Qp) (v4 : Qr) (x5 : Int) : Option (Qr × Bool) :=
 (ygc a0 a2 (x5, v4.2)).bind fun v6 =>
 if v6.2 = true then
  some ((0, 0), v6.2)
 else
  if ((v6.1.1 == v1.2.1) && (v6.1.2 == v1.2.2)) = true then
   (loopO (ykc a1) (w64 ((a1.length : Int) - 1))).bind fun y21 => yyd a1 v4 x5 v6 y21
  else
   yxd a1 v4 x5 v6 ()
def ypf (a0 : Bool) (a1 : (List Qp)) (a2 : Qr) : Option (Qr × Bool) :=
 (idxO a1 0).bind fun v1 =>
 (yxh a2).bind fun v2 =>
 (yxh v1.2).bind fun v3 =>
 (yhe (w64 (v2 - v3))).bind fun v4 =>
 (yde a2).bind fun v25 =>
 (yde v1.2).bind fun v26 =>
 (ydh v25 v26).bind fun v27 =>
 if v27 = true then
  ycb a0 a1 a2 v1 v4 (w64 (v4.1 - 1))
 else
  ycb a0 a1 a2 v1 v4 v4.1
def yci (a0 : (List Qp)) (a1 : Qr) : Option (Qr × Bool) :=
 (ync a0).bind fun v1 =>
 (if (!v1) = true then
   some true
  else
   (yml a1).bind fun v2 =>
   some (!v2)).bind fun w3 =>
 if w3 = true then
  some ((0, 0), false)
 else
  (ypf false a0 a1).bind fun v5 =>
  if v5.2 = true then
   some ((0, 0), false)
  else
   some (v5.1, true)
def ydk (a0 : ByteArray) (x1 : ((List ByteArray) × Int)) : Option (List ByteArray) :=
 (guardO ((0 : Int) ≤ x1.2 ∧ x1.2 ≤ (a0.size : Int))).bind fun u2 =>
 (guardO (x1.1.length + ([(strCut a0 x1.2 (a0.size : Int))]).length ≤ 1099511627776)).bind fun u3 =>
 some (x1.1 ++ [(strCut a0 x1.2 (a0.size : Int))])
def ybg (a0 : ByteArray) (a1 : Int) (x4 : ((List ByteArray) × Int × Int)) : Option (((List ByteArray) × Int × Int) ⊕ ((List ByteArray) × Int)) :=
 if (decide (x4.2.2 < (a0.size : Int))) = true then
  (guardO ((0 : Int) ≤ x4.2.2 ∧ x4.2.2 < (a0.size : Int))).bind fun u7 =>
  if ((strAt a0 x4.2.2) == a1) = true then
   (guardO ((0 : Int) ≤ x4.2.1 ∧ x4.2.1 ≤ x4.2.2 ∧ x4.2.2 ≤ (a0.size : Int))).bind fun u9 =>
   (guardO (x4.1.length + ([(strCut a0 x4.2.1 x4.2.2)]).length ≤ 1099511627776)).bind fun u10 =>
   some (.inl ((x4.1 ++ [(strCut a0 x4.2.1 x4.2.2)]), (w64 (x4.2.2 + 1)), (w64 (x4.2.2 + 1))))
  else
   some (.inl (x4.1, x4.2.1, (w64 (x4.2.2 + 1))))
 else
  some (.inr (x4.1, x4.2.1))
def yxg (a0 : ByteArray) (a1 : Int) : Option (List ByteArray) :=
 (loopO (ybg a0 a1) ([], 0, 0)).bind fun y5 => ydk a0 y5
def ytk  (x5 : Int) : Option Int :=
 some x5
def yjd (a0 : ByteArray) (x6 : Qr) : Option (Qr ⊕ (Int ⊕ Int)) :=
 if (decide (x6.2 < (a0.size : Int))) = true then
  (guardO ((0 : Int) ≤ x6.2 ∧ x6.2 < (a0.size : Int))).bind fun u9 =>
  if ((decide ((strAt a0 x6.2) < 48)) || (decide ((strAt a0 x6.2) > 57))) = true then
   some (.inr (.inl (-1)))
  else
   some (.inl ((w64 ((w64 (10 * x6.1)) + (IntKind.wrap .i64 (IntKind.wrap .u8 ((strAt a0 x6.2) - 48))))), (w64 (x6.2 + 1))))
 else
  some (.inr (.inr x6.1))
def ybf (a0 : ByteArray) : Option Int :=
 (yyi (a0.size : Int) 1 10).bind fun v1 =>
 (if (!v1) = true then
   some true
  else
   (guardO ((0 : Int) ≤ 0 ∧ 0 < (a0.size : Int))).bind fun u2 =>
   if ((strAt a0 0) == 48) = true then
    some (decide ((a0.size : Int) > 1))
   else
    some false).bind fun w3 =>
 if w3 = true then
  some (-1)
 else
  (loopO (yjd a0) (0, 0)).bind fun y7 => (Sum.elim (fun p => some p) (fun p => ytk p)) y7
def yyg (rc : (Int → Option ByteArray)) (a0 : Int) : Option ByteArray :=
 if (decide (a0 < 10)) = true then
  some (byteB (IntKind.wrap .u8 (w64 (48 + a0))))
 else
  (rc (w64 (Int.tdiv a0 10))).bind fun v2 =>
  (guardO (v2.size + (byteB (IntKind.wrap .u8 (w64 (48 + (Int.tmod a0 10))))).size ≤ 1099511627776)).bind fun u3 =>
  some (v2 ++ (byteB (IntKind.wrap .u8 (w64 (48 + (Int.tmod a0 10))))))
def yse : Nat → Int → Option ByteArray
 | 0, _ => none
 | k + 1, a0 => yyg (yse k) a0
def ytl (a0 : Int) : Option ByteArray := fuelO fun k => yse k a0
def ypp (a0 : Int) : Option ByteArray :=
 if (decide (a0 < 0)) = true then
  (ytl (w64 (0 - a0))).bind fun v2 =>
  (guardO ((ByteArray.mk #[45]).size + v2.size ≤ 1099511627776)).bind fun u3 =>
  some ((ByteArray.mk #[45]) ++ v2)
 else
  (ytl a0).bind fun v4 =>
  some v4
def yhh (a0 : Qr) : Option ByteArray :=
 (ypp a0.1).bind fun v1 =>
 (guardO (v1.size + (ByteArray.mk #[47]).size ≤ 1099511627776)).bind fun u2 =>
 (ytl a0.2).bind fun v3 =>
 (guardO ((v1 ++ (ByteArray.mk #[47])).size + v3.size ≤ 1099511627776)).bind fun u4 =>
 some ((v1 ++ (ByteArray.mk #[47])) ++ v3)
def ymb (a0 : ByteArray) (x5 : ((List ByteArray) × Int)) : Option (Qr × Bool) :=
 (idxO x5.1 0).bind fun v6 =>
 (ybf v6).bind fun v7 =>
 (idxO x5.1 1).bind fun v8 =>
 (ybf v8).bind fun v9 =>
 (yxf ((w64 (x5.2 * v7)), v9)).bind fun v10 =>
 (if (!v10) = true then
   some true
  else
   (yhh ((w64 (x5.2 * v7)), v9)).bind fun v11 =>
   some (!(v11.toList == a0.toList))).bind fun w12 =>
 if w12 = true then
  some ((0, 0), false)
 else
  some (((w64 (x5.2 * v7)), v9), true)
def yzg (a0 : ByteArray) : Option (Qr × Bool) :=
 (yxg a0 47).bind fun v1 =>
 (if (decide ((a0.size : Int) > 22)) = true then
   some true
  else
   if ((v1.length : Int) != 2) = true then
    some true
   else
    (idxO v1 0).bind fun v2 =>
    some ((v2.size : Int) == 0)).bind fun w3 =>
 if w3 = true then
  some ((0, 0), false)
 else
  (idxO v1 0).bind fun v14 =>
  (guardO ((0 : Int) ≤ 0 ∧ 0 < (v14.size : Int))).bind fun u15 =>
  if ((strAt v14 0) == 45) = true then
   (guardO ((0 : Int) ≤ 1 ∧ 1 ≤ (v14.size : Int))).bind fun u17 =>
   ymb a0 ((v1.set (Int.toNat 0) (strCut v14 1 (v14.size : Int))), (-1))
  else
   ymb a0 (v1, 1)
def yjo  (x1 : ByteArray) : Option ByteArray :=
 some x1
def yih (a0 : (List Qp)) (x2 : (ByteArray × Int)) : Option ((ByteArray × Int) ⊕ ByteArray) :=
 if (decide (x2.2 < (a0.length : Int))) = true then
  (idxO a0 x2.2).bind fun v5 =>
  (yhh v5.1).bind fun v6 =>
  (guardO (v6.size + (ByteArray.mk #[32]).size ≤ 1099511627776)).bind fun u7 =>
  (yhh v5.2).bind fun v8 =>
  (guardO ((v6 ++ (ByteArray.mk #[32])).size + v8.size ≤ 1099511627776)).bind fun u9 =>
  (guardO (((v6 ++ (ByteArray.mk #[32])) ++ v8).size + (ByteArray.mk #[59]).size ≤ 1099511627776)).bind fun u10 =>
  (guardO (x2.1.size + (((v6 ++ (ByteArray.mk #[32])) ++ v8) ++ (ByteArray.mk #[59])).size ≤ 1099511627776)).bind fun u11 =>
  some (.inl ((x2.1 ++ (((v6 ++ (ByteArray.mk #[32])) ++ v8) ++ (ByteArray.mk #[59]))), (w64 (x2.2 + 1))))
 else
  some (.inr x2.1)
def yxj (a0 : (List Qp)) : Option ByteArray :=
 (loopO (yih a0) (ByteArray.empty, 0)).bind fun y3 => yjo y3
def ygd (a0 : ByteArray) (x3 : (List Qp)) : Option ((List Qp) × Bool) :=
 (yio x3).bind fun v4 =>
 (if (!v4.2) = true then
   some true
  else
   (yxj x3).bind fun v5 =>
   some (!(v5.toList == a0.toList))).bind fun w6 =>
 if w6 = true then
  some ([], false)
 else
  some (v4.1, true)
def yhc (v1 : (List ByteArray)) (x9 : ((List Qp) × Int)) : Option (((List Qp) × Int) ⊕ (((List Qp) × Bool) ⊕ (List Qp))) :=
 if (decide (x9.2 < ((v1.take (Int.toNat (w64 ((v1.length : Int) - 1)))).length : Int))) = true then
  (idxO (v1.take (Int.toNat (w64 ((v1.length : Int) - 1)))) x9.2).bind fun v12 =>
  (yxg v12 32).bind fun v13 =>
  if ((v13.length : Int) != 2) = true then
   some (.inr (.inl ([], false)))
  else
   (idxO v13 0).bind fun v15 =>
   (yzg v15).bind fun v16 =>
   (idxO v13 1).bind fun v17 =>
   (yzg v17).bind fun v18 =>
   if ((!v16.2) || (!v18.2)) = true then
    some (.inr (.inl ([], false)))
   else
    (guardO (x9.1.length + ([(v16.1, v18.1)]).length ≤ 1099511627776)).bind fun u20 =>
    some (.inl ((x9.1 ++ [(v16.1, v18.1)]), (w64 (x9.2 + 1))))
 else
  some (.inr (.inr x9.1))
def yoe (a0 : ByteArray) : Option ((List Qp) × Bool) :=
 (yxg a0 59).bind fun v1 =>
 if (decide ((v1.length : Int) > 13)) = true then
  some ([], false)
 else
  (guardO (0 ≤ (w64 ((v1.length : Int) - 1)) ∧ (w64 ((v1.length : Int) - 1)) ≤ (v1.length : Int))).bind fun u8 =>
  (loopO (yhc v1) ([], 0)).bind fun y10 => (Sum.elim (fun p => some p) (fun p => ygd a0 p)) y10
def strings_Cut (a0 : ByteArray) (a1 : ByteArray) : Option (ByteArray × ByteArray × Bool) :=
 (guardO (a0.size < 4294967281)).bind fun u1 =>
 some (cutB a0 a1)
def yyj (a0 : ByteArray) : Option (Int × Bool) :=
 (guardO (a0.size ≤ 281474976710656)).bind fun u1 =>
 some (atoiV a0)
def strconv_Itoa (a0 : Int) : Option ByteArray :=
 (guardO (-9223372036854775808 ≤ a0 ∧ a0 ≤ 9223372036854775807)).bind fun u1 =>
 some (itoaB a0)
def yqf (a0 : Qr) : Option ByteArray :=
 (strconv_Itoa a0.1).bind fun v1 =>
 (guardO (v1.size + (ByteArray.mk #[47]).size ≤ 1099511627776)).bind fun u2 =>
 (strconv_Itoa a0.2).bind fun v3 =>
 (guardO ((v1 ++ (ByteArray.mk #[47])).size + v3.size ≤ 1099511627776)).bind fun u4 =>
 some ((v1 ++ (ByteArray.mk #[47])) ++ v3)
def ykf (a0 : ByteArray) : Option (Qr × Bool) :=
 (strings_Cut a0 (ByteArray.mk #[47])).bind fun v1 =>
 (yyj v1.1).bind fun v2 =>
 (yyj v1.2.1).bind fun v3 =>
 (if (!v1.2.2) = true then
   some true
  else
   if (!v2.2) = true then
    some true
   else
    if (!v3.2) = true then
     some true
    else
     (yrg (v2.1, v3.1)).bind fun v4 =>
     if (!v4) = true then
      some true
     else
      (yqf (v2.1, v3.1)).bind fun v5 =>
      some (!(v5.toList == a0.toList))).bind fun w6 =>
 if w6 = true then
  some ((0, 0), false)
 else
  some ((v2.1, v3.1), true)
def yzj  (x1 : (List Qp)) : Option ((List Qp) × Bool) :=
 some (x1, true)
def yzb  (x2 : (ByteArray × (List Qp))) : Option ((ByteArray × (List Qp)) ⊕ (((List Qp) × Bool) ⊕ (List Qp))) :=
 if (!(x2.1.toList == ByteArray.empty.toList)) = true then
  (strings_Cut x2.1 (ByteArray.mk #[59])).bind fun v5 =>
  (strings_Cut v5.1 (ByteArray.mk #[32])).bind fun v6 =>
  (ykf v6.1).bind fun v7 =>
  (ykf v6.2.1).bind fun v8 =>
  if ((!v5.2.2) || ((!v6.2.2) || ((!v7.2) || (!v8.2)))) = true then
   some (.inr (.inl ([], false)))
  else
   (guardO (x2.2.length + ([(v7.1, v8.1)]).length ≤ 1099511627776)).bind fun u10 =>
   some (.inl (v5.2.1, (x2.2 ++ [(v7.1, v8.1)])))
 else
  some (.inr (.inr x2.2))
def yte (a0 : ByteArray) : Option ((List Qp) × Bool) :=
 (loopO yzb (a0, [])).bind fun y3 => (Sum.elim (fun p => some p) (fun p => yzj p)) y3
def ykd (a0 : ByteArray) : Option ((List Qp) × Bool) :=
 (yte a0).bind fun v1 =>
 (if (!v1.2) = true then
   some true
  else
   (ync v1.1).bind fun v2 =>
   some (!v2)).bind fun w3 =>
 if w3 = true then
  some ([], false)
 else
  some (v1.1, true)
def yad (a0 : (Unit × (List Int))) : Option (Unit × (List Int)) :=
 some a0
def ype (a0 : (Unit × (List Int))) : Option ByteArray :=
 (guardO (a0.2 ≠ [] ∧ bytesOk a0.2 = true)).bind fun u1 =>
 some (bytesB a0.2)
def yqe (a0 : (List Int)) : Option ((List Qp) × Qr) :=
 (yck a0).bind fun v1 =>
 some v1
def yic (a0 : (Unit × (List Int))) (a1 : ByteArray) : Option (Int × Unit × (Unit × (List Int))) :=
 (yad ((), a0.2)).bind fun v1 =>
 (guardO (v1.2.length + a1.size ≤ 1099511627776)).bind fun u2 =>
 some ((a1.size : Int), (), ((), (v1.2 ++ bytesL a1)))
def yjh  (x1 : (List Int)) : Option ByteArray :=
 (ype ((), x1)).bind fun v2 =>
 some v2
def ysd (a0 : (List Qp)) (x3 : ((List Int) × Int)) : Option (((List Int) × Int) ⊕ (List Int)) :=
 if (decide (x3.2 < (a0.length : Int))) = true then
  (idxO a0 x3.2).bind fun v6 =>
  (yqf v6.1).bind fun v7 =>
  (guardO (v7.size + (ByteArray.mk #[32]).size ≤ 1099511627776)).bind fun u8 =>
  (yqf v6.2).bind fun v9 =>
  (guardO ((v7 ++ (ByteArray.mk #[32])).size + v9.size ≤ 1099511627776)).bind fun u10 =>
  (guardO (((v7 ++ (ByteArray.mk #[32])) ++ v9).size + (ByteArray.mk #[59]).size ≤ 1099511627776)).bind fun u11 =>
  (yic ((), x3.1) (((v7 ++ (ByteArray.mk #[32])) ++ v9) ++ (ByteArray.mk #[59]))).bind fun v12 =>
  some (.inl (v12.2.2.2, (w64 (x3.2 + 1))))
 else
  some (.inr x3.1)
def ydi (a0 : (List Qp)) : Option ByteArray :=
 (loopO (ysd a0) ([], 0)).bind fun y4 => yjh y4
def yjk (a0 : (List Qp)) : Option (ByteArray × Bool) :=
 (ync a0).bind fun v1 =>
 if (!v1) = true then
  some (ByteArray.empty, false)
 else
  (ydi a0).bind fun v3 =>
  some (v3, true)
def ykk (a0 : (List Qp)) : Option (ByteArray × Bool) :=
 (yzc a0).bind fun v1 =>
 if (!v1) = true then
  some (ByteArray.empty, false)
 else
  (yxj a0).bind fun v3 =>
  some (v3, true)
def yfm (a0 : Qr) : Option Qr :=
 some ((w64 (a0.2 - a0.1)), a0.2)
def ycf (a0 : (List Qp)) : Option ((List Qp) × Bool) :=
 (ync a0).bind fun v1 =>
 if (!v1) = true then
  some ([], false)
 else
  (guardO (a0.length ≤ 1000000000)).bind fun u2 =>
  (ync (a0.reverse.map oppP)).bind fun v4 =>
  if (!v4) = true then
   some ([], false)
  else
   some (a0.reverse.map oppP, true)
def yhg  (x3 : (List Qp)) : Option ((List Qp) × Bool) :=
 (yio x3).bind fun v4 =>
 some v4
def ybd (a0 : (List Qp)) (x5 : ((List Qp) × Int)) : Option (((List Qp) × Int) ⊕ (List Qp)) :=
 if (decide (x5.2 ≥ 0)) = true then
  (idxO a0 x5.2).bind fun v8 =>
  (yik v8.1).bind fun v9 =>
  (yik v8.2).bind fun v10 =>
  (guardO (x5.1.length + ([(v9, v10)]).length ≤ 1099511627776)).bind fun u11 =>
  some (.inl ((x5.1 ++ [(v9, v10)]), (w64 (x5.2 - 1))))
 else
  some (.inr x5.1)
def yah (a0 : (List Qp)) : Option ((List Qp) × Bool) :=
 (yzc a0).bind fun v1 =>
 if (!v1) = true then
  some ([], false)
 else
  (loopO (ybd a0) ([], (w64 ((a0.length : Int) - 1)))).bind fun y6 => yhg y6
def yni  (x1 : ((List Int) × Int × Int × ByteArray)) : Option (ByteArray × Cu) :=
 some (x1.2.2.2, (x1.1, x1.2.1, x1.2.2.1))
def yoi (a2 : ByteArray) (x3 : ((List Int) × Int × Int × ByteArray × Int)) : Option (((List Int) × Int × Int × ByteArray × Int) ⊕ ((List Int) × Int × Int × ByteArray)) :=
 if ((decide (x3.2.2.2.2 > 0)) && (decide ((x3.2.2.2.1.size : Int) > 0))) = true then
  (yoa (x3.1, x3.2.1, x3.2.2.1) (x3.2.2.2.1.size : Int)).bind fun v6 =>
  (yoa v6.2 (a2.size : Int)).bind fun v7 =>
  (guardO ((0 : Int) ≤ v7.1 ∧ v7.1 < (a2.size : Int))).bind fun u8 =>
  (yoa v7.2 3).bind fun v9 =>
  if (v9.1 == 0) = true then
   (guardO ((0 : Int) ≤ v6.1 ∧ v6.1 ≤ (x3.2.2.2.1.size : Int))).bind fun u11 =>
   (guardO ((strCut x3.2.2.2.1 0 v6.1).size + (byteB (strAt a2 v7.1)).size ≤ 1099511627776)).bind fun u12 =>
   (guardO (((strCut x3.2.2.2.1 0 v6.1) ++ (byteB (strAt a2 v7.1))).size + (strCut x3.2.2.2.1 v6.1 (x3.2.2.2.1.size : Int)).size ≤ 1099511627776)).bind fun u13 =>
   some (.inl (v9.2.1, v9.2.2.1, v9.2.2.2, (((strCut x3.2.2.2.1 0 v6.1) ++ (byteB (strAt a2 v7.1))) ++ (strCut x3.2.2.2.1 v6.1 (x3.2.2.2.1.size : Int))), (w64 (x3.2.2.2.2 - 1))))
  else
   if (v9.1 == 1) = true then
    (guardO ((0 : Int) ≤ v6.1 ∧ v6.1 ≤ (x3.2.2.2.1.size : Int))).bind fun u15 =>
    (guardO ((strCut x3.2.2.2.1 0 v6.1).size + (byteB (strAt a2 v7.1)).size ≤ 1099511627776)).bind fun u16 =>
    (guardO ((0 : Int) ≤ (w64 (v6.1 + 1)) ∧ (w64 (v6.1 + 1)) ≤ (x3.2.2.2.1.size : Int))).bind fun u17 =>
    (guardO (((strCut x3.2.2.2.1 0 v6.1) ++ (byteB (strAt a2 v7.1))).size + (strCut x3.2.2.2.1 (w64 (v6.1 + 1)) (x3.2.2.2.1.size : Int)).size ≤ 1099511627776)).bind fun u18 =>
    some (.inl (v9.2.1, v9.2.2.1, v9.2.2.2, (((strCut x3.2.2.2.1 0 v6.1) ++ (byteB (strAt a2 v7.1))) ++ (strCut x3.2.2.2.1 (w64 (v6.1 + 1)) (x3.2.2.2.1.size : Int))), (w64 (x3.2.2.2.2 - 1))))
   else
    (guardO ((0 : Int) ≤ v6.1 ∧ v6.1 ≤ (x3.2.2.2.1.size : Int))).bind fun u19 =>
    (guardO ((0 : Int) ≤ (w64 (v6.1 + 1)) ∧ (w64 (v6.1 + 1)) ≤ (x3.2.2.2.1.size : Int))).bind fun u20 =>
    (guardO ((strCut x3.2.2.2.1 0 v6.1).size + (strCut x3.2.2.2.1 (w64 (v6.1 + 1)) (x3.2.2.2.1.size : Int)).size ≤ 1099511627776)).bind fun u21 =>
    some (.inl (v9.2.1, v9.2.2.1, v9.2.2.2, ((strCut x3.2.2.2.1 0 v6.1) ++ (strCut x3.2.2.2.1 (w64 (v6.1 + 1)) (x3.2.2.2.1.size : Int))), (w64 (x3.2.2.2.2 - 1))))
 else
  some (.inr (x3.1, x3.2.1, x3.2.2.1, x3.2.2.2.1))
def yuf (a0 : Cu) (a1 : ByteArray) (a2 : ByteArray) : Option (ByteArray × Cu) :=
 (yoa a0 2).bind fun v2 =>
 (loopO (yoi a2) (v2.2.1, v2.2.2.1, v2.2.2.2, a1, (w64 (1 + v2.1)))).bind fun y4 => yni y4
def ydf (a0 : (List Int)) : Option ByteArray :=
 (ynd (a0, 0, 0)).bind fun v1 =>
 (yxj v1.1).bind fun v2 =>
 (yie v1.2 3).bind fun v3 =>
 if v3.1 = true then
  (yuf v3.2 v2 (ByteArray.mk #[45, 48, 49, 50, 47, 59, 32])).bind fun v5 =>
  some v5.1
 else
  some v2
def yef (a0 : (List Int)) : Option Qr :=
 (yce (a0, 0, 0)).bind fun v1 =>
 some v1.1
def yqp (a0 : Qr) : Option Bool :=
 (yrg a0).bind fun v1 =>
 some v1
def ykh  (x3 : (List Qp)) : Option ((List Qp) × Bool) :=
 some (x3, true)
def yxa (a0 : (List Qp)) (x4 : ((List Qp) × Int)) : Option (((List Qp) × Int) ⊕ (List Qp)) :=
 if (decide (x4.2 < (a0.length : Int))) = true then
  (idxO a0 (w64 (x4.2 - 1))).bind fun v7 =>
  (idxO a0 x4.2).bind fun v8 =>
  if (!((v7.2.1 == v8.2.1) && (v7.2.2 == v8.2.2))) = true then
   some (.inl (x4.1, (w64 (x4.2 + 1))))
  else
   (if (decide ((w64 ((x4.1.length : Int) - 1)) ≥ 0)) = true then
     (idxO x4.1 (w64 ((x4.1.length : Int) - 1))).bind fun v10 =>
     some ((v10.2.1 == v7.1.1) && (v10.2.2 == v7.1.2))
    else
     some false).bind fun w11 =>
   if w11 = true then
    (idxO x4.1 (w64 ((x4.1.length : Int) - 1))).bind fun v13 =>
    some (.inl ((x4.1.set (Int.toNat (w64 ((x4.1.length : Int) - 1))) (v13.1, v8.1)), (w64 (x4.2 + 1))))
   else
    (guardO (x4.1.length + ([(v7.1, v8.1)]).length ≤ 1099511627776)).bind fun u14 =>
    some (.inl ((x4.1 ++ [(v7.1, v8.1)]), (w64 (x4.2 + 1))))
 else
  some (.inr x4.1)
def ycg (a0 : (List Qp)) : Option ((List Qp) × Bool) :=
 (ync a0).bind fun v1 =>
 if (!v1) = true then
  some ([], false)
 else
  (loopO (yxa a0) ([], 1)).bind fun y5 => ykh y5
def ylh  (x3 : (List Qp)) : Option ((List Qp) × Bool) :=
 some (x3, true)
def ytd (a0 : (List Qp)) (x4 : ((List Qp) × Int)) : Option (((List Qp) × Int) ⊕ (List Qp)) :=
 if (decide (x4.2 < (a0.length : Int))) = true then
  (idxO a0 (w64 (x4.2 - 1))).bind fun v7 =>
  (idxO a0 x4.2).bind fun v8 =>
  if (!((v7.2.1 == v8.2.1) && (v7.2.2 == v8.2.2))) = true then
   some (.inl (x4.1, (w64 (x4.2 + 1))))
  else
   (if (decide ((x4.1.length : Int) > 0)) = true then
     (idxO x4.1 (w64 ((x4.1.length : Int) - 1))).bind fun v10 =>
     some ((v10.2.1 == v7.1.1) && (v10.2.2 == v7.1.2))
    else
     some false).bind fun w11 =>
   if w11 = true then
    (idxO x4.1 (w64 ((x4.1.length : Int) - 1))).bind fun v13 =>
    some (.inl ((x4.1.set (Int.toNat (w64 ((x4.1.length : Int) - 1))) (v13.1, v8.1)), (w64 (x4.2 + 1))))
   else
    (guardO (x4.1.length + ([(v7.1, v8.1)]).length ≤ 1099511627776)).bind fun u14 =>
    some (.inl ((x4.1 ++ [(v7.1, v8.1)]), (w64 (x4.2 + 1))))
 else
  some (.inr x4.1)
def yei (a0 : (List Qp)) : Option ((List Qp) × Bool) :=
 (yzc a0).bind fun v1 =>
 if (!v1) = true then
  some ([], false)
 else
  (loopO (ytd a0) ([], 1)).bind fun y5 => ylh y5
def yvf (a0 : (List Qp)) : Option (Bool × Bool) :=
 (ycg a0).bind fun v1 =>
 some ((v1.2 && ((v1.1.length : Int) == 0)), v1.2)
def ymh  (x2 : Unit) : Option Bool :=
 some true
def yud (a0 : (List Qp)) (a1 : (List Qp)) (x3 : Int) : Option (Int ⊕ (Bool ⊕ Unit)) :=
 if (decide (x3 < (a0.length : Int))) = true then
  (idxO a0 x3).bind fun v6 =>
  (idxO a1 x3).bind fun v7 =>
  if (!(((v6.1.1 == v7.1.1) && (v6.1.2 == v7.1.2)) && ((v6.2.1 == v7.2.1) && (v6.2.2 == v7.2.2)))) = true then
   some (.inr (.inl false))
  else
   some (.inl (w64 (x3 + 1)))
 else
  some (.inr (.inr ()))
def yfi (a0 : (List Qp)) (a1 : (List Qp)) : Option Bool :=
 if ((a0.length : Int) != (a1.length : Int)) = true then
  some false
 else
  (loopO (yud a0 a1) 0).bind fun y4 => (Sum.elim (fun p => some p) (fun p => ymh p)) y4
def laws_FnLifts_k3 (v2 : ((List Qp) × Qr)) (v5 : (ByteArray × Bool)) (x25 : Unit) : Option Bool :=
 if (!v5.2) = true then
  some true
 else
  (ykd v5.1).bind fun v27 =>
  (yyb v2.1).bind fun v28 =>
  (yrd v2.1).bind fun v29 =>
  (if (!v27.2) = true then
    some true
   else
    (yem v27.1 v2.1).bind fun v30 =>
    if (!v30) = true then
     some true
    else
     if (!v28.2.2) = true then
      some true
     else
      if (!v29.2.2) = true then
       some true
      else
       if (!((v28.1.1 == v29.1.1) && (v28.1.2 == v29.1.2))) = true then
        some true
       else
        if (!((v28.2.1.1 == v29.2.1.1) && (v28.2.1.2 == v29.2.1.2))) = true then
         some true
        else
         (yew v29.1 v29.2.1).bind fun v31 =>
         some (decide (v31 > 0))).bind fun w32 =>
  if w32 = true then
   some false
  else
   (ycg v2.1).bind fun v34 =>
   (yei v2.1).bind fun v35 =>
   (yvf v2.1).bind fun v36 =>
   (if v34.2 = true then
     if v35.2 = true then
      (yfi v34.1 v35.1).bind fun v37 =>
      if v37 = true then
       if v36.2 = true then
        some (v36.1 == ((v35.1.length : Int) == 0))
       else
        some false
      else
       some false
     else
      some false
    else
     some false).bind fun w38 =>
   some w38
def laws_FnLifts_k2 (v2 : ((List Qp) × Qr)) (v3 : (Qr × Bool)) (v5 : (ByteArray × Bool)) (x24 : Unit) : Option Bool :=
 if v3.2 = true then
  (yui v2.1 v3.1).bind fun v40 =>
  if (v40.2 && (!((v40.1.1 == v2.2.1) && (v40.1.2 == v2.2.2)))) = true then
   some false
  else
   laws_FnLifts_k3 v2 v5 ()
 else
  laws_FnLifts_k3 v2 v5 ()
def laws_FnLifts_k1 (v2 : ((List Qp) × Qr)) (v3 : (Qr × Bool)) (v5 : (ByteArray × Bool)) (v9 : ((List Qp) × Bool)) (x23 : Unit) : Option Bool :=
 if v9.2 = true then
  (ycf v9.1).bind fun v43 =>
  (if (!v43.2) = true then
    some true
   else
    (yem v43.1 v2.1).bind fun v44 =>
    some (!v44)).bind fun w45 =>
  if w45 = true then
   some false
  else
   laws_FnLifts_k2 v2 v3 v5 ()
 else
  laws_FnLifts_k2 v2 v3 v5 ()
def laws_FnLifts (a0 : (List Int)) (a1 : (List Int)) : Option Bool :=
 if (decide ((w64 ((a0.length : Int) + (a1.length : Int))) > 1048576)) = true then
  some true
 else
  (yqe a0).bind fun v2 =>
  (yci v2.1 v2.2).bind fun v3 =>
  (ysc v2.1 v2.2).bind fun v4 =>
  (yjk v2.1).bind fun v5 =>
  (ykk v2.1).bind fun v6 =>
  (yui v2.1 v2.2).bind fun v7 =>
  (ywj v2.1 v2.2).bind fun v8 =>
  (ycf v2.1).bind fun v9 =>
  (yah v2.1).bind fun v10 =>
  (ydf a1).bind fun v11 =>
  (ykd v11).bind fun v12 =>
  (yoe v11).bind fun v13 =>
  (yef a1).bind fun v14 =>
  (yaj v14).bind fun v15 =>
  (yzi v14).bind fun v16 =>
  (if (!(v3.2 == v4.2)) = true then
    some true
   else
    if (!((v3.1.1 == v4.1.1) && (v3.1.2 == v4.1.2))) = true then
     some true
    else
     if (!(v5.2 == v6.2)) = true then
      some true
     else
      if (!(v5.1.toList == v6.1.toList)) = true then
       some true
      else
       if (!(v7.2 == v8.2)) = true then
        some true
       else
        if (!((v7.1.1 == v8.1.1) && (v7.1.2 == v8.1.2))) = true then
         some true
        else
         if (!(v9.2 == v10.2)) = true then
          some true
         else
          (yem v9.1 v10.1).bind fun v17 =>
          if (!v17) = true then
           some true
          else
           if (!(v12.2 == v13.2)) = true then
            some true
           else
            (yem v12.1 v13.1).bind fun v18 =>
            if (!v18) = true then
             some true
            else
             if (!(v15.2 == v16.2)) = true then
              some true
             else
              if (!((v15.1.1 == v16.1.1) && (v15.1.2 == v16.1.2))) = true then
               some true
              else
               (yqn v2.1).bind fun v19 =>
               if (!(v19 == v5.2)) = true then
                some true
               else
                if v3.2 = true then
                 if (!v5.2) = true then
                  some true
                 else
                  if v7.2 = true then
                   if v9.2 = true then
                    some (!v5.2)
                   else
                    some false
                  else
                   if v9.2 = true then
                    some (!v5.2)
                   else
                    some false
                else
                 if v7.2 = true then
                  if (!v5.2) = true then
                   some true
                  else
                   if v9.2 = true then
                    some (!v5.2)
                   else
                    some false
                 else
                  if v9.2 = true then
                   some (!v5.2)
                  else
                   some false).bind fun w20 =>
  if w20 = true then
   some false
  else
   if (v15.2 && ((decide (v16.1.1 < 0)) || ((decide (v16.1.1 ≥ v16.1.2)) || (v16.1.2 != v14.2)))) = true then
    some false
   else
    if (v7.2 && ((decide (v2.2.1 ≥ (w64 ((-900) * v2.2.2)))) && (decide (v2.2.1 ≤ (w64 (900 * v2.2.2)))))) = true then
     (yui v2.1 ((w64 (v2.2.1 + v2.2.2)), v2.2.2)).bind fun v48 =>
     (yqp ((w64 (v2.2.1 + v2.2.2)), v2.2.2)).bind fun v49 =>
     if (v49 && (v48.2 && (!((v48.1.1 == (w64 (v8.1.1 + v8.1.2))) && (v48.1.2 == v8.1.2))))) = true then
      some false
     else
      laws_FnLifts_k1 v2 v3 v5 v9 ()
    else
     laws_FnLifts_k1 v2 v3 v5 v9 ()
end
end Go.PV

/-
  Plain definitions of what the functions answer.
  Conditions: none.
-/
import Derived.Test.YtigabkbbbpokbaaGreatPvCx
set_option linter.all false
namespace Go.PV
abbrev sP (l:List Qp):List C:=[.sl none (l.map ePt)]
abbrev oP (n:Nat) (l:List Qp):List C:=[.sl (some n) (l.map ePt)]
abbrev oN (n:Nat):List C:=[.sl (some n) []]
theorem frE (l:List Qp):frR (sP l)=true:=frR1 (ykl1 (fr_P (fr_P fr_I fr_I) (fr_P fr_I fr_I))) rfl
theorem frO (n:Nat) (l:List Qp):frR (oP n l)=false:=rfl
theorem erPt (l:List Qp):eraL (l.map ePt)=l.map ePt:=yka (ywt (ywt er_I er_I) (ywt er_I er_I))
abbrev kN (l:List RV):HH:={call:=some (none,l,true)}
abbrev hB (b:Bool):HH:={g:=some false,pv:=some (.bool b)}
abbrev gFbT:HH:={g:=some false,b:=some true}
abbrev gFbF:HH:={g:=some false,b:=some false}
abbrev nR (a b:Qr):Bool:= !((a.1==b.1)&&(a.2==b.2))
theorem kG {P:Program} {N id:Nat} {ops:List Oper} {b:Code} {l0:LS} {R:Prop} {Q:Ex->LS->Prop} (l1:LS) (hs:List (Nat×HH)) (ho:R) (hq:OkL P N b l1 Q) (e:(xGo P ops hs l0 l1).map (fun p=>(p.1,allP p.2))=some (l1,R):=by kernel_rfl):OkL P N (.seq (.region id ops.toArray false) b) l0 Q:=ynb (r_gq l1 hs ho e) hq
abbrev zR:List C:=[rI 0,rI 0]
abbrev gC (a:List Arg) (v:List RV):HH:={g:=some false,call:=some (some a,v,true)}
abbrev gN (v:List RV):HH:={g:=some false,call:=some (none,v,true)}
abbrev cS (a:List Arg) (v:List RV):HH:={call:=some (some a,v,true)}
abbrev lNt (v:List RV) (x:SV):HH:={lend:=some (none,v,x,true)}
abbrev lNf (v:List RV) (x:SV):HH:={lend:=some (none,v,x,false)}
theorem lnP (l:List Qp):(l.map ePt).length=l.length:=List.length_map ..
theorem tT:true=true:=rfl
theorem fF:false=false:=rfl
theorem wkk {l l':LS} (h1:refsOk l'=true:=by kernel_rfl) (h2:readL (ofL l) l'=l':=by kernel_rfl):wk l l':=ygb2 h1 h2
noncomputable section
abbrev eL {α:Type} (n:Nat) (F:α->List C) (l:List α):List C:=[.sl (some n) (l.map F)]
abbrev fL {α:Type} (F:α->List C) (l:List α):List C:=[.sl none (l.map F)]
abbrev dP (n:Nat) (l:List Qp):Nat×SV:=(n,.d false (sP l))
abbrev dL {α:Type} (n:Nat) (F:α->List C) (l:List α):Nat×SV:=(n,.d false (fL F l))
abbrev vP (n k:Nat) (l:List Qp):Nat×SV:=(n,.ov false (oP k l))
abbrev vL {α:Type} (n k:Nat) (F:α->List C) (l:List α):Nat×SV:=(n,.ov false (eL k F l))
abbrev vN (n k:Nat):Nat×SV:=(n,.ov false (oN k))
abbrev pI (n:Nat) (x:Int):Nat×SV:=(n,.p (iV x))
abbrev pL {α:Type} (n:Nat) (l:List α):Nat×SV:=(n,.p (iV (l.length:Int)))
abbrev pB (n:Nat) (b:Bool):Nat×SV:=(n,.p (.bool b))
abbrev bR (n:Nat) (x:Qr):Nat×SV:=(n,.box (eRt x))
abbrev bP (n:Nat) (x:Qp):Nat×SV:=(n,.box (ePt x))
abbrev bC (n:Nat) (x:Cu):Nat×SV:=(n,.box (eCu x))
abbrev bX (n:Nat) (l:List C):Nat×SV:=(n,.box l)
abbrev rF (n r:Nat):Nat×SV:=(n,.ref r [(0,0)] none)
abbrev zQ:List C:=[rI 0,rI 0,rI 0,rI 0]
abbrev hR (n:Nat) (l:List C):Nat×HH:=(n,{row:=some l})
abbrev hN {α:Type} (n:Nat) (l:List α):Nat×HH:=(n,{n:=some l.length})
abbrev hC (n:Nat) (l:List RV):Nat×HH:=(n,kN l)
abbrev hT (n:Nat) (v:List RV) (x:SV):Nat×HH:=(n,lNt v x)
abbrev hF (n:Nat) (v:List RV) (x:SV):Nat×HH:=(n,lNf v x)
abbrev rO {α:Type} (k:Nat) (F:α->List C) (l:List α):RV:=.ov false (eL k F l)
theorem lF {α:Type} (F:α->List C) (l:List α):(l.map F).length=l.length:=List.length_map ..
theorem sR' (k:Nat) (l:List Qr):List.all [rO k eRt l] simpleR=true:=sa_o (wnR1 (yvc (wn_P wn_I wn_I)) rfl) rfl
theorem gW {α:Type} {xs:List α} {i:Int} {v:α} (k:Nat) (F:α->List C) (h:idxO xs i=some v):getRow [eL k F xs] [(0,0),((Int.toNat i),0)]=some (F v):=(gr0 rfl).trans (gre (yca F (yba h).2))
theorem aP' {α:Type} (k:Nat) (F:α->List C) (l m:List α):SV.ov false [.sl (some k) (l.map F++m.map F)]=.ov false (eL k F (l++m)):=congrArg (fun z=>SV.ov false [.sl (some k) z]) (List.map_append ..).symm
theorem lG' {α:Type} {l m:List α} {u:Unit} (F:α->List C) (h:guardO (l.length+m.length<=1099511627776)=some u):List.length ((l.map F):List (List C))+List.length ((m.map F):List (List C))<=1099511627776:=(by have hg:=ysa h;simpa using hg)
theorem kI {P:Program} {N:Nat} {c:Operand} {x y:Code} {l:LS} {Q:Ex->LS->Prop} {E:Bool} {α:Type} {a b:Option α} {r:α} (h:(if E=true then a else b)=some r) (h1:E=true->a=some r->OkL P N x l Q) (h2:E=false->b=some r->OkL P N y l Q) (hc:evS (ofL l) c=.p (.bool E):=by kernel_rfl):OkL P N (.cond c x y) l Q:=kc E (fun q=>h1 q (yjh q h)) (fun q=>h2 q (ykh q h)) hc
attribute [simp] pI pL pB
def yxj (a0:Int) (a1:Int) (a2:Int):Option Bool :=
 some ((decide (a0>=a1))&&(decide (a0<=a2)))
def ydj1  (x1:Unit):Option Bool :=
 some true
def yyr (a0:(List Int)) (a1:Int) (a2:Int) (x2:Int):Option (Int ⊕ (Bool ⊕ Unit)) :=
 if(decide (x2<(a0.length:Int)))=true then
  (idxO a0 x2).bind fun v5 =>
  (yxj v5 a1 a2).bind fun v6 =>
  if(!v6)=true then
   some (.inr (.inl false))
  else
   some (.inl (w64 (x2+1)))
 else
  some (.inr (.inr ()))
def yly (a0:(List Int)) (a1:Int) (a2:Int):Option Bool :=
 (loopO (yyr a0 a1 a2) 0).bind fun y3=>(Sum.elim (fun p=>some p) (fun p=>ydj1 p)) y3
def ybf (a0:Int) (a1:Int) (a2:Int):Option Bool :=
 some ((decide (a1<=a0))&&(decide (a0<=a2)))
def yse  (x1:Unit):Option Int :=
 some (-1)
def ypc (a0:(List Int)) (a1:Int->Option Bool) (x2:Int):Option (Int ⊕ (Int ⊕ Unit)) :=
 if(decide (x2<(a0.length:Int)))=true then
  (idxO a0 x2).bind fun v5 =>
  (a1 v5).bind fun v6 =>
  if v6=true then
   some (.inr (.inl x2))
  else
   some (.inl (w64 (x2+1)))
 else
  some (.inr (.inr ()))
def ycd (a0:(List Int)) (a1:(Int->Option Bool)):Option Int :=
 (loopO (ypc a0 a1) 0).bind fun y3=>(Sum.elim (fun p=>some p) (fun p=>yse p)) y3
def yqc (a0:(List Int)) (a1:(Int->Option Bool)):Option Bool :=
 (ycd a0 a1).bind fun v1 =>
 some (decide (v1>=0))
def yco (a0:Int) (a1:Int):Option Int :=
 if(decide (a0>a1))=true then
  some a0
 else
  some a1
def yvq (a0:Int):Option Int :=
 (yco a0 (w64 (0-a0))).bind fun v1 =>
 some v1
def ywq  (x1:Int):Option Int :=
 some x1
def yfj  (x2:Qr):Option (Qr ⊕ Int) :=
 if(decide (x2.2>0))=true then
  (guardO (x2.2≠0)).bind fun u5 =>
  some (.inl (x2.2,(Int.tmod x2.1 x2.2)))
 else
  some (.inr x2.1)
def yam (a0:Int) (a1:Int):Option Int :=
 (loopO yfj (a0,a1)).bind fun y3=>ywq y3
def ybm (a0:Qr):Option Bool :=
 (yxj a0.2 1 1000000000).bind fun v1 =>
 (if v1=true then
   (yxj a0.1 (-1000000000) 1000000000).bind fun v2 =>
   if v2=true then
    (yvq a0.1).bind fun v3 =>
    (yam v3 a0.2).bind fun v4 =>
    some (v4==1)
   else
    some false
  else
   some false).bind fun w5 =>
 some w5
def yan1 (a0:Int) (a1:Int):Option Int :=
 if(a1==0)=true then
  some 0
 else
  (guardO (a1≠0)).bind fun u2 =>
  if(decide ((Int.tmod a0 a1)<0))=true then
   some (w64 ((w64 (Int.tdiv a0 a1))-1))
  else
   some (w64 (Int.tdiv a0 a1))
def yxk1 (a0:Qr):Option Int :=
 (yan1 a0.1 a0.2).bind fun v1 =>
 some v1
def yha1 (a0:Int):Option Int :=
 if(decide (a0<0))=true then
  some (w64 (0-a0))
 else
  some a0
def yve  (x3:Int):Option Int :=
 some x3
def yld  (x4:Qr):Option (Qr ⊕ Int) :=
 if(x4.2 != 0)=true then
  (guardO (x4.2≠0)).bind fun u7 =>
  some (.inl (x4.2,(Int.tmod x4.1 x4.2)))
 else
  some (.inr x4.1)
def ynd (a0:Int) (a1:Int):Option Int :=
 (yha1 a0).bind fun v1 =>
 (yha1 a1).bind fun v2 =>
 (loopO yld (v1,v2)).bind fun y5=>yve y5
def yxq (a0:Qr):Option Bool :=
 (ybf a0.2 1 1000000000).bind fun v1 =>
 (if v1=true then
   (ybf a0.1 (-1000000000) 1000000000).bind fun v2 =>
   if v2=true then
    (ynd a0.1 a0.2).bind fun v3 =>
    some (v3==1)
   else
    some false
  else
   some false).bind fun w4 =>
 some w4
def ygj (a0:Qr) (a1:Qr):Option Int :=
 if(decide ((w64 (a0.1*a1.2))<(w64 (a1.1*a0.2))))=true then
  some (-1)
 else
  if(decide ((w64 (a0.1*a1.2))>(w64 (a1.1*a0.2))))=true then
   some 1
  else
   some 0
def yvf (a0:Qr) (a1:Qr):Option Bool :=
 (ygj a0 a1).bind fun v1 =>
 some (decide (v1<0))
def ydd1 (a0:Int) (a1:Int):Option Int :=
 (guardO (a1≠0)).bind fun u1 =>
 if(decide ((Int.tmod a0 a1)<0))=true then
  some (w64 ((w64 (Int.tdiv a0 a1))-1))
 else
  some (w64 (Int.tdiv a0 a1))
def yoq1 (a0:Qr):Option Int :=
 (ydd1 a0.1 a0.2).bind fun v1 =>
 some v1
def yot (a0:Qr):Option Qr :=
 some ((w64 (0-a0.1)),a0.2)
def yms  (x1:Unit):Option Bool :=
 some true
def yrk (a0:(List Qr)) (x2:Int):Option (Int ⊕ (Bool ⊕ Unit)) :=
 if(decide (x2<(a0.length:Int)))=true then
  (idxO a0 x2).bind fun v5 =>
  (yxq v5).bind fun v6 =>
  if(!v6)=true then
   some (.inr (.inl false))
  else
   some (.inl (w64 (x2+1)))
 else
  some (.inr (.inr ()))
def yol (a0:(List Qr)):Option Bool :=
 (loopO (yrk a0) 0).bind fun y3=>(Sum.elim (fun p=>some p) (fun p=>yms p)) y3
def yyj (a0:Int) (a1:Int) (x2:Int):Option (Qr×Bool) :=
 (guardO (x2≠0)).bind fun u3 =>
 (yxq ((w64 (Int.tdiv a0 x2)),(w64 (Int.tdiv a1 x2)))).bind fun v4 =>
 if(!v4)=true then
  some ((0,0),false)
 else
  some (((w64 (Int.tdiv a0 x2)),(w64 (Int.tdiv a1 x2))),true)
def ydo (a0:Int) (a1:Int):Option (Qr×Bool) :=
 (ynd a0 a1).bind fun v1 =>
 if(decide (a1<0))=true then
  yyj a0 a1 (w64 (0-v1))
 else
  yyj a0 a1 v1
def ypl (a0:Qr) (a1:Qr):Option (Qr×Bool) :=
 (yol ([a0,a1])).bind fun v1 =>
 if(!v1)=true then
  some ((0,0),false)
 else
  (ydo (w64 ((w64 (a0.1*a1.2))+(w64 (a1.1*a0.2)))) (w64 (a0.2*a1.2))).bind fun v3 =>
  some v3
def yzh (a0:Qr) (a1:Qr):Option (Qr×Bool) :=
 (yot a1).bind fun v1 =>
 (ypl a0 v1).bind fun v2 =>
 some v2
def yog1  (x3:Unit):Option Bool :=
 some true
def ybq (a0:(List (List Int))) (x4:Int):Option (Int ⊕ (Bool ⊕ Unit)) :=
 if(decide (x4<(a0.length:Int)))=true then
  (idxO a0 x4).bind fun v7 =>
  (if((v7.length:Int) != (a0.length:Int))=true then
    some true
   else
    (yly v7 0 9).bind fun v8 =>
    some (!v8)).bind fun w9 =>
  if w9=true then
   some (.inr (.inl false))
  else
   some (.inl (w64 (x4+1)))
 else
  some (.inr (.inr ()))
def yia1 (a0:(List (List Int))):Option Bool :=
 (yxj (a0.length:Int) 1 8).bind fun v1 =>
 if(!v1)=true then
  some false
 else
  (loopO (ybq a0) 0).bind fun y5=>(Sum.elim (fun p=>some p) (fun p=>yog1 p)) y5
def ylb  (x1:Unit):Option Int :=
 some (-1)
def ymb (a0:(List (List Int))) (a1:(List Int)->Option Bool) (x2:Int):Option (Int ⊕ (Int ⊕ Unit)) :=
 if(decide (x2<(a0.length:Int)))=true then
  (idxO a0 x2).bind fun v5 =>
  (a1 v5).bind fun v6 =>
  if v6=true then
   some (.inr (.inl x2))
  else
   some (.inl (w64 (x2+1)))
 else
  some (.inr (.inr ()))
def yac (a0:(List (List Int))) (a1:((List Int)->Option Bool)):Option Int :=
 (loopO (ymb a0 a1) 0).bind fun y3=>(Sum.elim (fun p=>some p) (fun p=>ylb p)) y3
def ybb (a0:(List (List Int))) (a1:((List Int)->Option Bool)):Option Bool :=
 (yac a0 a1).bind fun v1 =>
 some (decide (v1>=0))
def ytg (a0:Int):Option Bool :=
 (ybf a0 0 9).bind fun v1 =>
 some (!v1)
def yzj (a0:(List Int)) (c0:(List (List Int))):Option Bool :=
 (if((a0.length:Int) != (c0.length:Int))=true then
   some true
  else
   (yqc a0 (fun x0=>ytg x0)).bind fun v1 =>
   some v1).bind fun w2 =>
 some w2
def yyq (a0:(List (List Int))):Option Bool :=
 (ybf (a0.length:Int) 1 8).bind fun v1 =>
 (if v1=true then
   (ybb a0 (fun x0=>yzj x0 a0)).bind fun v2 =>
   some (!v2)
  else
   some false).bind fun w3 =>
 some w3
def yql (a0:Int) (a1:Int):Option Int :=
 if(decide (a0<a1))=true then
  some a0
 else
  some a1
def ycv (a0:Int):Option Int :=
 (yql a0 1000000001).bind fun v1 =>
 some v1
def yns  (x2:(List (List Int))):Option (List (List Int)) :=
 some x2
def yvo (x3:(Int×(List (List Int)))) (x6:(List (List Int))):Option ((Int×(List (List Int))) ⊕ (List (List Int))) :=
 some (.inl ((w64 (x3.1-1)),x6))
def ywo (x3:(Int×(List (List Int)))) (x7:(List (List Int))):Option ((Int×(List (List Int))) ⊕ (List (List Int))) :=
 yvo x3 x7
def yxo (x8:((List (List Int))×Int)) (x11:(List (List Int))):Option (((List (List Int))×Int) ⊕ (List (List Int))) :=
 some (.inl (x11,(w64 (x8.2+1))))
def yyo (x8:((List (List Int))×Int)) (x13:(List Int)):Option (((List (List Int))×Int) ⊕ (List (List Int))) :=
 (guardO (x8.1.length+([x13]).length<=1099511627776)).bind fun u14 =>
 yxo x8 (x8.1++[x13])
def yzo (x15:((List Int)×Int)) (x18:(List Int)):Option (((List Int)×Int) ⊕ (List Int)) :=
 some (.inl (x18,(w64 (x15.2+1))))
def ygi (a0:(List (List Int))) (x3:(Int×(List (List Int)))) (x8:((List (List Int))×Int)) (x15:((List Int)×Int)) (x19:((List Int)×Int)):Option (((List Int)×Int) ⊕ (List Int)) :=
 if(decide (x19.2<(a0.length:Int)))=true then
  (idxO x19.1 x15.2).bind fun v22 =>
  (idxO x3.2 x8.2).bind fun v23 =>
  (idxO v23 x19.2).bind fun v24 =>
  (idxO a0 x19.2).bind fun v25 =>
  (idxO v25 x15.2).bind fun v26 =>
  (ycv (w64 (v22+(w64 (v24*v26))))).bind fun v27 =>
  some (.inl ((x19.1.set (Int.toNat x15.2) v27),(w64 (x19.2+1))))
 else
  some (.inr x19.1)
def yhi (a0:(List (List Int))) (x3:(Int×(List (List Int)))) (x8:((List (List Int))×Int)) (x15:((List Int)×Int)):Option (((List Int)×Int) ⊕ (List Int)) :=
 if(decide (x15.2<(a0.length:Int)))=true then
  (loopO (ygi a0 x3 x8 x15) (x15.1,0)).bind fun y20=>yzo x15 y20
 else
  some (.inr x15.1)
def yii (a0:(List (List Int))) (x3:(Int×(List (List Int)))) (x8:((List (List Int))×Int)):Option (((List (List Int))×Int) ⊕ (List (List Int))) :=
 if(decide (x8.2<(a0.length:Int)))=true then
  (guardO (0<=(a0.length:Int)/\(a0.length:Int)<=1099511627776)).bind fun u12 =>
  (loopO (yhi a0 x3 x8) ((List.replicate (Int.toNat (a0.length:Int)) (0:Int)),0)).bind fun y16=>yyo x8 y16
 else
  some (.inr x8.1)
def yji (a0:(List (List Int))) (x3:(Int×(List (List Int)))):Option ((Int×(List (List Int))) ⊕ (List (List Int))) :=
 if(decide (x3.1>0))=true then
  (loopO (yii a0 x3) ([],0)).bind fun y9=>ywo x3 y9
 else
  some (.inr x3.2)
def yap (a0:(List (List Int))) (a1:Int) (x1:(List (List Int))):Option (List (List Int)) :=
 (loopO (yji a0) (a1,x1)).bind fun y4=>yns y4
def ysk (a0:(List (List Int))) (x28:((List (List Int))×Int)):Option (((List (List Int))×Int) ⊕ (List (List Int))) :=
 if(decide (x28.2<(a0.length:Int)))=true then
  (guardO (0<=(a0.length:Int)/\(a0.length:Int)<=1099511627776)).bind fun u31 =>
  (guardO (x28.1.length+([(List.replicate (Int.toNat (a0.length:Int)) (0:Int))]).length<=1099511627776)).bind fun u32 =>
  (idxO (x28.1++[(List.replicate (Int.toNat (a0.length:Int)) (0:Int))]) x28.2).bind fun v33 =>
  (idxO v33 x28.2).bind fun v34 =>
  some (.inl (((x28.1++[(List.replicate (Int.toNat (a0.length:Int)) (0:Int))]).set (Int.toNat x28.2) (v33.set (Int.toNat x28.2) 1)),(w64 (x28.2+1))))
 else
  some (.inr x28.1)
def yeo (a0:(List (List Int))) (a1:Int):Option (List (List Int)) :=
 (loopO (ysk a0) ([],0)).bind fun y29=>yap a0 a1 y29
def yrl (a0:Int):Option Bool :=
 (yxj a0 0 12).bind fun v1 =>
 some v1
def ycm (a0:(List (List Int))) (a1:Int):Option Bool :=
 (yyq a0).bind fun v1 =>
 (if v1=true then
   (ybf a1 0 12).bind fun v2 =>
   some v2
  else
   some false).bind fun w3 =>
 some w3
def yfo  (x2:(List (List Int))):Option (List (List Int)) :=
 some x2
def yug (a0:Int) (x3:((List (List Int))×Int)):Option (((List (List Int))×Int) ⊕ (List (List Int))) :=
 if(decide (x3.2<((List.replicate (Int.toNat a0) ([]:(List Int))).length:Int)))=true then
  (idxO x3.1 x3.2).bind fun v6 =>
  some (.inl ((x3.1.set (Int.toNat x3.2) (List.replicate (Int.toNat a0) (0:Int))),(w64 (x3.2+1))))
 else
  some (.inr x3.1)
def ylg (a0:Int):Option (List (List Int)) :=
 (guardO (0<=a0/\a0<=1099511627776)).bind fun u1 =>
 (loopO (yug a0) ((List.replicate (Int.toNat a0) ([]:(List Int))),0)).bind fun y4=>yfo y4
def ywp  (x3:(List (List Int))):Option (List (List Int)) :=
 some x3
def ydl (x4:((List (List Int))×Int)) (x7:(List (List Int))):Option (((List (List Int))×Int) ⊕ (List (List Int))) :=
 some (.inl (x7,(w64 (x4.2+1))))
def yel (x4:((List (List Int))×Int)) (x9:(List (List Int))):Option (((List (List Int))×Int) ⊕ (List (List Int))) :=
 ydl x4 x9
def yfl (x10:((List (List Int))×Int)) (x13:(List (List Int))):Option (((List (List Int))×Int) ⊕ (List (List Int))) :=
 some (.inl (x13,(w64 (x10.2+1))))
def ygl (x15:((List (List Int))×Int)) (x18:(List (List Int))):Option (((List (List Int))×Int) ⊕ (List (List Int))) :=
 some (.inl (x18,(w64 (x15.2+1))))
def ycf (a2:Int) (x10:((List (List Int))×Int)) (v19:Int) (v20:(List Int)) (x21:((List (List Int))×Int)):Option (((List (List Int))×Int) ⊕ (List (List Int))) :=
 if(decide (x21.2<(v20.length:Int)))=true then
  (idxO v20 x21.2).bind fun v24 =>
  (idxO x21.1 x10.2).bind fun v25 =>
  (idxO v25 x21.2).bind fun v26 =>
  some (.inl ((x21.1.set (Int.toNat x10.2) (v25.set (Int.toNat x21.2) (if a2<(w64 (v26+(w64 (v19*v24)))) then a2 else(w64 (v26+(w64 (v19*v24))))))),(w64 (x21.2+1))))
 else
  some (.inr x21.1)
def ydf (a0:(List (List Int))) (a2:Int) (x10:((List (List Int))×Int)) (v14:(List Int)) (x15:((List (List Int))×Int)):Option (((List (List Int))×Int) ⊕ (List (List Int))) :=
 if(decide (x15.2<(v14.length:Int)))=true then
  (idxO v14 x15.2).bind fun v19 =>
  (idxO a0 x15.2).bind fun v20 =>
  (loopO (ycf a2 x10 v19 v20) (x15.1,0)).bind fun y22=>ygl x15 y22
 else
  some (.inr x15.1)
def yef (a0:(List (List Int))) (a2:Int) (x4:((List (List Int))×Int)) (x10:((List (List Int))×Int)):Option (((List (List Int))×Int) ⊕ (List (List Int))) :=
 if(decide (x10.2<(x4.1.length:Int)))=true then
  (idxO x4.1 x10.2).bind fun v14 =>
  (loopO (ydf a0 a2 x10 v14) (x10.1,0)).bind fun y16=>yfl x10 y16
 else
  some (.inr x10.1)
def yff (a0:(List (List Int))) (a1:Int) (a2:Int) (x4:((List (List Int))×Int)):Option (((List (List Int))×Int) ⊕ (List (List Int))) :=
 if(decide (x4.2<a1))=true then
  (ylg (a0.length:Int)).bind fun v8 =>
  (loopO (yef a0 a2 x4) (v8,0)).bind fun y11=>yel x4 y11
 else
  some (.inr x4.1)
def yhl (a0:(List (List Int))) (a1:Int) (a2:Int) (x2:(List (List Int))):Option (List (List Int)) :=
 (loopO (yff a0 a1 a2) (x2,0)).bind fun y5=>ywp y5
def yai (v1:(List (List Int))) (x27:((List (List Int))×Int)):Option (((List (List Int))×Int) ⊕ (List (List Int))) :=
 if(decide (x27.2<(v1.length:Int)))=true then
  (idxO x27.1 x27.2).bind fun v30 =>
  (idxO v30 x27.2).bind fun v31 =>
  some (.inl ((x27.1.set (Int.toNat x27.2) (v30.set (Int.toNat x27.2) 1)),(w64 (x27.2+1))))
 else
  some (.inr x27.1)
def yym (a0:(List (List Int))) (a1:Int) (a2:Int):Option (List (List Int)) :=
 (ylg (a0.length:Int)).bind fun v1 =>
 (loopO (yai v1) (v1,0)).bind fun y28=>yhl a0 a1 a2 y28
def yzq (a0:(List (List Int))) (a1:Int):Option (List (List Int)) :=
 (yym a0 a1 1000000001).bind fun v1 =>
 some v1
def yak  (x3:Int):Option (Int×Bool) :=
 if(decide (x3>1000000000))=true then
  some (0,false)
 else
  some (x3,true)
def ybk (x6:Qr) (x9:Int):Option (Qr ⊕ Int) :=
 some (.inl (x9,(w64 (x6.2+1))))
def yje (v10:(List Int)) (x11:Qr):Option (Qr ⊕ Int) :=
 if(decide (x11.2<(v10.length:Int)))=true then
  (idxO v10 x11.2).bind fun v14 =>
  some (.inl ((w64 (x11.1+v14)),(w64 (x11.2+1))))
 else
  some (.inr x11.1)
def yke (v5:(List (List Int))) (x6:Qr):Option (Qr ⊕ Int) :=
 if(decide (x6.2<(v5.length:Int)))=true then
  (idxO v5 x6.2).bind fun v10 =>
  (loopO (yje v10) (x6.1,0)).bind fun y12=>ybk x6 y12
 else
  some (.inr x6.1)
def yki (a0:(List (List Int))) (a1:Int):Option (Int×Bool) :=
 (ycm a0 a1).bind fun v1 =>
 if(!v1)=true then
  some (0,false)
 else
  (yzq a0 a1).bind fun v5 =>
  (loopO (yke v5) (0,0)).bind fun y7=>yak y7
def yne1 (a0:Int) (a1:Int):Option Qr :=
 some ((IntKind.wrap .u64 ((IntKind.wrap .u64 ((IntKind.wrap .u64 ((ishr .u64 a0 32)*(ishr .u64 a1 32)))+(ishr .u64 (IntKind.wrap .u64 ((IntKind.wrap .u64 ((ishr .u64 a0 32)*(iand .u64 a1 4294967295)))+(ishr .u64 (IntKind.wrap .u64 ((iand .u64 a0 4294967295)*(iand .u64 a1 4294967295))) 32))) 32)))+(ishr .u64 (IntKind.wrap .u64 ((iand .u64 (IntKind.wrap .u64 ((IntKind.wrap .u64 ((ishr .u64 a0 32)*(iand .u64 a1 4294967295)))+(ishr .u64 (IntKind.wrap .u64 ((iand .u64 a0 4294967295)*(iand .u64 a1 4294967295))) 32))) 4294967295)+(IntKind.wrap .u64 ((iand .u64 a0 4294967295)*(ishr .u64 a1 32))))) 32))),(IntKind.wrap .u64 (a0*a1)))
def you1 (a0:Int) (a1:Int):Option Qr :=
 (yne1 a0 a1).bind fun v2 =>
 some v2
def yck (a0:Int) (a1:Int) (x5:Int):Option (Qr×Bool) :=
 (guardO (x5≠0)).bind fun u6 =>
 (ybm ((w64 (Int.tdiv a0 x5)),(w64 (Int.tdiv a1 x5)))).bind fun v7 =>
 if(!v7)=true then
  some ((0,0),false)
 else
  some (((w64 (Int.tdiv a0 x5)),(w64 (Int.tdiv a1 x5))),true)
def ybc (a0:Int) (a1:Int):Option (Qr×Bool) :=
 if(a1==0)=true then
  some ((0,0),false)
 else
  (yvq a0).bind fun v2 =>
  (yvq a1).bind fun v3 =>
  (yam v2 v3).bind fun v4 =>
  if(decide (a1<0))=true then
   yck a0 a1 (w64 (0-v4))
  else
   yck a0 a1 v4
def ydm (a0:Int):Option Int :=
 if(decide (a0>0))=true then
  some 1
 else
  if(decide (a0<0))=true then
   some (-1)
  else
   some 0
def ygc (a0:Qr) (a1:Qr):Option Int :=
 (ydm (w64 ((w64 (a0.1*a1.2))-(w64 (a1.1*a0.2))))).bind fun v1 =>
 some v1
def ykb (a0:Int):Option Qr :=
 some (a0,1)
def yvg (a0:Qr):Option Bool :=
 (ybm a0).bind fun v1 =>
 (if v1=true then
   (yxj a0.1 0 a0.2).bind fun v2 =>
   some v2
  else
   some false).bind fun w3 =>
 some w3
def ygo (a0:Qr):Option Bool :=
 (yvg a0).bind fun v1 =>
 some (v1&&(decide (a0.2<=100)))
def yos  (x1:Int):Option Int :=
 some x1
def ytk (a0:(List Qp)) (a1:Qr) (x2:Int):Option (Int ⊕ Int) :=
 (if(decide ((w64 (x2+2))<(a0.length:Int)))=true then
   (idxO a0 (w64 (x2+1))).bind fun v4 =>
   (ygc v4.1 a1).bind fun v5 =>
   some (decide (v5<0))
  else
   some false).bind fun w6 =>
 if w6=true then
  some (.inl (w64 (x2+1)))
 else
  some (.inr x2)
def yar (a0:(List Qp)) (a1:Qr):Option Int :=
 (loopO (ytk a0 a1) 0).bind fun y3=>yos y3
def yip (a0:Qr) (a1:Qr):Option (Qr×Bool) :=
 (ybc (w64 ((w64 (a0.1*a1.2))-(w64 (a1.1*a0.2)))) (w64 (a0.2*a1.2))).bind fun v1 =>
 some v1
def yys (a0:Qr) (a1:Qr):Option (Qr×Bool) :=
 if(a1.1==0)=true then
  some ((0,0),false)
 else
  (ybc (w64 (a0.1*a1.2)) (w64 (a0.2*a1.1))).bind fun v2 =>
  some v2
def yrh (a0:Qp) (a1:Qp):Option Qr :=
 (yip a1.2 a0.2).bind fun v1 =>
 (yip a1.1 a0.1).bind fun v2 =>
 (yys v1.1 v2.1).bind fun v3 =>
 some v3.1
def ybr (a0:Qr) (a1:Qr):Option (Qr×Bool) :=
 (ybc (w64 (a0.1*a1.1)) (w64 (a0.2*a1.2))).bind fun v1 =>
 some v1
def yzs (a0:Qr) (a1:Qr):Option (Qr×Bool) :=
 (ybc (w64 ((w64 (a0.1*a1.2))+(w64 (a1.1*a0.2)))) (w64 (a0.2*a1.2))).bind fun v1 =>
 some v1
def ywb1 (a0:Qp) (a1:Qp) (a2:Qr):Option (Qr×Bool) :=
 (yip a2 a0.1).bind fun v1 =>
 (yrh a0 a1).bind fun v2 =>
 (ybr v1.1 v2).bind fun v3 =>
 if((!v1.2)||(!v3.2))=true then
  some ((0,0),false)
 else
  (yzs a0.2 v3.1).bind fun v5 =>
  some v5
def ysi (a0:(List Qp)) (a1:Qr):Option (Qr×Bool) :=
 (yar a0 a1).bind fun v1 =>
 (idxO a0 v1).bind fun v2 =>
 (idxO a0 (w64 (v1+1))).bind fun v3 =>
 (ywb1 v2 v3 a1).bind fun v4 =>
 some v4
def yil :Option Qr :=
 some (0,1)
def yem :Option Qr :=
 some (1,1)
def ycb  (x1:Unit):Option Int :=
 some (-1)
def yia (a0:(List Qp)) (a1:Qp->Option Bool) (x2:Int):Option (Int ⊕ (Int ⊕ Unit)) :=
 if(decide (x2<(a0.length:Int)))=true then
  (idxO a0 x2).bind fun v5 =>
  (a1 v5).bind fun v6 =>
  if v6=true then
   some (.inr (.inl x2))
  else
   some (.inl (w64 (x2+1)))
 else
  some (.inr (.inr ()))
def yha (a0:(List Qp)) (a1:(Qp->Option Bool)):Option Int :=
 (loopO (yia a0 a1) 0).bind fun y3=>(Sum.elim (fun p=>some p) (fun p=>ycb p)) y3
def ydb (a0:(List Qp)) (a1:(Qp->Option Bool)):Option Bool :=
 (yha a0 a1).bind fun v1 =>
 some (decide (v1>=0))
def yfm (a0:Qr):Option Bool :=
 (yxq a0).bind fun v1 =>
 some (v1&&((decide (a0.1>=0))&&(decide (a0.1<=a0.2))))
def yho (a0:Qr):Option Bool :=
 (yfm a0).bind fun v1 =>
 some (v1&&(decide (a0.2<=100)))
def ywf (a0:Bool) (a1:Qr) (a2:Bool):Option (Qr×Bool) :=
 if(!a2)=true then
  (yil).bind fun v2 =>
  some (v2,true)
 else
  some (a1,a0)
def ylh (a0:Bool) (a1:Qr) (a2:Qr):Option (Qr×Bool) :=
 (yzh a1 a2).bind fun v1 =>
 (ywf a0 v1.1 v1.2).bind fun v2 =>
 some v2
def yzm (a0:Qp) (c0:Qr):Option Bool :=
 (yvf a0.1 c0).bind fun v1 =>
 some (!v1)
def ycr (a0:(List Qp)) (a1:Qr):Option Int :=
 (yha a0 (fun x0=>yzm x0 a1)).bind fun v1 =>
 some (if(w64 (v1-1))<0 then 0 else(w64 (v1-1)))
def yuk (a0:Qr) (a1:Qr):Option (Qr×Bool) :=
 (yol ([a0,a1])).bind fun v1 =>
 if((!v1)||(a1.1==0))=true then
  some ((0,0),false)
 else
  (ydo (w64 (a0.1*a1.2)) (w64 (a0.2*a1.1))).bind fun v3 =>
  some v3
def ygm (a0:Bool) (a1:Qr) (a2:Qr):Option (Qr×Bool) :=
 (yuk a1 a2).bind fun v1 =>
 (ywf a0 v1.1 v1.2).bind fun v2 =>
 some v2
def ymg (a0:Bool) (a1:Qp) (a2:Qp):Option (Qr×Bool) :=
 (ylh a0 a2.2 a1.2).bind fun v1 =>
 (ylh v1.2 a2.1 a1.1).bind fun v2 =>
 (ygm v2.2 v1.1 v2.1).bind fun v3 =>
 some v3
def ybi (a0:Qr) (a1:Qr):Option (Qr×Bool) :=
 (yol ([a0,a1])).bind fun v1 =>
 if(!v1)=true then
  some ((0,0),false)
 else
  (ydo (w64 (a0.1*a1.1)) (w64 (a0.2*a1.2))).bind fun v3 =>
  some v3
def yjp (a0:Bool) (a1:Qr) (a2:Qr):Option (Qr×Bool) :=
 (ybi a1 a2).bind fun v1 =>
 (ywf a0 v1.1 v1.2).bind fun v2 =>
 some v2
def yhm (a0:Bool) (a1:Qr) (a2:Qr):Option (Qr×Bool) :=
 (ypl a1 a2).bind fun v1 =>
 (ywf a0 v1.1 v1.2).bind fun v2 =>
 some v2
def yan (a0:Bool) (a1:Qp) (a2:Qr) (a3:Qr):Option (Qr×Bool) :=
 (ylh a0 a3 a1.1).bind fun v1 =>
 (yjp v1.2 a2 v1.1).bind fun v2 =>
 (yhm v2.2 a1.2 v2.1).bind fun v3 =>
 some v3
def ytc (a0:Bool) (a1:(List Qp)) (a2:Qr):Option (Qr×Bool) :=
 (ycr a1 a2).bind fun v1 =>
 (idxO a1 v1).bind fun v2 =>
 (idxO a1 (w64 (v1+1))).bind fun v3 =>
 (ymg a0 v2 v3).bind fun v4 =>
 (yan v4.2 v2 v4.1 a2).bind fun v5 =>
 some v5
def ybn1 (a0:Qp) (a1:Qp) (a2:Qr):Option (Qr×Bool) :=
 (yip a2 a0.2).bind fun v1 =>
 if(!v1.2)=true then
  some ((0,0),false)
 else
  (yrh a0 a1).bind fun v3 =>
  (yys v1.1 v3).bind fun v4 =>
  if(!v4.2)=true then
   some ((0,0),false)
  else
   (yzs a0.1 v4.1).bind fun v6 =>
   some v6
def ypg1 (a0:Bool) (a1:Qp) (a2:Qp) (a3:Qr):Option (Qr×Bool) :=
 (ylh a0 a3 a1.2).bind fun v1 =>
 (ymg v1.2 a1 a2).bind fun v2 =>
 (ygm v2.2 v1.1 v2.1).bind fun v3 =>
 (yhm v3.2 a1.1 v3.1).bind fun v4 =>
 some v4
def ycq (a0:(List Qp)) (x3:Unit):Option Bool :=
 (idxO a0 0).bind fun v4 =>
 (ykb 0).bind fun v5 =>
 (ygc v4.1 v5).bind fun v6 =>
 (if(v6==0)=true then
   (idxO a0 (w64 ((a0.length:Int)-1))).bind fun v7 =>
   (ykb 1).bind fun v8 =>
   (ygc v7.1 v8).bind fun v9 =>
   some (v9==0)
  else
   some false).bind fun w10 =>
 some w10
def ybn (a0:(List Qp)) (x11:Int):Option (Int ⊕ (Bool ⊕ Unit)) :=
 if(decide (x11<(a0.length:Int)))=true then
  (idxO a0 x11).bind fun v14 =>
  (ygo v14.1).bind fun v15 =>
  (if(!v15)=true then
    some true
   else
    (ygo v14.2).bind fun v16 =>
    if(!v16)=true then
     some true
    else
     if(decide (x11>0))=true then
      (idxO a0 (w64 (x11-1))).bind fun v17 =>
      (ygc v17.1 v14.1).bind fun v18 =>
      some (decide (v18>=0))
     else
      some false).bind fun w19 =>
  if w19=true then
   some (.inr (.inl false))
  else
   some (.inl (w64 (x11+1)))
 else
  some (.inr (.inr ()))
def yle (a0:(List Qp)):Option Bool :=
 (yxj (a0.length:Int) 2 12).bind fun v1 =>
 if(!v1)=true then
  some false
 else
  (loopO (ybn a0) 0).bind fun y12=>(Sum.elim (fun p=>some p) (fun p=>ycq a0 p)) y12
def ydr  (x1:(List Qr)):Option (List Qr) :=
 some x1
def yhj (a0:(List Qp)) (x2:((List Qr)×Int)):Option (((List Qr)×Int) ⊕ (List Qr)) :=
 if(decide (x2.2<(a0.length:Int)))=true then
  (idxO a0 (w64 (x2.2-1))).bind fun v5 =>
  (idxO a0 x2.2).bind fun v6 =>
  (yrh v5 v6).bind fun v7 =>
  (guardO (x2.1.length+([v7]).length<=1099511627776)).bind fun u8 =>
  some (.inl ((x2.1++[v7]),(w64 (x2.2+1))))
 else
  some (.inr x2.1)
def ykp (a0:(List Qp)):Option (List Qr) :=
 (loopO (yhj a0) ([],1)).bind fun y3=>ydr y3
def ypt  (x1:(List (List Int))):Option (List (List Int)) :=
 some x1
def ydk (v2:(List Qr)) (x3:((List (List Int))×Int)):Option (((List (List Int))×Int) ⊕ (List (List Int))) :=
 if(decide (x3.2<(v2.length:Int)))=true then
  (idxO v2 x3.2).bind fun v6 =>
  (ydm v6.1).bind fun v7 =>
  (if(decide ((x3.1.length:Int)>0))=true then
    (idxO x3.1 (w64 ((x3.1.length:Int)-1))).bind fun v8 =>
    (idxO v8 2).bind fun v9 =>
    some (v9==v7)
   else
    some false).bind fun w10 =>
  if w10=true then
   (idxO x3.1 (w64 ((x3.1.length:Int)-1))).bind fun v12 =>
   (idxO v12 1).bind fun v13 =>
   some (.inl ((x3.1.set (Int.toNat (w64 ((x3.1.length:Int)-1))) (v12.set (Int.toNat 1) (w64 (x3.2+1)))),(w64 (x3.2+1))))
  else
   (guardO (x3.1.length+([[x3.2,(w64 (x3.2+1)),v7]]).length<=1099511627776)).bind fun u14 =>
   some (.inl ((x3.1++[[x3.2,(w64 (x3.2+1)),v7]]),(w64 (x3.2+1))))
 else
  some (.inr x3.1)
def yat (a0:(List Qp)):Option (List (List Int)) :=
 (ykp a0).bind fun v2 =>
 (loopO (ydk v2) ([],0)).bind fun y4=>ypt y4
def yps  (x1:(List Qr)):Option (List Qr) :=
 some x1
def yng (a0:(List Qp)) (v2:(List (List Int))) (x4:((List Qr)×Int)):Option (((List Qr)×Int) ⊕ (List Qr)) :=
 if(decide (x4.2<((v2.drop (Int.toNat 1)).length:Int)))=true then
  (idxO (v2.drop (Int.toNat 1)) x4.2).bind fun v7 =>
  (idxO v7 0).bind fun v8 =>
  (idxO a0 v8).bind fun v9 =>
  (guardO (x4.1.length+([v9.1]).length<=1099511627776)).bind fun u10 =>
  some (.inl ((x4.1++[v9.1]),(w64 (x4.2+1))))
 else
  some (.inr x4.1)
def yij (a0:(List Qp)):Option (List Qr) :=
 (yat a0).bind fun v2 =>
 (guardO (0<=1/\1<=(v2.length:Int))).bind fun u3 =>
 (loopO (yng a0 v2) ([],0)).bind fun y5=>yps y5
def yio (a0:Qp):Option Bool :=
 (yho a0.1).bind fun v1 =>
 (if(!v1)=true then
   some true
  else
   (yho a0.2).bind fun v2 =>
   some (!v2)).bind fun w3 =>
 some w3
def yyw  (x1:(List Qr)):Option (List Qr) :=
 some x1
def ysh (a0:(List Qp)) (x2:((List Qr)×Int)):Option (((List Qr)×Int) ⊕ (List Qr)) :=
 if(decide (x2.2<(a0.length:Int)))=true then
  (idxO a0 x2.2).bind fun v5 =>
  (guardO (x2.1.length+([v5.1]).length<=1099511627776)).bind fun u6 =>
  some (.inl ((x2.1++[v5.1]),(w64 (x2.2+1))))
 else
  some (.inr x2.1)
def ydq (a0:(List Qp)):Option (List Qr) :=
 (loopO (ysh a0) ([],0)).bind fun y3=>yyw y3
def ycn  (x1:Unit):Option Bool :=
 some true
def yjj (a0:(List Qr)) (x2:Int):Option (Int ⊕ (Bool ⊕ Unit)) :=
 if(decide (x2<(a0.length:Int)))=true then
  (idxO a0 (w64 (x2-1))).bind fun v5 =>
  (idxO a0 x2).bind fun v6 =>
  (yvf v5 v6).bind fun v7 =>
  if(!v7)=true then
   some (.inr (.inl false))
  else
   some (.inl (w64 (x2+1)))
 else
  some (.inr (.inr ()))
def ykj (a0:(List Qr)):Option Bool :=
 (loopO (yjj a0) 1).bind fun y3=>(Sum.elim (fun p=>some p) (fun p=>ycn p)) y3
def yae (a0:(List Qp)):Option Bool :=
 (ybf (a0.length:Int) 2 12).bind fun v1 =>
 (if(!v1)=true then
   some true
  else
   (ydb a0 (fun x0=>yio x0)).bind fun v2 =>
   some v2).bind fun w3 =>
 if w3=true then
  some false
 else
  (idxO a0 0).bind fun v5 =>
  (yil).bind fun v6 =>
  (if((v5.1.1==v6.1)&&(v5.1.2==v6.2))=true then
    (idxO a0 (w64 ((a0.length:Int)-1))).bind fun v7 =>
    (yem).bind fun v8 =>
    if((v7.1.1==v8.1)&&(v7.1.2==v8.2))=true then
     (ydq a0).bind fun v9 =>
     (ykj v9).bind fun v10 =>
     some v10
    else
     some false
   else
    some false).bind fun w11 =>
  some w11
def yqt  (x1:(List Qr)):Option (List Qr) :=
 some x1
def yxf (a0:(List Qp)) (x2:(Bool×(List Qr)×Int)):Option ((Bool×(List Qr)×Int) ⊕ (List Qr)) :=
 if(decide (x2.2.2<(a0.length:Int)))=true then
  (idxO a0 (w64 (x2.2.2-1))).bind fun v5 =>
  (idxO a0 x2.2.2).bind fun v6 =>
  (ymg x2.1 v5 v6).bind fun v7 =>
  (guardO (x2.2.1.length+([v7.1]).length<=1099511627776)).bind fun u8 =>
  some (.inl (v7.2,(x2.2.1++[v7.1]),(w64 (x2.2.2+1))))
 else
  some (.inr x2.2.1)
def yim (a0:(List Qp)):Option (List Qr) :=
 (loopO (yxf a0) (false,[],1)).bind fun y3=>yqt y3
def yfb  (x1:Unit):Option Int :=
 some (-1)
def yza (a0:(List Qr)) (a1:Qr->Option Bool) (x2:Int):Option (Int ⊕ (Int ⊕ Unit)) :=
 if(decide (x2<(a0.length:Int)))=true then
  (idxO a0 x2).bind fun v5 =>
  (a1 v5).bind fun v6 =>
  if v6=true then
   some (.inr (.inl x2))
  else
   some (.inl (w64 (x2+1)))
 else
  some (.inr (.inr ()))
def yva (a0:(List Qr)) (a1:(Qr->Option Bool)):Option Int :=
 (loopO (yza a0 a1) 0).bind fun y3=>(Sum.elim (fun p=>some p) (fun p=>yfb p)) y3
def yma (a0:(List Qr)) (a1:(Qr->Option Bool)):Option Bool :=
 (yva a0 a1).bind fun v1 =>
 some (decide (v1>=0))
def yvv (a0:Qr):Option Int :=
 (yil).bind fun v1 =>
 (ygj a0 v1).bind fun v2 =>
 some v2
def yzw  (x1:(List (List Int))):Option (List (List Int)) :=
 some x1
def yjo (v2:(List Qr)) (x3:((List (List Int))×Int)):Option (((List (List Int))×Int) ⊕ (List (List Int))) :=
 if(decide (x3.2<(v2.length:Int)))=true then
  (idxO v2 x3.2).bind fun v6 =>
  (if(decide ((w64 ((x3.1.length:Int)-1))>=0))=true then
    (idxO x3.1 (w64 ((x3.1.length:Int)-1))).bind fun v7 =>
    (idxO v7 2).bind fun v8 =>
    (yvv v6).bind fun v9 =>
    some (v8==v9)
   else
    some false).bind fun w10 =>
  if w10=true then
   (idxO x3.1 (w64 ((x3.1.length:Int)-1))).bind fun v12 =>
   (idxO v12 1).bind fun v13 =>
   some (.inl ((x3.1.set (Int.toNat (w64 ((x3.1.length:Int)-1))) (v12.set (Int.toNat 1) (w64 (x3.2+1)))),(w64 (x3.2+1))))
  else
   (yvv v6).bind fun v14 =>
   (guardO (x3.1.length+([[x3.2,(w64 (x3.2+1)),v14]]).length<=1099511627776)).bind fun u15 =>
   some (.inl ((x3.1++[[x3.2,(w64 (x3.2+1)),v14]]),(w64 (x3.2+1))))
 else
  some (.inr x3.1)
def ymy (a0:(List Qp)):Option (List (List Int)) :=
 (yim a0).bind fun v2 =>
 (loopO (yjo v2) ([],0)).bind fun y4=>yzw y4
def ydv  (x1:(List Qr)):Option (List Qr) :=
 some x1
def yjm (a0:(List Qp)) (v2:(List (List Int))) (x4:((List Qr)×Int)):Option (((List Qr)×Int) ⊕ (List Qr)) :=
 if(decide (x4.2<((v2.drop (Int.toNat 1)).length:Int)))=true then
  (idxO (v2.drop (Int.toNat 1)) x4.2).bind fun v7 =>
  (idxO v7 0).bind fun v8 =>
  (idxO a0 v8).bind fun v9 =>
  (guardO (x4.1.length+([v9.1]).length<=1099511627776)).bind fun u10 =>
  some (.inl ((x4.1++[v9.1]),(w64 (x4.2+1))))
 else
  some (.inr x4.1)
def yer (a0:(List Qp)):Option (List Qr) :=
 (ymy a0).bind fun v2 =>
 (guardO (0<=1/\1<=(v2.length:Int))).bind fun u3 =>
 (loopO (yjm a0 v2) ([],0)).bind fun y5=>ydv y5
def yev  (x1:(List Qr)):Option (List Qr) :=
 some x1
def ylp (a0:(List Qp)) (a2:Int) (x2:(Int×Int×(List Qr)×Bool×Int)):Option ((Int×Int×(List Qr)×Bool×Int) ⊕ (List Qr)) :=
 if(decide (x2.2.2.2.2<a2))=true then
  (ytc x2.2.2.2.1 a0 (x2.1,x2.2.1)).bind fun v5 =>
  if v5.2=true then
   some (.inr x2.2.2.1)
  else
   (guardO (x2.2.2.1.length+([v5.1]).length<=1099511627776)).bind fun u7 =>
   some (.inl (v5.1.1,v5.1.2,(x2.2.2.1++[v5.1]),v5.2,(w64 (x2.2.2.2.2+1))))
 else
  some (.inr x2.2.2.1)
def ybt (a0:(List Qp)) (a1:Qr) (a2:Int):Option (List Qr) :=
 (loopO (ylp a0 a2) (a1.1,a1.2,[a1],false,0)).bind fun y3=>yev y3
def yme (a0:Cu) (x1:Int):Option (Int×Cu) :=
 if(decide ((w64 (a0.2.1+1))<=(a0.1.length:Int)))=true then
  some (x1,(a0.1,(w64 (a0.2.1+1)),(IntKind.wrap .u64 ((IntKind.wrap .u64 ((IntKind.wrap .u64 (a0.2.2*6364136223846793005))+(IntKind.wrap .u64 x1)))+1442695040888963407))))
 else
  some ((IntKind.wrap .i64 (iand .u64 (ishr .u64 (IntKind.wrap .u64 ((IntKind.wrap .u64 ((IntKind.wrap .u64 (a0.2.2*6364136223846793005))+(IntKind.wrap .u64 x1)))+1442695040888963407)) 40) 255)),(a0.1,(w64 (a0.2.1+1)),(IntKind.wrap .u64 ((IntKind.wrap .u64 ((IntKind.wrap .u64 (a0.2.2*6364136223846793005))+(IntKind.wrap .u64 x1)))+1442695040888963407))))
def yli (a0:Cu):Option (Int×Cu) :=
 if(decide (a0.2.1<(a0.1.length:Int)))=true then
  (idxO a0.1 a0.2.1).bind fun v4 =>
  yme a0 (IntKind.wrap .i64 v4)
 else
  yme a0 0
def yne (a1:Int) (x3:((List Int)×Int×Int×Int)):Option (Int×Cu) :=
 (guardO (a1≠0)).bind fun u4 =>
 some ((Int.tmod x3.2.2.2 a1),(x3.1,x3.2.1,x3.2.2.1))
def yla (a0:Cu) (a1:Int):Option (Int×Cu) :=
 if(decide (a1<=1))=true then
  some (0,a0)
 else
  (yli a0).bind fun v2 =>
  if(decide (a1>200))=true then
   (yli v2.2).bind fun v6 =>
   yne a1 (v6.2.1,v6.2.2.1,v6.2.2.2,(w64 ((w64 (v2.1*256))+v6.1)))
  else
   yne a1 (v2.2.1,v2.2.2.1,v2.2.2.2,v2.1)
def yoa (a0:Cu) (a1:(List Int)):Option (Int×Cu) :=
 (yla a0 (a1.length:Int)).bind fun v1 =>
 (idxO a1 v1.1).bind fun v2 =>
 some (v2,v1.2)
def ysb (a0:Cu) (a1:Int):Option (Bool×Cu) :=
 (yla a0 a1).bind fun v1 =>
 some ((v1.1==0),v1.2)
def yib (a0:Cu) (a1:Int):Option (Qr×Cu) :=
 (yla a0 (w64 (a1+1))).bind fun v1 =>
 (ybc v1.1 a1).bind fun v2 =>
 some (v2.1,v1.2)
def yzr (a0:Qr):Option Qr :=
 some ((w64 (a0.2-a0.1)),a0.2)
def ymp (a0:(List Qr)) (a1:Qr) (x1:Int):Option (List Qr) :=
 (if(decide (x1<(a0.length:Int)))=true then
   (idxO a0 x1).bind fun v2 =>
   some ((v2.1==a1.1)&&(v2.2==a1.2))
  else
   some false).bind fun w3 =>
 if w3=true then
  some a0
 else
  (guardO (0<=x1/\x1<=(a0.length:Int))).bind fun u5 =>
  (guardO ((a0.take (Int.toNat x1)).length<=1099511627776)).bind fun u6 =>
  (guardO ((a0.take (Int.toNat x1)).length+([a1]).length<=1099511627776)).bind fun u7 =>
  (guardO (((a0.take (Int.toNat x1))++[a1]).length+(a0.drop (Int.toNat x1)).length<=1099511627776)).bind fun u8 =>
  some (((a0.take (Int.toNat x1))++[a1])++(a0.drop (Int.toNat x1)))
def ynp (a0:(List Qr)) (a1:Qr) (x9:Int):Option (Int ⊕ Int) :=
 (if(decide (x9<(a0.length:Int)))=true then
   (idxO a0 x9).bind fun v11 =>
   (ygc v11 a1).bind fun v12 =>
   some (decide (v12<0))
  else
   some false).bind fun w13 =>
 if w13=true then
  some (.inl (w64 (x9+1)))
 else
  some (.inr x9)
def ydd (a0:(List Qr)) (a1:Qr):Option (List Qr) :=
 (loopO (ynp a0 a1) 0).bind fun y10=>ymp a0 a1 y10
def ysl  (x6:((List Int)×Int×Int×(List Qp))):Option ((List Qp)×Cu) :=
 some (x6.2.2.2,(x6.1,x6.2.1,x6.2.2.1))
def ytl (a1:Int) (x5:((List Int)×Int×Int×(List Qr))) (x7:((List Int)×Int×Int×(List Qp)×Int)):Option (((List Int)×Int×Int×(List Qp)×Int) ⊕ ((List Int)×Int×Int×(List Qp))) :=
 if(decide (x7.2.2.2.2<(x5.2.2.2.length:Int)))=true then
  (idxO x5.2.2.2 x7.2.2.2.2).bind fun v10 =>
  (yib (x7.1,x7.2.1,x7.2.2.1) a1).bind fun v11 =>
  (guardO (x7.2.2.2.1.length+([(v10,v11.1)]).length<=1099511627776)).bind fun u12 =>
  some (.inl (v11.2.1,v11.2.2.1,v11.2.2.2,(x7.2.2.2.1++[(v10,v11.1)]),(w64 (x7.2.2.2.2+1))))
 else
  some (.inr (x7.1,x7.2.1,x7.2.2.1,x7.2.2.2.1))
def yth (a1:Int) (x5:((List Int)×Int×Int×(List Qr))):Option ((List Qp)×Cu) :=
 (loopO (ytl a1 x5) (x5.1,x5.2.1,x5.2.2.1,[],0)).bind fun y8=>ysl y8
def yul (a1:Int) (x2:((List Int)×Int×Int×Int)) (x13:((List Int)×Int×Int×(List Qr)×Int)):Option (((List Int)×Int×Int×(List Qr)×Int) ⊕ ((List Int)×Int×Int×(List Qr))) :=
 if((decide ((x13.2.2.2.1.length:Int)<(w64 (x2.2.2.2+2))))&&(decide (x13.2.2.2.2<60)))=true then
  (yib (x13.1,x13.2.1,x13.2.2.1) a1).bind fun v16 =>
  (ydd x13.2.2.2.1 v16.1).bind fun v17 =>
  some (.inl (v16.2.1,v16.2.2.1,v16.2.2.2,v17,(w64 (x13.2.2.2.2+1))))
 else
  some (.inr (x13.1,x13.2.1,x13.2.2.1,x13.2.2.2.1))
def yod (a1:Int) (x2:((List Int)×Int×Int×Int)):Option ((List Qp)×Cu) :=
 (ykb 0).bind fun v3 =>
 (ykb 1).bind fun v4 =>
 (loopO (yul a1 x2) (x2.1,x2.2.1,x2.2.2.1,[v3,v4],0)).bind fun y14=>yth a1 y14
def yci (a0:Cu) (a1:Int):Option ((List Qp)×Cu) :=
 (yoa a0 ([0,1,1,2,3])).bind fun v1 =>
 (ysb v1.2 16).bind fun v18 =>
 if v18.1=true then
  yod a1 (v18.2.1,v18.2.2.1,v18.2.2.2,10)
 else
  yod a1 (v18.2.1,v18.2.2.1,v18.2.2.2,v1.1)
def yte  (x3:((List Int)×Int×Int×(List Qp))):Option ((List Qp)×Cu) :=
 some (x3.2.2.2,(x3.1,x3.2.1,x3.2.2.1))
def ydn (v1:(Int×Cu)) (v6:(Int×Cu)) (x7:(List Qp)):Option ((List Qp)×Cu) :=
 (ysb v6.2 2).bind fun v8 =>
 if v8.1=true then
  (yib v8.2 v1.1).bind fun v10 =>
  (idxO x7 1).bind fun v11 =>
  yte (v10.2.1,v10.2.2.1,v10.2.2.2,(x7.set (Int.toNat 1) (v11.1,v10.1)))
 else
  yte (v8.2.1,v8.2.2.1,v8.2.2.2,x7)
def yfr (v6:(Int×Cu)) (x12:((List Qp)×Int)):Option (((List Qp)×Int) ⊕ (List Qp)) :=
 if(decide (x12.2<=v6.1))=true then
  (ybc x12.2 v6.1).bind fun v15 =>
  (ykb (Int.tmod x12.2 2)).bind fun v16 =>
  (guardO (x12.1.length+([(v15.1,v16)]).length<=1099511627776)).bind fun u17 =>
  some (.inl ((x12.1++[(v15.1,v16)]),(w64 (x12.2+1))))
 else
  some (.inr x12.1)
def yop (a0:Cu):Option ((List Qp)×Cu) :=
 (yoa a0 ([1,2,2,3,4,4,6,12,100])).bind fun v1 =>
 (yci v1.2 v1.1).bind fun v2 =>
 (ysb v2.2 3).bind fun v4 =>
 if v4.1=true then
  (yoa v4.2 ([2,2,3,4])).bind fun v6 =>
  (loopO (yfr v6) ([],0)).bind fun y13=>ydn v1 v6 y13
 else
  yte (v4.2.1,v4.2.2.1,v4.2.2.2,v2.1)
def yen (a0:Cu):Option (Qr×Cu) :=
 (yla a0 41).bind fun v1 =>
 (yla v1.2 2001).bind fun v2 =>
 (yoa v2.2 ([0,1,2,3,(-1),(-5),(w64 (v1.1-20)),(w64 (v2.1-1000)),1000000000,(-1000000000)])).bind fun v3 =>
 (yla v3.2 20).bind fun v4 =>
 (yla v4.2 1000).bind fun v5 =>
 (yoa v5.2 ([1,2,3,4,8,7,(w64 (1+v4.1)),(w64 (1+v5.1)),1000000000,999999999])).bind fun v6 =>
 (ybc v3.1 v6.1).bind fun v7 =>
 if(!v7.2)=true then
  (ykb 1).bind fun v9 =>
  some (v9,v6.2)
 else
  some (v7.1,v6.2)
def yub (a0:Cu):Option (Qr×Cu) :=
 (yen a0).bind fun v1 =>
 (yla v1.2 40).bind fun v2 =>
 if(v2.1==0)=true then
  (yoa v2.2 ([0,(-1),1000000001])).bind fun v4 =>
  some ((v1.1.1,v4.1),v4.2)
 else
  if(v2.1==1)=true then
   (yoa v2.2 ([1000000001,(-1000000001),(-9223372036854775808)])).bind fun v6 =>
   some ((v6.1,v1.1.2),v6.2)
  else
   if(v2.1==2)=true then
    (yoa v2.2 ([2,0,(-4)])).bind fun v8 =>
    (yoa v8.2 ([2,4,6])).bind fun v9 =>
    some ((v8.1,v9.1),v9.2)
   else
    some (v1.1,v2.2)
def ylc  (x4:((List Int)×Int×Int×(List Qp))):Option ((List Qp)×Cu) :=
 some (x4.2.2.2,(x4.1,x4.2.1,x4.2.2.1))
def yfn (v5:(Int×Cu)) (x16:(List Qp)):Option ((List Qp) ⊕ ((List Int)×Int×Int×(List Qp))) :=
 if(decide ((x16.length:Int)<13))=true then
  (ybc (x16.length:Int) 12).bind fun v19 =>
  (ykb 0).bind fun v20 =>
  (guardO (x16.length+([(v19.1,v20)]).length<=1099511627776)).bind fun u21 =>
  some (.inl (x16++[(v19.1,v20)]))
 else
  some (.inr (v5.2.1,v5.2.2.1,v5.2.2.2,x16))
def ylj (a0:Cu):Option ((List Qp)×Cu) :=
 (yop a0).bind fun v1 =>
 (yla v1.2 (v1.1.length:Int)).bind fun v2 =>
 (idxO v1.1 v2.1).bind fun v3 =>
 (yla v2.2 36).bind fun v5 =>
 if(v5.1==0)=true then
  (yub v5.2).bind fun v7 =>
  ylc (v7.2.1,v7.2.2.1,v7.2.2.2,(v1.1.set (Int.toNat v2.1) (v7.1,v3.2)))
 else
  if(v5.1==1)=true then
   (yub v5.2).bind fun v9 =>
   ylc (v9.2.1,v9.2.2.1,v9.2.2.2,(v1.1.set (Int.toNat v2.1) (v3.1,v9.1)))
  else
   if(v5.1==2)=true then
    (yla v5.2 50).bind fun v11 =>
    (ybc v11.1 101).bind fun v12 =>
    ylc (v11.2.1,v11.2.2.1,v11.2.2.2,(v1.1.set (Int.toNat v2.1) (v3.1,v12.1)))
   else
    if(v5.1==3)=true then
     (guardO (0<=(w64 ((v1.1.length:Int)-1))/\(w64 ((v1.1.length:Int)-1))<=(v1.1.length:Int))).bind fun u14 =>
     ylc (v5.2.1,v5.2.2.1,v5.2.2.2,(v1.1.take (Int.toNat (w64 ((v1.1.length:Int)-1)))))
    else
     if(v5.1==4)=true then
      (loopO (yfn v5) ([])).bind fun y17=>ylc y17
     else
      ylc (v5.2.1,v5.2.2.1,v5.2.2.2,v1.1)
def yuc  (x6:((List Int)×Int×Int×(List Qp))):Option ((List Qp)×Cu) :=
 (ysb (x6.1,x6.2.1,x6.2.2.1) 5).bind fun v7 =>
 if v7.1=true then
  (yla v7.2 3).bind fun v9 =>
  (ybc (w64 (1+v9.1)) 4).bind fun v10 =>
  (yla v9.2 6).bind fun v11 =>
  (ybc (w64 (3+v11.1)) 8).bind fun v12 =>
  (ykb 0).bind fun v13 =>
  (ykb 0).bind fun v14 =>
  (ykb 1).bind fun v15 =>
  (ykb 0).bind fun v16 =>
  some ([(v13,v14),(v10.1,v12.1),(v15,v16)],v11.2)
 else
  some (x6.2.2.2,v7.2)
def yqi (v17:(Bool×Cu)) (x19:((List Qp)×Int)):Option (((List Qp)×Int) ⊕ ((List Int)×Int×Int×(List Qp))) :=
 if(decide (x19.2<12))=true then
  (ybc x19.2 11).bind fun v22 =>
  (ykb (Int.tmod x19.2 2)).bind fun v23 =>
  (guardO (x19.1.length+([(v22.1,v23)]).length<=1099511627776)).bind fun u24 =>
  some (.inl ((x19.1++[(v22.1,v23)]),(w64 (x19.2+1))))
 else
  some (.inr (v17.2.1,v17.2.2.1,v17.2.2.2,x19.1))
def ywe  (x5:((List Int)×Int×Int×(List Qp))):Option ((List Qp)×Cu) :=
 (ysb (x5.1,x5.2.1,x5.2.2.1) 6).bind fun v17 =>
 if v17.1=true then
  (loopO (yqi v17) ([],0)).bind fun y20=>yuc y20
 else
  yuc (v17.2.1,v17.2.2.1,v17.2.2.2,x5.2.2.2)
def ykc (x25:((List Int)×Int×Int×(List Qp)×Int)) (v28:(Qr×Bool)) (x30:((List Int)×Int×Int×Int×Int)):Option (((List Int)×Int×Int×(List Qp)×Int) ⊕ ((List Int)×Int×Int×(List Qp))) :=
 (guardO (x25.2.2.2.1.length+([(v28.1,x30.2.2.2)]).length<=1099511627776)).bind fun u31 =>
 some (.inl (x30.1,x30.2.1,x30.2.2.1,(x25.2.2.2.1++[(v28.1,x30.2.2.2)]),(w64 (x25.2.2.2.2+1))))
def yri (v4:(Int×Cu)) (x25:((List Int)×Int×Int×(List Qp)×Int)):Option (((List Int)×Int×Int×(List Qp)×Int) ⊕ ((List Int)×Int×Int×(List Qp))) :=
 if(decide (x25.2.2.2.2<=v4.1))=true then
  (ybc x25.2.2.2.2 v4.1).bind fun v28 =>
  (yib (x25.1,x25.2.1,x25.2.2.1) v4.1).bind fun v29 =>
  (if(decide ((x25.2.2.2.1.length:Int)>0))=true then
    (idxO x25.2.2.2.1 (w64 ((x25.2.2.2.1.length:Int)-1))).bind fun v32 =>
    if((v29.1.1==v32.2.1)&&(v29.1.2==v32.2.2))=true then
     (ysb v29.2 8).bind fun v33 =>
     some (v33.2.1,v33.2.2.1,v33.2.2.2,(!v33.1))
    else
     some (v29.2.1,v29.2.2.1,v29.2.2.2,false)
   else
    some (v29.2.1,v29.2.2.1,v29.2.2.2,false)).bind fun w34 =>
  if w34.2.2.2=true then
   (yzr v29.1).bind fun v36 =>
   (idxO x25.2.2.2.1 (w64 ((x25.2.2.2.1.length:Int)-1))).bind fun v37 =>
   if((v36.1==v37.2.1)&&(v36.2==v37.2.2))=true then
    (ykb (Int.tmod x25.2.2.2.2 2)).bind fun v39 =>
    ykc x25 v28 (w34.1,w34.2.1,w34.2.2.1,v39.1,v39.2)
   else
    ykc x25 v28 (w34.1,w34.2.1,w34.2.2.1,v36.1,v36.2)
  else
   ykc x25 v28 (w34.1,w34.2.1,w34.2.2.1,v29.1.1,v29.1.2)
 else
  some (.inr (x25.1,x25.2.1,x25.2.2.1,x25.2.2.2.1))
def ypd (a0:Cu):Option ((List Qp)×Cu) :=
 (ysb a0 4).bind fun v1 =>
 if v1.1=true then
  (ylj v1.2).bind fun v3 =>
  some v3
 else
  (yoa v1.2 ([2,3,4,4,6])).bind fun v4 =>
  (loopO (yri v4) (v4.2.1,v4.2.2.1,v4.2.2.2,[],0)).bind fun y26=>ywe y26
def yqg1 (a0:(List Int)) (a1:(List Int)):Option Bool :=
 some ((decide ((a0.length:Int)>1048576))||(decide ((a1.length:Int)>(w64 (1048576-(a0.length:Int))))))
def yjl  (x2:Unit):Option Bool :=
 some true
def ygf (a0:(List Qr)) (a1:(List Qr)) (x3:Int):Option (Int ⊕ (Bool ⊕ Unit)) :=
 if(decide (x3<(a0.length:Int)))=true then
  (idxO a0 x3).bind fun v6 =>
  (idxO a1 x3).bind fun v7 =>
  if(!((v6.1==v7.1)&&(v6.2==v7.2)))=true then
   some (.inr (.inl false))
  else
   some (.inl (w64 (x3+1)))
 else
  some (.inr (.inr ()))
def ygn (a0:(List Qr)) (a1:(List Qr)):Option Bool :=
 if((a0.length:Int) != (a1.length:Int))=true then
  some false
 else
  (loopO (ygf a0 a1) 0).bind fun y4=>(Sum.elim (fun p=>some p) (fun p=>yjl p)) y4
def yhn  (x2:Unit):Option Bool :=
 some true
def ywg (a0:(List Int)) (a1:(List Int)) (x3:Int):Option (Int ⊕ (Bool ⊕ Unit)) :=
 if(decide (x3<(a0.length:Int)))=true then
  (idxO a0 x3).bind fun v6 =>
  (idxO a1 x3).bind fun v7 =>
  if(v6 != v7)=true then
   some (.inr (.inl false))
  else
   some (.inl (w64 (x3+1)))
 else
  some (.inr (.inr ()))
def ymj (a0:(List Int)) (a1:(List Int)):Option Bool :=
 if((a0.length:Int) != (a1.length:Int))=true then
  some false
 else
  (loopO (ywg a0 a1) 0).bind fun y4=>(Sum.elim (fun p=>some p) (fun p=>yhn p)) y4
def ykl  (x2:Unit):Option Bool :=
 some true
def yhf (a0:(List (List Int))) (a1:(List (List Int))) (x3:Int):Option (Int ⊕ (Bool ⊕ Unit)) :=
 if(decide (x3<(a0.length:Int)))=true then
  (idxO a0 x3).bind fun v6 =>
  (idxO a1 x3).bind fun v7 =>
  (ymj v6 v7).bind fun v8 =>
  if(!v8)=true then
   some (.inr (.inl false))
  else
   some (.inl (w64 (x3+1)))
 else
  some (.inr (.inr ()))
def yuh (a0:(List (List Int))) (a1:(List (List Int))):Option Bool :=
 if((a0.length:Int) != (a1.length:Int))=true then
  some false
 else
  (loopO (yhf a0 a1) 0).bind fun y4=>(Sum.elim (fun p=>some p) (fun p=>ykl p)) y4
def yue (a0:Cu):Option (Int×Cu) :=
 (yoa a0 ([13,(-1)])).bind fun v1 =>
 (yoa v1.2 ([0,1,2,3,5,8,12,v1.1])).bind fun v2 =>
 some v2
def yoe1 (v5:(List (List Int))) (x6:Unit):Option ((List (List Int))×Bool) :=
 some (v5,true)
def yvk (v5:(List (List Int))) (x7:Int):Option (Int ⊕ (((List (List Int))×Bool) ⊕ Unit)) :=
 if(decide (x7<(v5.length:Int)))=true then
  (idxO v5 x7).bind fun v10 =>
  (yly v10 0 1000000000).bind fun v11 =>
  if(!v11)=true then
   some (.inr (.inl ([],false)))
  else
   some (.inl (w64 (x7+1)))
 else
  some (.inr (.inr ()))
def yed1 (a0:(List (List Int))) (a1:Int):Option ((List (List Int))×Bool) :=
 (yia1 a0).bind fun v1 =>
 (if(!v1)=true then
   some true
  else
   (yrl a1).bind fun v2 =>
   some (!v2)).bind fun w3 =>
 if w3=true then
  some ([],false)
 else
  (yeo a0 a1).bind fun v5 =>
  (loopO (yvk v5) 0).bind fun y8=>(Sum.elim (fun p=>some p) (fun p=>yoe1 v5 p)) y8
def ynj  (x3:Int):Option Int :=
 some x3
def ywd (a0:(List Int)) (x4:Qr):Option (Qr ⊕ Int) :=
 if(decide (x4.2<(a0.length:Int)))=true then
  (idxO a0 x4.2).bind fun v7 =>
  some (.inl ((if x4.1<v7 then v7 else x4.1),(w64 (x4.2+1))))
 else
  some (.inr x4.1)
def yyf (a0:(List Int)) (x1:Unit):Option Int :=
 (idxO a0 0).bind fun v2 =>
 (loopO (ywd a0) (v2,1)).bind fun y5=>ynj y5
def yzf (a0:(List Int)):Option Int :=
 if(decide ((a0.length:Int)<1))=true then
  none
 else
  yyf a0 ()
def yvh (a0:(List Int)):Option Bool :=
 (yzf a0).bind fun v1 =>
 some (decide (v1>1000000000))
def ywh (a0:(List (List Int))) (a1:Int):Option ((List (List Int))×Bool) :=
 (ycm a0 a1).bind fun v1 =>
 if(!v1)=true then
  some ([],false)
 else
  (yzq a0 a1).bind fun v3 =>
  (ybb v3 (fun x0=>yvh x0)).bind fun v4 =>
  if v4=true then
   some ([],false)
  else
   some (v3,true)
def ywv (a0:Qr) (a1:Qr):Option Qr :=
 (yvf a1 a0).bind fun v1 =>
 if v1=true then
  some a1
 else
  some a0
def yrt (a0:Qr) (a1:Qr):Option Qr :=
 (yvf a0 a1).bind fun v1 =>
 if v1=true then
  some a1
 else
  some a0
def ycn1 (a0:Qp):Option Bool :=
 (yvg a0.1).bind fun v1 =>
 (if v1=true then
   (yvg a0.2).bind fun v2 =>
   if v2=true then
    (ygc a0.1 a0.2).bind fun v3 =>
    some (decide (v3<0))
   else
    some false
  else
   some false).bind fun w4 =>
 some w4
def yrg1 (a0:(List Qp)) (x1:Unit):Option Bool :=
 (yxj (a0.length:Int) 1 8).bind fun v2 =>
 some v2
def ysg1 (a0:(List Qp)) (x3:Int):Option (Int ⊕ (Bool ⊕ Unit)) :=
 if(decide (x3<(a0.length:Int)))=true then
  (idxO a0 x3).bind fun v6 =>
  (ycn1 v6).bind fun v7 =>
  if(!v7)=true then
   some (.inr (.inl false))
  else
   some (.inl (w64 (x3+1)))
 else
  some (.inr (.inr ()))
def ydn1 (a0:(List Qp)):Option Bool :=
 (loopO (ysg1 a0) 0).bind fun y4=>(Sum.elim (fun p=>some p) (fun p=>yrg1 a0 p)) y4
def yst (a0:(List Qp)) (a1:(List Qp)):Option Bool :=
 (yle a0).bind fun v1 =>
 (if v1=true then
   (ydn1 a1).bind fun v2 =>
   some v2
  else
   some false).bind fun w3 =>
 some w3
def ype1  (x5:(Int×Int×Int×Int)):Option (Qr×Qr×Bool) :=
 some ((x5.1,x5.2.1),x5.2.2,true)
def ylw (x6:(Int×Int×Int×Int×Int)) (v9:Qr) (x10:Qr):Option ((Int×Int×Int×Int×Int) ⊕ (Int×Int×Int×Int)) :=
 (ygc (x6.2.2.1,x6.2.2.2.1) v9).bind fun v11 =>
 if(decide (v11<0))=true then
  some (.inl (x10.1,x10.2,v9.1,v9.2,(w64 (x6.2.2.2.2+1))))
 else
  some (.inl (x10.1,x10.2,x6.2.2.1,x6.2.2.2.1,(w64 (x6.2.2.2.2+1))))
def yqe1 (x4:(List Qr)) (x6:(Int×Int×Int×Int×Int)):Option ((Int×Int×Int×Int×Int) ⊕ (Int×Int×Int×Int)) :=
 if(decide (x6.2.2.2.2<(x4.length:Int)))=true then
  (idxO x4 x6.2.2.2.2).bind fun v9 =>
  (ygc v9 (x6.1,x6.2.1)).bind fun v13 =>
  if(decide (v13<0))=true then
   ylw x6 v9 v9
  else
   ylw x6 v9 (x6.1,x6.2.1)
 else
  some (.inr (x6.1,x6.2.1,x6.2.2.1,x6.2.2.2.1))
def yre1 (v1:(Qr×Bool)) (x4:(List Qr)):Option (Qr×Qr×Bool) :=
 (loopO (yqe1 x4) (v1.1.1,v1.1.2,v1.1.1,v1.1.2,0)).bind fun y7=>ype1 y7
def yse1 (a0:(List Qp)) (a1:Qr) (a2:Qr) (x15:((List Qr)×Int)):Option (((List Qr)×Int) ⊕ (List Qr)) :=
 if(decide (x15.2<(a0.length:Int)))=true then
  (idxO a0 x15.2).bind fun v18 =>
  (ygc a1 v18.1).bind fun v19 =>
  (if(decide (v19<0))=true then
    (ygc v18.1 a2).bind fun v20 =>
    some (decide (v20<0))
   else
    some false).bind fun w21 =>
  if w21=true then
   (guardO (x15.1.length+([v18.2]).length<=1099511627776)).bind fun u23 =>
   some (.inl ((x15.1++[v18.2]),(w64 (x15.2+1))))
  else
   some (.inl (x15.1,(w64 (x15.2+1))))
 else
  some (.inr x15.1)
def yyk1 (a0:(List Qp)) (a1:Qr) (a2:Qr):Option (Qr×Qr×Bool) :=
 (ysi a0 a1).bind fun v1 =>
 (ysi a0 a2).bind fun v2 =>
 if((!v1.2)||(!v2.2))=true then
  some ((0,0),(0,0),false)
 else
  (loopO (yse1 a0 a1 a2) ([v2.1],0)).bind fun y16=>yre1 v1 y16
def yra1 (a0:(List Qp)) (a1:Qp) (a2:Qp):Option (Bool×Bool) :=
 (yyk1 a0 a1.1 a1.2).bind fun v1 =>
 if(!v1.2.2)=true then
  some (false,false)
 else
  (ygc v1.1 a2.1).bind fun v3 =>
  (if(decide (v3<=0))=true then
    (ygc a2.2 v1.2.1).bind fun v4 =>
    some (decide (v4<=0))
   else
    some false).bind fun w5 =>
  some (w5,true)
def yif (a0:Qr) (a1:Qr) (a2:Qr):Option Qp :=
 (ywv a1 a0).bind fun v1 =>
 (yrt a2 a0).bind fun v2 =>
 some (v1,v2)
def yko (v2:(Qr×Bool)) (x4:(Int×Int×Int×Int)):Option (Qr×Qr×Bool) :=
 some ((x4.1,x4.2.1),x4.2.2,v2.2)
def yoe (a1:(List Qp)) (a2:Qr) (a3:Qr) (x5:(Int×Int×Int×Int×Int)):Option ((Int×Int×Int×Int×Int) ⊕ (Int×Int×Int×Int)) :=
 if(decide (x5.2.2.2.2<(a1.length:Int)))=true then
  (idxO a1 x5.2.2.2.2).bind fun v8 =>
  (yvf a2 v8.1).bind fun v9 =>
  (if v9=true then
    (yvf v8.1 a3).bind fun v10 =>
    some v10
   else
    some false).bind fun w11 =>
  if w11=true then
   (yif v8.2 (x5.1,x5.2.1) (x5.2.2.1,x5.2.2.2.1)).bind fun v13 =>
   some (.inl (v13.1.1,v13.1.2,v13.2.1,v13.2.2,(w64 (x5.2.2.2.2+1))))
  else
   some (.inl (x5.1,x5.2.1,x5.2.2.1,x5.2.2.2.1,(w64 (x5.2.2.2.2+1))))
 else
  some (.inr (x5.1,x5.2.1,x5.2.2.1,x5.2.2.2.1))
def ywk (a0:Bool) (a1:(List Qp)) (a2:Qr) (a3:Qr):Option (Qr×Qr×Bool) :=
 (ytc a0 a1 a2).bind fun v1 =>
 (ytc v1.2 a1 a3).bind fun v2 =>
 (yif v2.1 v1.1 v1.1).bind fun v3 =>
 (loopO (yoe a1 a2 a3) (v3.1.1,v3.1.2,v3.2.1,v3.2.2,0)).bind fun y6=>yko v2 y6
def yxg (a0:Bool) (a1:(List Qp)) (a2:Qp) (a3:Qp):Option (Bool×Bool) :=
 (ywk a0 a1 a2.1 a2.2).bind fun v1 =>
 (yvf a3.1 v1.1).bind fun v2 =>
 (if(!v2)=true then
   (yvf v1.2.1 a3.2).bind fun v3 =>
   some (!v3)
  else
   some false).bind fun w4 =>
 some (w4,v1.2.2)
def yqb  (x1:Unit):Option Int :=
 some (-1)
def yqa (a0:(List Qp)) (a1:Qp->Option Bool) (x2:Int):Option (Int ⊕ (Int ⊕ Unit)) :=
 if(decide (x2<(a0.length:Int)))=true then
  (idxO a0 x2).bind fun v5 =>
  (a1 v5).bind fun v6 =>
  if v6=true then
   some (.inr (.inl x2))
  else
   some (.inl (w64 (x2+1)))
 else
  some (.inr (.inr ()))
def yya (a0:(List Qp)) (a1:(Qp->Option Bool)):Option Int :=
 (loopO (yqa a0 a1) 0).bind fun y3=>(Sum.elim (fun p=>some p) (fun p=>yqb p)) y3
def yra (a0:(List Qp)) (a1:(Qp->Option Bool)):Option Bool :=
 (yya a0 a1).bind fun v1 =>
 some (decide (v1>=0))
def yog (a0:Qr):Option Bool :=
 (yfm a0).bind fun v1 =>
 some (!v1)
def yoj (a0:(List Qr)):Option Bool :=
 (yma a0 (fun x0=>yog x0)).bind fun v1 =>
 some (!v1)
def yxk (a0:Qp):Option Bool :=
 (yoj ([a0.1,a0.2])).bind fun v1 =>
 (if v1=true then
   (yvf a0.1 a0.2).bind fun v2 =>
   some v2
  else
   some false).bind fun w3 =>
 some w3
def yag (a0:Qp):Option Bool :=
 (yxk a0).bind fun v1 =>
 some (!v1)
def yjf (a0:(List Qp)):Option Bool :=
 (ybf (a0.length:Int) 1 8).bind fun v1 =>
 (if v1=true then
   (yra a0 (fun x0=>yag x0)).bind fun v2 =>
   some (!v2)
  else
   some false).bind fun w3 =>
 some w3
def yek  (x6:(Bool×(List (List Int)))):Option ((List (List Int))×Bool) :=
 if x6.1=true then
  some ([],false)
 else
  some (x6.2,true)
def yfk (x8:(Bool×(List (List Int))×Int)) (x11:(Bool×(List (List Int)))):Option ((Bool×(List (List Int))×Int) ⊕ (Bool×(List (List Int)))) :=
 some (.inl (x11.1,x11.2,(w64 (x8.2.2+1))))
def yvb (a0:(List Qp)) (a1:(List Qp)) (x8:(Bool×(List (List Int))×Int)) (v12:Qp) (x13:(Bool×(List (List Int))×Int)):Option ((Bool×(List (List Int))×Int) ⊕ (Bool×(List (List Int)))) :=
 if(decide (x13.2.2<(a1.length:Int)))=true then
  (idxO a1 x13.2.2).bind fun v16 =>
  (yxg x13.1 a0 v12 v16).bind fun v17 =>
  if v17.1=true then
   (idxO x13.2.1 x8.2.2).bind fun v19 =>
   (idxO v19 x13.2.2).bind fun v20 =>
   some (.inl (v17.2,(x13.2.1.set (Int.toNat x8.2.2) (v19.set (Int.toNat x13.2.2) 1)),(w64 (x13.2.2+1))))
  else
   some (.inl (v17.2,x13.2.1,(w64 (x13.2.2+1))))
 else
  some (.inr (x13.1,x13.2.1))
def ype (a0:(List Qp)) (a1:(List Qp)) (x8:(Bool×(List (List Int))×Int)):Option ((Bool×(List (List Int))×Int) ⊕ (Bool×(List (List Int)))) :=
 if(decide (x8.2.2<(a1.length:Int)))=true then
  (idxO a1 x8.2.2).bind fun v12 =>
  (loopO (yvb a0 a1 x8 v12) (x8.1,x8.2.1,0)).bind fun y14=>yfk x8 y14
 else
  some (.inr (x8.1,x8.2.1))
def yyk (a0:(List Qp)) (a1:(List Qp)):Option ((List (List Int))×Bool) :=
 (yae a0).bind fun v1 =>
 (if(!v1)=true then
   some true
  else
   (yjf a1).bind fun v2 =>
   some (!v2)).bind fun w3 =>
 if w3=true then
  some ([],false)
 else
  (ylg (a1.length:Int)).bind fun v5 =>
  (loopO (ype a0 a1) (false,v5,0)).bind fun y9=>yek y9
def yny (a0:Qr) (a1:Qr):Option Bool :=
 (ybm a0).bind fun v1 =>
 (if v1=true then
   (ybm a1).bind fun v2 =>
   some v2
  else
   some false).bind fun w3 =>
 some w3
def ymc (a0:List Qr):Option (List Qr) :=
 (guardO (a0.length<=1048576/\∀ x∈a0,okR x=true)).bind fun u1 =>
 some (sortR a0)
def yoc (a0:List Qr):Option (List Qr) :=
 some (cpL a0)
def ykm (a0:(List Qr)):Option (List Qr) :=
 (ymc a0).bind fun v1 =>
 (yoc v1).bind fun v2 =>
 some v2
def yoy  (x1:(Bool×(List Qr))):Option ((List Qr)×Bool) :=
 (ykm x1.2).bind fun v2 =>
 some (v2,x1.1)
def yas (a1:(List Qp)) (a2:Qr) (x3:(Bool×(List Qr)×Int)) (v6:Qp) (x7:(List Qr)):Option ((Bool×(List Qr)×Int) ⊕ (Bool×(List Qr))) :=
 (if(decide (x3.2.2>0))=true then
   (idxO a1 (w64 (x3.2.2-1))).bind fun v8 =>
   (ygj v8.2 a2).bind fun v9 =>
   (ygj v6.2 a2).bind fun v10 =>
   some (decide ((w64 (v9*v10))<0))
  else
   some false).bind fun w11 =>
 if w11=true then
  (idxO a1 (w64 (x3.2.2-1))).bind fun v13 =>
  (ypg1 x3.1 v13 v6 a2).bind fun v14 =>
  (guardO (x7.length+([v14.1]).length<=1099511627776)).bind fun u15 =>
  some (.inl (v14.2,(x7++[v14.1]),(w64 (x3.2.2+1))))
 else
  some (.inl (x3.1,x7,(w64 (x3.2.2+1))))
def ypy (a1:(List Qp)) (a2:Qr) (x3:(Bool×(List Qr)×Int)):Option ((Bool×(List Qr)×Int) ⊕ (Bool×(List Qr))) :=
 if(decide (x3.2.2<(a1.length:Int)))=true then
  (idxO a1 x3.2.2).bind fun v6 =>
  if((v6.2.1==a2.1)&&(v6.2.2==a2.2))=true then
   (guardO (x3.2.1.length+([v6.1]).length<=1099511627776)).bind fun u17 =>
   yas a1 a2 x3 v6 (x3.2.1++[v6.1])
  else
   yas a1 a2 x3 v6 x3.2.1
 else
  some (.inr (x3.1,x3.2.1))
def yfv (a0:Bool) (a1:(List Qp)) (a2:Qr):Option ((List Qr)×Bool) :=
 (loopO (ypy a1 a2) (a0,[],0)).bind fun y4=>yoy y4
def yax  (x1:(List Qr)):Option (List Qr) :=
 some x1
def ylo (a0:(List Qp)) (x2:((List Qr)×Int)):Option (((List Qr)×Int) ⊕ (List Qr)) :=
 if(decide (x2.2<(a0.length:Int)))=true then
  (idxO a0 x2.2).bind fun v5 =>
  (guardO (x2.1.length+([v5.1]).length<=1099511627776)).bind fun u6 =>
  some (.inl ((x2.1++[v5.1]),(w64 (x2.2+1))))
 else
  some (.inr x2.1)
def yqy (a0:(List Qp)):Option (List Qr) :=
 (loopO (ylo a0) ([],0)).bind fun y3=>yax y3
def yfd1  (x1:(List Qr)):Option ((List Qr)×Bool) :=
 some (x1,true)
def ygv (a1:Qr) (x2:((List Qr)×Int)) (v5:Qp) (v6:Qp) (v7:Int) (v8:Int) (x10:(List Qr)):Option (((List Qr)×Int) ⊕ (((List Qr)×Bool) ⊕ (List Qr))) :=
 if(decide ((w64 (v7*v8))>=0))=true then
  some (.inl (x10,(w64 (x2.2+1))))
 else
  (ybn1 v5 v6 a1).bind fun v12 =>
  if(!v12.2)=true then
   some (.inr (.inl ([],false)))
  else
   (ydd x10 v12.1).bind fun v14 =>
   some (.inl (v14,(w64 (x2.2+1))))
def yhv (a1:Qr) (x2:((List Qr)×Int)) (v5:Qp) (v6:Qp) (v7:Int) (v8:Int) (x9:(List Qr)):Option (((List Qr)×Int) ⊕ (((List Qr)×Bool) ⊕ (List Qr))) :=
 if(v8==0)=true then
  (ydd x9 v6.1).bind fun v16 =>
  ygv a1 x2 v5 v6 v7 v8 v16
 else
  ygv a1 x2 v5 v6 v7 v8 x9
def ygd1 (a0:(List Qp)) (a1:Qr) (x2:((List Qr)×Int)):Option (((List Qr)×Int) ⊕ (((List Qr)×Bool) ⊕ (List Qr))) :=
 if(decide (x2.2<(a0.length:Int)))=true then
  (idxO a0 (w64 (x2.2-1))).bind fun v5 =>
  (idxO a0 x2.2).bind fun v6 =>
  (ygc v5.2 a1).bind fun v7 =>
  (ygc v6.2 a1).bind fun v8 =>
  if(v7==0)=true then
   (ydd x2.1 v5.1).bind fun v18 =>
   yhv a1 x2 v5 v6 v7 v8 v18
  else
   yhv a1 x2 v5 v6 v7 v8 x2.1
 else
  some (.inr (.inr x2.1))
def ysa1 (a0:(List Qp)) (a1:Qr):Option ((List Qr)×Bool) :=
 (loopO (ygd1 a0 a1) ([],1)).bind fun y3=>(Sum.elim (fun p=>some p) (fun p=>yfd1 p)) y3
def yeq (a0:(List Qp)) (x3:(List Qp)):Option (List Qp) :=
 (idxO a0 (w64 ((a0.length:Int)-1))).bind fun v4 =>
 (guardO (x3.length+([v4]).length<=1099511627776)).bind fun u5 =>
 some (x3++[v4])
def ygk (a0:(List Qp)) (v1:(List Qr)) (x6:((List Qp)×Int)):Option (((List Qp)×Int) ⊕ (List Qp)) :=
 if(decide (x6.2<(w64 ((a0.length:Int)-1))))=true then
  (idxO v1 (w64 (x6.2-1))).bind fun v9 =>
  (idxO v1 x6.2).bind fun v10 =>
  if(!((v9.1==v10.1)&&(v9.2==v10.2)))=true then
   (idxO a0 x6.2).bind fun v12 =>
   (guardO (x6.1.length+([v12]).length<=1099511627776)).bind fun u13 =>
   some (.inl ((x6.1++[v12]),(w64 (x6.2+1))))
  else
   some (.inl (x6.1,(w64 (x6.2+1))))
 else
  some (.inr x6.1)
def ygq (a0:(List Qp)):Option (List Qp) :=
 (yim a0).bind fun v1 =>
 (idxO a0 0).bind fun v2 =>
 (loopO (ygk a0 v1) ([v2],1)).bind fun y7=>yeq a0 y7
def yyg (a0:Cu):Option (Qr×Cu) :=
 (yla a0 60).bind fun v1 =>
 (yoa v1.2 ([1,2,3,4,5,7,8,12,16,(w64 (1+v1.1))])).bind fun v2 =>
 (yla v2.2 (w64 (v2.1+1))).bind fun v3 =>
 (ybc v3.1 v2.1).bind fun v4 =>
 some (v4.1,v3.2)
def yzd (v1:(Int×Cu)) (x13:Bool):Option (Qr×Cu) :=
 if x13=true then
  (yoa v1.2 ([2,3,4,5,7,12])).bind fun v15 =>
  (yib v15.2 v15.1).bind fun v16 =>
  some v16
 else
  if(v1.1==6)=true then
   (yyg v1.2).bind fun v18 =>
   some v18
  else
   (yub v1.2).bind fun v19 =>
   some v19
def ykf (a1:(List Qp)) (v1:(Int×Cu)) (x2:Bool):Option (Qr×Cu) :=
 if x2=true then
  if(decide ((a1.length:Int)>0))=true then
   (yla v1.2 (a1.length:Int)).bind fun v5 =>
   (idxO a1 v5.1).bind fun v6 =>
   some (v6.1,v5.2)
  else
   (yub v1.2).bind fun v7 =>
   some v7
 else
  if(v1.1==2)=true then
   if(decide ((a1.length:Int)>0))=true then
    (yla v1.2 (a1.length:Int)).bind fun v10 =>
    (idxO a1 v10.1).bind fun v11 =>
    some (v11.2,v10.2)
   else
    (yub v1.2).bind fun v12 =>
    some v12
  else
   if(v1.1==3)=true then
    yzd v1 (v1.1==3)
   else
    if(v1.1==4)=true then
     yzd v1 (v1.1==4)
    else
     yzd v1 (v1.1==5)
def yin (a0:Cu) (a1:(List Qp)):Option (Qr×Cu) :=
 (yla a0 8).bind fun v1 =>
 if(v1.1==0)=true then
  ykf a1 v1 (v1.1==0)
 else
  ykf a1 v1 (v1.1==1)
def ymb1  (x1:(List Qp)):Option (List Qp) :=
 some x1
def ydi (a0:(List Qr)) (x2:((List Qp)×Int)):Option (((List Qp)×Int) ⊕ (List Qp)) :=
 if(decide (x2.2<(a0.length:Int)))=true then
  (idxO a0 (w64 (x2.2-1))).bind fun v5 =>
  (idxO a0 x2.2).bind fun v6 =>
  (guardO (x2.1.length+([(v5,v6)]).length<=1099511627776)).bind fun u7 =>
  some (.inl ((x2.1++[(v5,v6)]),(w64 (x2.2+1))))
 else
  some (.inr x2.1)
def yry (a0:(List Qr)):Option (List Qp) :=
 (loopO (ydi a0) ([],1)).bind fun y3=>ymb1 y3
def ygr  (x2:(List Qp)):Option (List Qp) :=
 some x2
def yzg (a0:(List Qp)) (x3:((List Qp)×Int)):Option (((List Qp)×Int) ⊕ (List Qp)) :=
 if(decide (x3.2<(a0.length:Int)))=true then
  (if((w64 (x3.2+1))==(a0.length:Int))=true then
    some true
   else
    (idxO a0 (w64 (x3.2-1))).bind fun v6 =>
    (idxO a0 x3.2).bind fun v7 =>
    (yrh v6 v7).bind fun v8 =>
    (idxO a0 (w64 (x3.2+1))).bind fun v9 =>
    (yrh v7 v9).bind fun v10 =>
    some (!((v8.1==v10.1)&&(v8.2==v10.2)))).bind fun w11 =>
  if w11=true then
   (idxO a0 x3.2).bind fun v13 =>
   (guardO (x3.1.length+([v13]).length<=1099511627776)).bind fun u14 =>
   some (.inl ((x3.1++[v13]),(w64 (x3.2+1))))
  else
   some (.inl (x3.1,(w64 (x3.2+1))))
 else
  some (.inr x3.1)
def ypj (a0:(List Qp)):Option (List Qp) :=
 (idxO a0 0).bind fun v1 =>
 (loopO (yzg a0) ([v1],1)).bind fun y4=>ygr y4
def ybg (a0:(List Qp)) (a1:Bool):Option (List Qr) :=
 if a1=true then
  (ypj a0).bind fun v2 =>
  (yqy v2).bind fun v3 =>
  some v3
 else
  (yij a0).bind fun v4 =>
  some v4
def ytt  (x1:Unit):Option Int :=
 some (-1)
def yhk (a0:(List Qr)) (a1:Qr) (x2:Int):Option (Int ⊕ (Int ⊕ Unit)) :=
 if(decide (x2<(a0.length:Int)))=true then
  (idxO a0 x2).bind fun v5 =>
  if((a1.1==v5.1)&&(a1.2==v5.2))=true then
   some (.inr (.inl x2))
  else
   some (.inl (w64 (x2+1)))
 else
  some (.inr (.inr ()))
def yik (a0:(List Qr)) (a1:Qr):Option Int :=
 (loopO (yhk a0 a1) 0).bind fun y3=>(Sum.elim (fun p=>some p) (fun p=>ytt p)) y3
def yjn  (x5:(List Qr)):Option ((List Qr)×Bool) :=
 some (x5,true)
def yti (a0:(List Qp)) (x6:((List Qr)×Bool)) (x10:Int):Option (Int ⊕ (((List Qr)×Bool) ⊕ ((List Qr)×Bool))) :=
 if(decide (x10<(x6.1.length:Int)))=true then
  (idxO x6.1 x10).bind fun v13 =>
  (ysi a0 v13).bind fun v14 =>
  if(!v14.2)=true then
   some (.inr (.inl ([],false)))
  else
   (yik x6.1 v14.1).bind fun v16 =>
   if(decide (v16<0))=true then
    (ydd x6.1 v14.1).bind fun v18 =>
    some (.inr (.inr (v18,true)))
   else
    some (.inl (w64 (x10+1)))
 else
  some (.inr (.inr (x6.1,false)))
def yui (a0:(List Qp)) (x6:((List Qr)×Bool)):Option (((List Qr)×Bool) ⊕ (((List Qr)×Bool) ⊕ (List Qr))) :=
 if x6.2=true then
  if(decide ((x6.1.length:Int)>9))=true then
   some (.inr (.inl ([],false)))
  else
   (loopO (yti a0 x6) 0).bind fun y11=>(Sum.elim (fun p=>some (.inr (.inl p))) (fun p=>some (.inl p))) y11
 else
  some (.inr (.inr x6.1))
def ycg (a0:(List Qp)) (x4:(List Qr)):Option ((List Qr)×Bool) :=
 (loopO (yui a0) (x4,true)).bind fun y7=>(Sum.elim (fun p=>some p) (fun p=>yjn p)) y7
def yvi (v19:(List Qr)) (x20:((List Qr)×Int)):Option (((List Qr)×Int) ⊕ (List Qr)) :=
 if(decide (x20.2<(v19.length:Int)))=true then
  (idxO v19 x20.2).bind fun v23 =>
  (ydd x20.1 v23).bind fun v24 =>
  some (.inl (v24,(w64 (x20.2+1))))
 else
  some (.inr x20.1)
def yxd (a0:(List Qp)) (a1:Bool):Option ((List Qr)×Bool) :=
 (ykb 0).bind fun v1 =>
 (ykb 1).bind fun v2 =>
 (ydd ([v1]) v2).bind fun v3 =>
 (ybg a0 a1).bind fun v19 =>
 (loopO (yvi v19) (v3,0)).bind fun y21=>ycg a0 y21
def yen1 (a0:(List Qp)) (a1:(List Qp)):Option Bool :=
 (yae a0).bind fun v1 =>
 (if v1=true then
   (yjf a1).bind fun v2 =>
   some v2
  else
   some false).bind fun w3 =>
 some w3
def ysy  (x3:(Bool×(List Int))):Option ((List Int)×Bool) :=
 if x3.1=true then
  some ([],false)
 else
  some (x3.2,true)
def yty (a0:(List Qp)) (a1:(List Qp)) (x5:(Bool×(List Int)×Int)):Option ((Bool×(List Int)×Int) ⊕ (Bool×(List Int))) :=
 if(decide (x5.2.2<(a1.length:Int)))=true then
  (idxO a1 x5.2.2).bind fun v8 =>
  (guardO ((a1.length:Int)≠0)).bind fun u9 =>
  (idxO a1 (Int.tmod (w64 (x5.2.2+1)) (a1.length:Int))).bind fun v10 =>
  (yxg x5.1 a0 v8 v10).bind fun v11 =>
  if(!v11.1)=true then
   (guardO (x5.2.1.length+([x5.2.2]).length<=1099511627776)).bind fun u13 =>
   some (.inl (v11.2,(x5.2.1++[x5.2.2]),(w64 (x5.2.2+1))))
  else
   some (.inl (v11.2,x5.2.1,(w64 (x5.2.2+1))))
 else
  some (.inr (x5.1,x5.2.1))
def yhr (a0:(List Qp)) (a1:(List Qp)):Option ((List Int)×Bool) :=
 (yen1 a0 a1).bind fun v1 =>
 if(!v1)=true then
  some ([],false)
 else
  (loopO (yty a0 a1) (false,[],0)).bind fun y6=>ysy y6
def ybx (a0:(List Qp)) (a1:(List Qp)):Option (Bool×Bool) :=
 (yhr a0 a1).bind fun v1 =>
 (if v1.2=true then
   if((v1.1.length:Int)==0)=true then
    some true
   else
    (idxO v1.1 0).bind fun v2 =>
    some (v2==(w64 ((a1.length:Int)-1)))
  else
   some false).bind fun w3 =>
 some (w3,v1.2)
def ywi (a0:(List Qp)):Option (List Qp) :=
 (guardO (a0.length<=1099511627776)).bind fun u2 =>
 some a0
def yja1 (a0:Qr) (c0:(Int×Int×Int×Int)):Option Bool :=
 some (((a0.1==c0.1)&&(a0.2==c0.2.1))||((a0.1==c0.2.2.1)&&(a0.2==c0.2.2.2)))
def yuy  (x4:Bool):Option (Qp×Bool) :=
 some (((0,0),(0,0)),true)
def yvy (a1:(List Qp)) (v3:(List Qr)) (x5:(Bool×Int)):Option ((Bool×Int) ⊕ ((Qp×Bool) ⊕ Bool)) :=
 if((decide (x5.2<(v3.length:Int)))&&(!x5.1))=true then
  (idxO v3 (w64 (x5.2-1))).bind fun v8 =>
  (ytc x5.1 a1 v8).bind fun v9 =>
  (idxO v3 x5.2).bind fun v10 =>
  (ytc v9.2 a1 v10).bind fun v11 =>
  if(!((v9.1.1==v11.1.1)&&(v9.1.2==v11.1.2)))=true then
   some (.inr (.inl ((v8,v10),v11.2)))
  else
   some (.inl (v11.2,(w64 (x5.2+1))))
 else
  some (.inr (.inr x5.1))
def ywy (a1:(List Qp)) (x2:(Bool×(List Qr))):Option (Qp×Bool) :=
 (ykm x2.2).bind fun v3 =>
 (loopO (yvy a1 v3) (x2.1,1)).bind fun y6=>(Sum.elim (fun p=>some p) (fun p=>yuy p)) y6
def yxy (a1:(List Qp)) (a2:Qp) (a3:Qp) (x13:(Bool×(List Qr)×Int)):Option ((Bool×(List Qr)×Int) ⊕ (Bool×(List Qr))) :=
 if(decide (x13.2.2<(([a2.1,a2.2]).length:Int)))=true then
  (idxO ([a2.1,a2.2]) x13.2.2).bind fun v16 =>
  (ytc x13.1 a1 v16).bind fun v17 =>
  (yja1 v17.1 (a3.1.1,a3.1.2,a3.2.1,a3.2.2)).bind fun v18 =>
  if v18=true then
   (guardO (x13.2.1.length+([v16]).length<=1099511627776)).bind fun u20 =>
   some (.inl (v17.2,(x13.2.1++[v16]),(w64 (x13.2.2+1))))
  else
   some (.inl (v17.2,x13.2.1,(w64 (x13.2.2+1))))
 else
  some (.inr (x13.1,x13.2.1))
def yyy (a1:(List Qp)) (a2:Qp) (a3:Qp) (x1:(Bool×(List Qr))):Option (Qp×Bool) :=
 (loopO (yxy a1 a2 a3) (x1.1,x1.2,0)).bind fun y14=>ywy a1 y14
def yzy (a2:Qp) (v21:((List Qr)×Bool)) (v22:((List Qr)×Bool)) (x24:((List Qr)×Int)):Option (((List Qr)×Int) ⊕ (Bool×(List Qr))) :=
 if(decide (x24.2<((v21.1++v22.1).length:Int)))=true then
  (idxO (v21.1++v22.1) x24.2).bind fun v27 =>
  (yvf v27 a2.1).bind fun v28 =>
  (if(!v28)=true then
    (yvf a2.2 v27).bind fun v29 =>
    some (!v29)
   else
    some false).bind fun w30 =>
  if w30=true then
   (guardO (x24.1.length+([v27]).length<=1099511627776)).bind fun u32 =>
   some (.inl ((x24.1++[v27]),(w64 (x24.2+1))))
  else
   some (.inl (x24.1,(w64 (x24.2+1))))
 else
  some (.inr (v22.2,x24.1))
def yhd1 (a0:Bool) (a1:(List Qp)) (a2:Qp) (a3:Qp):Option (Qp×Bool) :=
 (yfv a0 a1 a3.1).bind fun v21 =>
 (yfv v21.2 a1 a3.2).bind fun v22 =>
 (guardO (v21.1.length+v22.1.length<=1099511627776)).bind fun u23 =>
 (loopO (yzy a2 v21 v22) ([],0)).bind fun y25=>yyy a1 a2 a3 y25
def yaz  (x4:(Bool×(List Qp))):Option ((List Qp)×Bool) :=
 if x4.1=true then
  some ([],false)
 else
  some (x4.2,true)
def ybz (a0:(List Qp)) (a1:(List Qp)) (x6:(Bool×(List Qp)×Int)):Option ((Bool×(List Qp)×Int) ⊕ (Bool×(List Qp))) :=
 if((decide (x6.2.2>=0))&&(!x6.1))=true then
  (idxO a1 x6.2.2).bind fun v9 =>
  (idxO x6.2.1 (w64 (x6.2.2+1))).bind fun v10 =>
  (yhd1 x6.1 a0 v9 v10).bind fun v11 =>
  (idxO x6.2.1 x6.2.2).bind fun v12 =>
  some (.inl (v11.2,(x6.2.1.set (Int.toNat x6.2.2) v11.1),(w64 (x6.2.2-1))))
 else
  some (.inr (x6.1,x6.2.1))
def yir (a0:(List Qp)) (a1:(List Qp)):Option ((List Qp)×Bool) :=
 (ybx a0 a1).bind fun v1 =>
 if((!v1.2)||(!v1.1))=true then
  some ([],false)
 else
  (ywi a1).bind fun v3 =>
  (loopO (ybz a0 a1) (false,v3,(w64 ((a1.length:Int)-2)))).bind fun y7=>yaz y7
def yid1  (x1:(List Int)):Option ((List Int)×Bool) :=
 some (x1,true)
def yjd1 (a0:(List Qp)) (a1:(List Qp)) (x2:((List Int)×Int)):Option (((List Int)×Int) ⊕ (((List Int)×Bool) ⊕ (List Int))) :=
 if(decide (x2.2<(a1.length:Int)))=true then
  (idxO a1 x2.2).bind fun v5 =>
  (guardO ((a1.length:Int)≠0)).bind fun u6 =>
  (idxO a1 (Int.tmod (w64 (x2.2+1)) (a1.length:Int))).bind fun v7 =>
  (yra1 a0 v5 v7).bind fun v8 =>
  if(!v8.2)=true then
   some (.inr (.inl ([],false)))
  else
   if(!v8.1)=true then
    (guardO (x2.1.length+([x2.2]).length<=1099511627776)).bind fun u11 =>
    some (.inl ((x2.1++[x2.2]),(w64 (x2.2+1))))
   else
    some (.inl (x2.1,(w64 (x2.2+1))))
 else
  some (.inr (.inr x2.1))
def ybs (a0:(List Qp)) (a1:(List Qp)):Option ((List Int)×Bool) :=
 (loopO (yjd1 a0 a1) ([],0)).bind fun y3=>(Sum.elim (fun p=>some p) (fun p=>yid1 p)) y3
def ykd1  (x8:Unit):Option (Qp×Bool) :=
 some (((0,0),(0,0)),false)
def yld1 (a0:(List Qp)) (x7:(List Qr)) (x9:Int):Option (Int ⊕ ((Qp×Bool) ⊕ Unit)) :=
 if(decide (x9<(x7.length:Int)))=true then
  (idxO x7 (w64 (x9-1))).bind fun v12 =>
  (ysi a0 v12).bind fun v13 =>
  (idxO x7 x9).bind fun v14 =>
  (ysi a0 v14).bind fun v15 =>
  if(!((v13.1.1==v15.1.1)&&(v13.1.2==v15.1.2)))=true then
   some (.inr (.inl ((v12,v14),true)))
  else
   some (.inl (w64 (x9+1)))
 else
  some (.inr (.inr ()))
def ymd1 (a0:(List Qp)) (x7:(List Qr)):Option (Qp×Bool) :=
 (loopO (yld1 a0 x7) 1).bind fun y10=>(Sum.elim (fun p=>some p) (fun p=>ykd1 p)) y10
def ynd1 (a0:(List Qp)) (a1:Qp) (a2:Qp) (x17:((List Qr)×Int)):Option (((List Qr)×Int) ⊕ (List Qr)) :=
 if(decide (x17.2<(([a1.1,a1.2]).length:Int)))=true then
  (idxO ([a1.1,a1.2]) x17.2).bind fun v20 =>
  (ysi a0 v20).bind fun v21 =>
  if(((v21.1.1==a2.1.1)&&(v21.1.2==a2.1.2))||((v21.1.1==a2.2.1)&&(v21.1.2==a2.2.2)))=true then
   (ydd x17.1 v20).bind fun v23 =>
   some (.inl (v23,(w64 (x17.2+1))))
  else
   some (.inl (x17.1,(w64 (x17.2+1))))
 else
  some (.inr x17.1)
def yod1 (a0:(List Qp)) (a1:Qp) (a2:Qp) (x6:(List Qr)):Option (Qp×Bool) :=
 (loopO (ynd1 a0 a1 a2) (x6,0)).bind fun y18=>ymd1 a0 y18
def ypd1 (a1:Qp) (v3:((List Qr)×Bool)) (v4:((List Qr)×Bool)) (x25:((List Qr)×Int)):Option (((List Qr)×Int) ⊕ (List Qr)) :=
 if(decide (x25.2<((v3.1++v4.1).length:Int)))=true then
  (idxO (v3.1++v4.1) x25.2).bind fun v28 =>
  (ygc a1.1 v28).bind fun v29 =>
  (if(decide (v29<=0))=true then
    (ygc v28 a1.2).bind fun v30 =>
    some (decide (v30<=0))
   else
    some false).bind fun w31 =>
  if w31=true then
   (ydd x25.1 v28).bind fun v33 =>
   some (.inl (v33,(w64 (x25.2+1))))
  else
   some (.inl (x25.1,(w64 (x25.2+1))))
 else
  some (.inr x25.1)
def yej1 (a0:(List Qp)) (a1:Qp) (a2:Qp):Option (Qp×Bool) :=
 (yra1 a0 a1 a2).bind fun v1 =>
 if((!v1.2)||(!v1.1))=true then
  some (((0,0),(0,0)),false)
 else
  (ysa1 a0 a2.1).bind fun v3 =>
  (ysa1 a0 a2.2).bind fun v4 =>
  if((!v3.2)||(!v4.2))=true then
   some (((0,0),(0,0)),false)
  else
   (guardO (v3.1.length+v4.1.length<=1099511627776)).bind fun u24 =>
   (loopO (ypd1 a1 v3 v4) ([],0)).bind fun y26=>yod1 a0 a1 a2 y26
def ycz  (x8:(List Qp)):Option ((List Qp)×Bool) :=
 some (x8,true)
def ydz (a0:(List Qp)) (a1:(List Qp)) (x9:((List Qp)×Int)):Option (((List Qp)×Int) ⊕ (((List Qp)×Bool) ⊕ (List Qp))) :=
 if(decide (x9.2>=0))=true then
  (idxO a1 x9.2).bind fun v12 =>
  (idxO x9.1 (w64 (x9.2+1))).bind fun v13 =>
  (yej1 a0 v12 v13).bind fun v14 =>
  if(!v14.2)=true then
   some (.inr (.inl ([],false)))
  else
   (idxO x9.1 x9.2).bind fun v16 =>
   some (.inl ((x9.1.set (Int.toNat x9.2) v14.1),(w64 (x9.2-1))))
 else
  some (.inr (.inr x9.1))
def yjr (a0:(List Qp)) (a1:(List Qp)):Option ((List Qp)×Bool) :=
 (yst a0 a1).bind fun v1 =>
 if(!v1)=true then
  some ([],false)
 else
  (ybs a0 a1).bind fun v3 =>
  (if(!v3.2)=true then
    some true
   else
    if(decide ((v3.1.length:Int)>0))=true then
     (idxO v3.1 0).bind fun v4 =>
     some (decide (v4<(w64 ((a1.length:Int)-1))))
    else
     some false).bind fun w5 =>
  if w5=true then
   some ([],false)
  else
   (guardO (a1.length<=1099511627776)).bind fun u7 =>
   (loopO (ydz a0 a1) (a1,(w64 ((a1.length:Int)-2)))).bind fun y10=>(Sum.elim (fun p=>some p) (fun p=>ycz p)) y10
def yqd1 (a0:(List Qp)) (a1:(List Qp)):Option (Bool×Bool) :=
 (yst a0 a1).bind fun v1 =>
 if(!v1)=true then
  some (false,false)
 else
  (ybs a0 a1).bind fun v3 =>
  if(!v3.2)=true then
   some (false,false)
  else
   (if((v3.1.length:Int)==0)=true then
     some true
    else
     (idxO v3.1 0).bind fun v5 =>
     some (v5==(w64 ((a1.length:Int)-1)))).bind fun w6 =>
   some (w6,true)
def yta1 (a0:(List Qp)) (a1:(List Qp)):Option (Bool×Bool) :=
 (yhr a0 a1).bind fun v1 =>
 some ((v1.2&&((v1.1.length:Int)==0)),v1.2)
def yfn1 (a0:(List Qp)) (a1:(List Qp)):Option (Bool×Bool) :=
 (ybs a0 a1).bind fun v1 =>
 some ((v1.2&&((v1.1.length:Int)==0)),v1.2)
def yua1 (a0:(List Qp)) (a1:(List Qp)):Option (Bool×Bool) :=
 (yst a0 a1).bind fun v1 =>
 if(!v1)=true then
  some (false,false)
 else
  (yfn1 a0 a1).bind fun v3 =>
  some v3
def yiv (a0:(List Qp)) (a1:(List Qp)):Option ((List Int)×Bool) :=
 (yhr a0 a1).bind fun v1 =>
 some v1
def yjv (a0:(List Qp)) (a1:(List Qp)):Option ((List Int)×Bool) :=
 (yst a0 a1).bind fun v1 =>
 if(!v1)=true then
  some ([],false)
 else
  (ybs a0 a1).bind fun v3 =>
  some v3
def ymd (a0:(List Int)):Option ((List Qp)×Bool) :=
 (ypd (a0,0,0)).bind fun v1 =>
 (ysb v1.2 2).bind fun v2 =>
 some (v1.1,v2.1)
def ykn  (x1:(Bool×(List Qr))):Option ((List Qr)×Bool) :=
 some (x1.2,x1.1)
def yln (a1:(List Qp)) (a2:(List Qr)) (x2:(Bool×(List Qr)×Int)):Option ((Bool×(List Qr)×Int) ⊕ (Bool×(List Qr))) :=
 if(decide (x2.2.2<(a2.length:Int)))=true then
  (idxO a2 x2.2.2).bind fun v5 =>
  (ytc x2.1 a1 v5).bind fun v6 =>
  (guardO (x2.2.1.length+([v6.1]).length<=1099511627776)).bind fun u7 =>
  some (.inl (v6.2,(x2.2.1++[v6.1]),(w64 (x2.2.2+1))))
 else
  some (.inr (x2.1,x2.2.1))
def yah (a0:Bool) (a1:(List Qp)) (a2:(List Qr)):Option ((List Qr)×Bool) :=
 (loopO (yln a1 a2) (a0,[],0)).bind fun y3=>ykn y3
def yfd  (x3:(List Qr)):Option (List Qr) :=
 some x3
def ywa (a0:(List (List Qr))) (x4:((List Qr)×Int)):Option (((List Qr)×Int) ⊕ (List Qr)) :=
 if(decide (x4.2<(a0.length:Int)))=true then
  (idxO a0 x4.2).bind fun v7 =>
  (guardO (x4.1.length+v7.length<=1099511627776)).bind fun u8 =>
  some (.inl ((x4.1++v7),(w64 (x4.2+1))))
 else
  some (.inr x4.1)
def yic (a0:(List (List Qr))) (x1:Int):Option (List Qr) :=
 (guardO (1<=x1/\x1<=1099511627776)).bind fun u2 =>
 (loopO (ywa a0) ([],0)).bind fun y5=>yfd y5
def yxa (a0:(List (List Qr))) (x9:Qr):Option (Qr ⊕ Int) :=
 if(decide (x9.2<(a0.length:Int)))=true then
  (idxO a0 x9.2).bind fun v12 =>
  if(decide ((w64 (x9.1+(v12.length:Int)))<0))=true then
   none
  else
   some (.inl ((w64 (x9.1+(v12.length:Int))),(w64 (x9.2+1))))
 else
  some (.inr x9.1)
def ywb (a0:(List (List Qr))):Option (List Qr) :=
 (loopO (yxa a0) (0,0)).bind fun y10=>yic a0 y10
def ydg  (x9:Unit):Option ((List Qr)×Bool) :=
 some ([],false)
def yeg (a0:(List Qp)) (x10:((List Qr)×Bool)):Option (((List Qr)×Bool) ⊕ (((List Qr)×Bool) ⊕ Unit)) :=
 if(decide ((x10.1.length:Int)<=9))=true then
  (yah x10.2 a0 x10.1).bind fun v13 =>
  (ywb ([x10.1,v13.1])).bind fun v14 =>
  (ykm v14).bind fun v15 =>
  if v13.2=true then
   some (.inr (.inl ([],false)))
  else
   if((v15.length:Int)==(x10.1.length:Int))=true then
    some (.inr (.inl (x10.1,true)))
   else
    some (.inl (v15,v13.2))
 else
  some (.inr (.inr ()))
def yed (a0:(List Qp)) (x7:(List Qr)):Option ((List Qr)×Bool) :=
 (ykm x7).bind fun v8 =>
 (loopO (yeg a0) (v8,false)).bind fun y11=>(Sum.elim (fun p=>some p) (fun p=>ydg p)) y11
def yid (a0:(List Qp)) (a1:Bool):Option ((List Qr)×Bool) :=
 (yae a0).bind fun v1 =>
 if(!v1)=true then
  some ([],false)
 else
  (yil).bind fun v3 =>
  (yem).bind fun v4 =>
  (yer a0).bind fun v5 =>
  (guardO (([v3,v4]).length+v5.length<=1099511627776)).bind fun u6 =>
  if a1=true then
   (ygq a0).bind fun v19 =>
   (ydq v19).bind fun v20 =>
   yed a0 v20
  else
   yed a0 ([v3,v4]++v5)
def yfg (a0:(List Qp)) (a1:Bool):Option ((List Qr)×Bool) :=
 (yle a0).bind fun v1 =>
 if(!v1)=true then
  some ([],false)
 else
  (yxd a0 a1).bind fun v3 =>
  some v3
def yrc (a0:(List Qr)):Option Bool :=
 (ybf (a0.length:Int) 2 9).bind fun v1 =>
 (if v1=true then
   (yoj a0).bind fun v2 =>
   if v2=true then
    (ykj a0).bind fun v3 =>
    if v3=true then
     (idxO a0 0).bind fun v4 =>
     (yil).bind fun v5 =>
     if((v4.1==v5.1)&&(v4.2==v5.2))=true then
      (idxO a0 (w64 ((a0.length:Int)-1))).bind fun v6 =>
      (yem).bind fun v7 =>
      some ((v6.1==v7.1)&&(v6.2==v7.2))
     else
      some false
    else
     some false
   else
    some false
  else
   some false).bind fun w8 =>
 some w8
def yjd  (x1:Unit):Option Int :=
 some (-1)
def yob (a0:(List Qr)) (a1:Qr) (x2:Int):Option (Int ⊕ (Int ⊕ Unit)) :=
 if(decide (x2<(a0.length:Int)))=true then
  (idxO a0 x2).bind fun v5 =>
  if((a1.1==v5.1)&&(a1.2==v5.2))=true then
   some (.inr (.inl x2))
  else
   some (.inl (w64 (x2+1)))
 else
  some (.inr (.inr ()))
def yzb (a0:(List Qr)) (a1:Qr):Option Int :=
 (loopO (yob a0 a1) 0).bind fun y3=>(Sum.elim (fun p=>some p) (fun p=>yjd p)) y3
def ypb (a0:(List Qr)) (a1:Qr):Option Bool :=
 (yzb a0 a1).bind fun v1 =>
 some (decide (v1>=0))
def ymn (a0:Qr) (c0:(List Qr)):Option Bool :=
 (ypb c0 a0).bind fun v1 =>
 some (!v1)
def yvl (a0:(List Qr)) (a1:(List Qr)):Option Bool :=
 (yma a1 (fun x0=>ymn x0 a0)).bind fun v1 =>
 some (!v1)
def yud (a0:(List Qp)) (a1:(List Qr)):Option (Bool×Bool) :=
 (yae a0).bind fun v1 =>
 (if(!v1)=true then
   some true
  else
   (yrc a1).bind fun v2 =>
   some (!v2)).bind fun w3 =>
 if w3=true then
  some (false,false)
 else
  (yah false a0 a1).bind fun v5 =>
  (yvl a1 v5.1).bind fun v6 =>
  if v5.2=true then
   some (false,false)
  else
   some (v6,true)
def yfe (a0:(List Qp)) (a1:(List Qr)):Option (Bool×Bool) :=
 (yud a0 a1).bind fun v1 =>
 (if v1.1=true then
   (yer a0).bind fun v2 =>
   (yvl a1 v2).bind fun v3 =>
   some v3
  else
   some false).bind fun w4 =>
 some (w4,v1.2)
def yxb (a0:(List Qp)) (a1:(List Qr)):Option (Bool×Bool) :=
 (yud a0 a1).bind fun v1 =>
 (if v1.1=true then
   (ygq a0).bind fun v2 =>
   (ydq v2).bind fun v3 =>
   (yvl a1 v3).bind fun v4 =>
   some v4
  else
   some false).bind fun w5 =>
 some (w5,v1.2)
def yfq (a0:(List Qr)) (x3:Unit):Option Bool :=
 (idxO a0 0).bind fun v4 =>
 (ykb 0).bind fun v5 =>
 (if((v4.1==v5.1)&&(v4.2==v5.2))=true then
   (idxO a0 (w64 ((a0.length:Int)-1))).bind fun v6 =>
   (ykb 1).bind fun v7 =>
   some ((v6.1==v7.1)&&(v6.2==v7.2))
  else
   some false).bind fun w8 =>
 some w8
def ynn (a0:(List Qr)) (x9:Int):Option (Int ⊕ (Bool ⊕ Unit)) :=
 if(decide (x9<(a0.length:Int)))=true then
  (idxO a0 x9).bind fun v12 =>
  (yvg v12).bind fun v13 =>
  (if(!v13)=true then
    some true
   else
    if(decide (x9>0))=true then
     (idxO a0 (w64 (x9-1))).bind fun v14 =>
     (ygc v14 v12).bind fun v15 =>
     some (decide (v15>=0))
    else
     some false).bind fun w16 =>
  if w16=true then
   some (.inr (.inl false))
  else
   some (.inl (w64 (x9+1)))
 else
  some (.inr (.inr ()))
def ylm (a0:(List Qr)):Option Bool :=
 (yxj (a0.length:Int) 2 9).bind fun v1 =>
 if(!v1)=true then
  some false
 else
  (loopO (ynn a0) 0).bind fun y10=>(Sum.elim (fun p=>some p) (fun p=>yfq a0 p)) y10
def yqd (a0:(List Qp)) (a1:(List Qr)):Option Bool :=
 (yle a0).bind fun v1 =>
 (if v1=true then
   (ylm a1).bind fun v2 =>
   some v2
  else
   some false).bind fun w3 =>
 some w3
def ykr  (x1:(List Int)):Option ((List Int)×Bool) :=
 some (x1,true)
def ylr (a0:(List Qp)) (a1:(List Qr)) (x2:((List Int)×Int)):Option (((List Int)×Int) ⊕ (((List Int)×Bool) ⊕ (List Int))) :=
 if(decide (x2.2<(a1.length:Int)))=true then
  (idxO a1 x2.2).bind fun v5 =>
  (ysi a0 v5).bind fun v6 =>
  if(!v6.2)=true then
   some (.inr (.inl ([],false)))
  else
   (yik a1 v6.1).bind fun v8 =>
   (guardO (x2.1.length+([v8]).length<=1099511627776)).bind fun u9 =>
   some (.inl ((x2.1++[v8]),(w64 (x2.2+1))))
 else
  some (.inr (.inr x2.1))
def ymm (a0:(List Qp)) (a1:(List Qr)):Option ((List Int)×Bool) :=
 (loopO (ylr a0 a1) ([],0)).bind fun y3=>(Sum.elim (fun p=>some p) (fun p=>ykr p)) y3
def ycs  (x1:Unit):Option Bool :=
 some false
def ypp (a0:(List Int)) (a1:Int) (x2:Int):Option (Int ⊕ (Bool ⊕ Unit)) :=
 if(decide (x2<(a0.length:Int)))=true then
  (idxO a0 x2).bind fun v5 =>
  if(v5==a1)=true then
   some (.inr (.inl true))
  else
   some (.inl (w64 (x2+1)))
 else
  some (.inr (.inr ()))
def ykv (a0:(List Int)) (a1:Int):Option Bool :=
 (loopO (ypp a0 a1) 0).bind fun y3=>(Sum.elim (fun p=>some p) (fun p=>ycs p)) y3
def yon (v1:((List Int)×Bool)) (x3:Unit):Option (Bool×Bool) :=
 (ykv v1.1 (-1)).bind fun v4 =>
 some ((!v4),true)
def ymr (a1:(List Qr)) (v5:(List Qr)) (x6:Int):Option (Int ⊕ ((Bool×Bool) ⊕ Unit)) :=
 if(decide (x6<(v5.length:Int)))=true then
  (idxO v5 x6).bind fun v9 =>
  (yik a1 v9).bind fun v10 =>
  if(decide (v10<0))=true then
   some (.inr (.inl (false,true)))
  else
   some (.inl (w64 (x6+1)))
 else
  some (.inr (.inr ()))
def yge (a0:(List Qp)) (a1:(List Qr)) (a2:Bool):Option (Bool×Bool) :=
 (ymm a0 a1).bind fun v1 =>
 if(!v1.2)=true then
  some (false,false)
 else
  (ybg a0 a2).bind fun v5 =>
  (loopO (ymr a1 v5) 0).bind fun y7=>(Sum.elim (fun p=>some p) (fun p=>yon v1 p)) y7
def yqj (a0:(List Qp)) (a1:(List Qr)):Option (Bool×Bool) :=
 (yge a0 a1 false).bind fun v1 =>
 if(!v1.2)=true then
  some (false,false)
 else
  (yge a0 a1 true).bind fun v3 =>
  some ((v1.1&&v3.1),true)
def ykd (a0:(List Qp)) (a1:(List Qr)):Option (Bool×Bool) :=
 (yqd a0 a1).bind fun v1 =>
 if(!v1)=true then
  some (false,false)
 else
  (yqj a0 a1).bind fun v3 =>
  some v3
def yqs  (x1:(List Qp)):Option (List Qp) :=
 some x1
def ymw (a0:(List Qr)) (x2:((List Qp)×Int)):Option (((List Qp)×Int) ⊕ (List Qp)) :=
 if(decide (x2.2<(a0.length:Int)))=true then
  (idxO a0 (w64 (x2.2-1))).bind fun v5 =>
  (idxO a0 x2.2).bind fun v6 =>
  (guardO (x2.1.length+([(v5,v6)]).length<=1099511627776)).bind fun u7 =>
  some (.inl ((x2.1++[(v5,v6)]),(w64 (x2.2+1))))
 else
  some (.inr x2.1)
def ynr (a0:(List Qr)):Option (List Qp) :=
 (loopO (ymw a0) ([],1)).bind fun y3=>yqs y3
def ysc (a0:(List Qp)) (a1:(List Qr)):Option ((List (List Int))×Bool) :=
 (yfe a0 a1).bind fun v1 =>
 if((!v1.2)||(!v1.1))=true then
  some ([],false)
 else
  (ynr a1).bind fun v3 =>
  (yyk a0 v3).bind fun v4 =>
  some v4
def ybp  (x4:(List (List Int))):Option ((List (List Int))×Bool) :=
 some (x4,true)
def ycp (x5:((List (List Int))×Int)) (x8:(List (List Int))):Option (((List (List Int))×Int) ⊕ (List (List Int))) :=
 some (.inl (x8,(w64 (x5.2+1))))
def ydp (x5:((List (List Int))×Int)) (x10:(List Int)):Option (((List (List Int))×Int) ⊕ (List (List Int))) :=
 (guardO (x5.1.length+([x10]).length<=1099511627776)).bind fun u11 =>
 ycp x5 (x5.1++[x10])
def ymi (v12:Int) (v13:Int) (x15:((List Int)×Int)):Option (((List Int)×Int) ⊕ (List Int)) :=
 (yco v12 v13).bind fun v17 =>
 if(decide (x15.2<v17))=true then
  (idxO x15.1 x15.2).bind fun v19 =>
  some (.inl ((x15.1.set (Int.toNat x15.2) 1),(w64 (x15.2+1))))
 else
  some (.inr x15.1)
def yni (a1:(List Qr)) (v3:((List Int)×Bool)) (x5:((List (List Int))×Int)):Option (((List (List Int))×Int) ⊕ (List (List Int))) :=
 if(decide (x5.2<(a1.length:Int)))=true then
  (guardO (0<=(w64 ((a1.length:Int)-1))/\(w64 ((a1.length:Int)-1))<=1099511627776)).bind fun u9 =>
  (idxO v3.1 (w64 (x5.2-1))).bind fun v12 =>
  (idxO v3.1 x5.2).bind fun v13 =>
  (yql v12 v13).bind fun v14 =>
  (loopO (ymi v12 v13) ((List.replicate (Int.toNat (w64 ((a1.length:Int)-1))) (0:Int)),v14)).bind fun y16=>ydp x5 y16
 else
  some (.inr x5.1)
def yrj (a0:(List Qp)) (a1:(List Qr)):Option ((List (List Int))×Bool) :=
 (yge a0 a1 false).bind fun v1 =>
 if((!v1.1)||(!v1.2))=true then
  some ([],false)
 else
  (ymm a0 a1).bind fun v3 =>
  (loopO (yni a1 v3) ([],1)).bind fun y6=>ybp y6
def yyd (a0:(List Qp)) (a1:(List Qr)):Option ((List (List Int))×Bool) :=
 (yqd a0 a1).bind fun v1 =>
 if(!v1)=true then
  some ([],false)
 else
  (yrj a0 a1).bind fun v3 =>
  some v3
def ybh (a0:(List Qr)):Option Bool :=
 (yrc a0).bind fun v1 =>
 some v1
def yxv (a0:Qr) (a1:Qr):Option (Qr×Bool) :=
 (ybc (w64 ((w64 (a0.1*a1.2))+(w64 (a1.1*a0.2)))) (w64 ((w64 (2*a0.2))*a1.2))).bind fun v1 =>
 some v1
def yqp (a0:Qr) (a1:Qr):Option (Qr×Bool) :=
 (yny a0 a1).bind fun v1 =>
 if(!v1)=true then
  some ((0,0),false)
 else
  (yxv a0 a1).bind fun v3 =>
  some v3
def ywl (a0:(List Qp)) (a1:Qr):Option (Qr×Bool) :=
 (yle a0).bind fun v1 =>
 (if(!v1)=true then
   some true
  else
   (yvg a1).bind fun v2 =>
   some (!v2)).bind fun w3 =>
 if w3=true then
  some ((0,0),false)
 else
  (ysi a0 a1).bind fun v5 =>
  some v5
def yor  (x1:(List Int)):Option (List Int) :=
 some x1
def ych (a1:Qr) (v2:(List Qp)) (x3:((List Int)×Int)):Option (((List Int)×Int) ⊕ (List Int)) :=
 if(decide (x3.2<(v2.length:Int)))=true then
  (idxO v2 x3.2).bind fun v6 =>
  (yvf a1 v6.1).bind fun v7 =>
  (if(!v7)=true then
    (yvf v6.2 a1).bind fun v8 =>
    some (!v8)
   else
    some false).bind fun w9 =>
  if w9=true then
   (guardO (x3.1.length+([x3.2]).length<=1099511627776)).bind fun u11 =>
   some (.inl ((x3.1++[x3.2]),(w64 (x3.2+1))))
  else
   some (.inl (x3.1,(w64 (x3.2+1))))
 else
  some (.inr x3.1)
def ynm (a0:(List Qr)) (a1:Qr):Option (List Int) :=
 (ynr a0).bind fun v2 =>
 (loopO (ych a1 v2) ([],0)).bind fun y4=>yor y4
def yrp (a0:(List Qr)) (a1:Qr):Option ((List Int)×Bool) :=
 (yrc a0).bind fun v1 =>
 (if(!v1)=true then
   some true
  else
   (yfm a1).bind fun v2 =>
   some (!v2)).bind fun w3 =>
 if w3=true then
  some ([],false)
 else
  (ynm a0 a1).bind fun v5 =>
  some (v5,true)
def ypr  (x1:(List Int)):Option (List Int) :=
 some x1
def ydh (a0:(List Qr)) (a1:Qr) (x2:((List Int)×Int)):Option (((List Int)×Int) ⊕ (List Int)) :=
 if(decide (x2.2<(a0.length:Int)))=true then
  (idxO a0 (w64 (x2.2-1))).bind fun v5 =>
  (ygc v5 a1).bind fun v6 =>
  (if(decide (v6<=0))=true then
    (idxO a0 x2.2).bind fun v7 =>
    (ygc a1 v7).bind fun v8 =>
    some (decide (v8<=0))
   else
    some false).bind fun w9 =>
  if w9=true then
   (guardO (x2.1.length+([(w64 (x2.2-1))]).length<=1099511627776)).bind fun u11 =>
   some (.inl ((x2.1++[(w64 (x2.2-1))]),(w64 (x2.2+1))))
  else
   some (.inl (x2.1,(w64 (x2.2+1))))
 else
  some (.inr x2.1)
def ysj (a0:(List Qr)) (a1:Qr):Option (List Int) :=
 (loopO (ydh a0 a1) ([],1)).bind fun y3=>ypr y3
def ysp (a0:(List Qr)) (a1:Qr):Option ((List Int)×Bool) :=
 (ylm a0).bind fun v1 =>
 (if(!v1)=true then
   some true
  else
   (yvg a1).bind fun v2 =>
   some (!v2)).bind fun w3 =>
 if w3=true then
  some ([],false)
 else
  (ysj a0 a1).bind fun v5 =>
  some (v5,true)
def ycx  (x1:Int):Option Int :=
 some x1
def yqr (a0:(List Int)) (x2:Qr):Option (Qr ⊕ Int) :=
 if(decide (x2.2<(a0.length:Int)))=true then
  (idxO a0 x2.2).bind fun v5 =>
  some (.inl ((w64 (x2.1+v5)),(w64 (x2.2+1))))
 else
  some (.inr x2.1)
def yez (a0:(List Int)):Option Int :=
 (loopO (yqr a0) (0,0)).bind fun y3=>ycx y3
def ymo  (x7:((List Int)×Int×Int×(List Qr))):Option ((List Qr)×Cu) :=
 (yla (x7.1,x7.2.1,x7.2.2.1) 24).bind fun v8 =>
 if(v8.1==0)=true then
  (guardO (0<=1/\1<=(x7.2.2.2.length:Int))).bind fun u10 =>
  some ((x7.2.2.2.drop (Int.toNat 1)),v8.2)
 else
  if(v8.1==1)=true then
   (yla v8.2 (x7.2.2.2.length:Int)).bind fun v12 =>
   (yub v12.2).bind fun v13 =>
   (idxO x7.2.2.2 v12.1).bind fun v14 =>
   some ((x7.2.2.2.set (Int.toNat v12.1) v13.1),v13.2)
  else
   some (x7.2.2.2,v8.2)
def yno (v6:(Int×Cu)) (x15:((List Int)×Int×Int×(List Qr)×Int)):Option (((List Int)×Int×Int×(List Qr)×Int) ⊕ ((List Int)×Int×Int×(List Qr))) :=
 if((decide ((x15.2.2.2.1.length:Int)<(w64 ((w64 (7+v6.1))+2))))&&(decide (x15.2.2.2.2<60)))=true then
  (yoa (x15.1,x15.2.1,x15.2.2.1) ([2,3,4,12])).bind fun v18 =>
  (yib v18.2 v18.1).bind fun v19 =>
  (ydd x15.2.2.2.1 v19.1).bind fun v20 =>
  some (.inl (v19.2.1,v19.2.2.1,v19.2.2.2,v20,(w64 (x15.2.2.2.2+1))))
 else
  some (.inr (x15.1,x15.2.1,x15.2.2.1,x15.2.2.2.1))
def yoo  (x21:((List Int)×Int×Int×(List Qr))):Option ((List Qr)×Cu) :=
 (yla (x21.1,x21.2.1,x21.2.2.1) 24).bind fun v22 =>
 if(v22.1==0)=true then
  (guardO (0<=1/\1<=(x21.2.2.2.length:Int))).bind fun u24 =>
  some ((x21.2.2.2.drop (Int.toNat 1)),v22.2)
 else
  if(v22.1==1)=true then
   (yla v22.2 (x21.2.2.2.length:Int)).bind fun v26 =>
   (yub v26.2).bind fun v27 =>
   (idxO x21.2.2.2 v26.1).bind fun v28 =>
   some ((x21.2.2.2.set (Int.toNat v26.1) v27.1),v27.2)
  else
   some (x21.2.2.2,v22.2)
def ypo (v3:(Int×Cu)) (x29:((List Int)×Int×Int×(List Qr)×Int)):Option (((List Int)×Int×Int×(List Qr)×Int) ⊕ ((List Int)×Int×Int×(List Qr))) :=
 if((decide ((x29.2.2.2.1.length:Int)<(w64 (v3.1+2))))&&(decide (x29.2.2.2.2<60)))=true then
  (yoa (x29.1,x29.2.1,x29.2.2.1) ([2,3,4,12])).bind fun v32 =>
  (yib v32.2 v32.1).bind fun v33 =>
  (ydd x29.2.2.2.1 v33.1).bind fun v34 =>
  some (.inl (v33.2.1,v33.2.2.1,v33.2.2.2,v34,(w64 (x29.2.2.2.2+1))))
 else
  some (.inr (x29.1,x29.2.1,x29.2.2.1,x29.2.2.2.1))
def yzk (a0:Cu):Option ((List Qr)×Cu) :=
 (ykb 0).bind fun v1 =>
 (ykb 1).bind fun v2 =>
 (yla a0 5).bind fun v3 =>
 (ysb v3.2 12).bind fun v4 =>
 if v4.1=true then
  (yla v4.2 2).bind fun v6 =>
  (loopO (yno v6) (v6.2.1,v6.2.2.1,v6.2.2.2,[v1,v2],0)).bind fun y16=>ymo y16
 else
  (loopO (ypo v3) (v4.2.1,v4.2.2.1,v4.2.2.2,[v1,v2],0)).bind fun y30=>yoo y30
def yrd (v1:((List Qp)×Cu)) (x2:Cu):Option ((List Qp)×(List Qr)×Cu) :=
 (yzk x2).bind fun v3 =>
 some (v1.1,v3.1,v3.2)
def ylf (a0:Cu):Option ((List Qp)×(List Qr)×Cu) :=
 (ypd a0).bind fun v1 =>
 (yle v1.1).bind fun v4 =>
 (if v4=true then
   (ysb v1.2 4).bind fun v5 =>
   some (v5.2.1,v5.2.2.1,v5.2.2.2,(!v5.1))
  else
   some (v1.2.1,v1.2.2.1,v1.2.2.2,false)).bind fun w6 =>
 if w6.2.2.2=true then
  (ysb (w6.1,w6.2.1,w6.2.2.1) 2).bind fun v8 =>
  (yxd v1.1 v8.1).bind fun v9 =>
  if v9.2=true then
   some (v1.1,v9.1,v8.2)
  else
   yrd v1 v8.2
 else
  yrd v1 (w6.1,w6.2.1,w6.2.2.1)
def yei (a0:Cu) (a1:(List Qp)):Option (Qr×Cu) :=
 (ysb a0 6).bind fun v1 =>
 if v1.1=true then
  (yin v1.2 a1).bind fun v3 =>
  some v3
 else
  (yoa v1.2 ([2,4,8])).bind fun v4 =>
  (yib v4.2 v4.1).bind fun v5 =>
  some v5
def yeh (a0:(List Int)):Option ((List Qp)×(List Qr)×Qr×Int) :=
 (ylf (a0,0,0)).bind fun v1 =>
 (yei v1.2.2 v1.1).bind fun v2 =>
 (yoa v2.2 ([41,(-1)])).bind fun v3 =>
 (yoa v3.2 ([0,1,2,5,20,40,v3.1])).bind fun v4 =>
 some (v1.1,v1.2.1,v2.1,v4.1)
def yxp  (x9:(List Int)):Option ((List Int)×Bool) :=
 some (x9,true)
def ymf (a1:(List Qr)) (v7:(List Qr)) (x10:((List Int)×Int)):Option (((List Int)×Int) ⊕ (List Int)) :=
 if(decide (x10.2<(v7.length:Int)))=true then
  (idxO v7 x10.2).bind fun v13 =>
  (ynm a1 v13).bind fun v14 =>
  (idxO v14 0).bind fun v15 =>
  (guardO (x10.1.length+([v15]).length<=1099511627776)).bind fun u16 =>
  some (.inl ((x10.1++[v15]),(w64 (x10.2+1))))
 else
  some (.inr x10.1)
def ypn (a0:(List Qp)) (a1:(List Qr)) (a2:Qr) (a3:Int):Option ((List Int)×Bool) :=
 (yae a0).bind fun v1 =>
 (if(!v1)=true then
   some true
  else
   (yrc a1).bind fun v2 =>
   if(!v2)=true then
    some true
   else
    (yfm a2).bind fun v3 =>
    if(!v3)=true then
     some true
    else
     (ybf a3 0 40).bind fun v4 =>
     some (!v4)).bind fun w5 =>
 if w5=true then
  some ([],false)
 else
  (ybt a0 a2 a3).bind fun v7 =>
  if(decide ((v7.length:Int)<=a3))=true then
   some ([],false)
  else
   (loopO (ymf a1 v7) ([],0)).bind fun y11=>yxp y11
def yyp  (x8:(List Int)):Option ((List Int)×Bool) :=
 some (x8,true)
def ynf (a0:(List Qp)) (a1:(List Qr)) (x9:(Int×Int×Int×(List Int))):Option ((Int×Int×Int×(List Int)) ⊕ (((List Int)×Bool) ⊕ (List Int))) :=
 if(decide (x9.1>0))=true then
  (ysi a0 (x9.2.1,x9.2.2.1)).bind fun v12 =>
  if(!v12.2)=true then
   some (.inr (.inl ([],false)))
  else
   (ysj a1 v12.1).bind fun v14 =>
   (idxO v14 0).bind fun v15 =>
   (guardO (x9.2.2.2.length+([v15]).length<=1099511627776)).bind fun u16 =>
   some (.inl ((w64 (x9.1-1)),v12.1.1,v12.1.2,(x9.2.2.2++[v15])))
 else
  some (.inr (.inr x9.2.2.2))
def yqn (a0:(List Qp)) (a1:(List Qr)) (a2:Qr) (a3:Int):Option ((List Int)×Bool) :=
 (yqd a0 a1).bind fun v1 =>
 (if(!v1)=true then
   some true
  else
   (yvg a2).bind fun v2 =>
   if(!v2)=true then
    some true
   else
    (yxj a3 0 40).bind fun v3 =>
    some (!v3)).bind fun w4 =>
 if w4=true then
  some ([],false)
 else
  (ysj a1 a2).bind fun v6 =>
  (idxO v6 0).bind fun v7 =>
  (loopO (ynf a0 a1) (a3,a2.1,a2.2,[v7])).bind fun y10=>(Sum.elim (fun p=>some p) (fun p=>yyp p)) y10
def ygg (a0:(List Int)):Option ((List Qp)×(List Qr)×Int) :=
 (ylf (a0,0,0)).bind fun v1 =>
 (yue v1.2.2).bind fun v2 =>
 some (v1.1,v1.2.1,v2.1)
def yfh (v5:((List (List Int))×Bool)) (x6:Int):Option (Int×Bool) :=
 if((!v5.2)||(decide (x6>1000000000)))=true then
  some (0,false)
 else
  some (x6,true)
def yqo (x8:Qr) (x11:Int):Option (Qr ⊕ Int) :=
 some (.inl (x11,(w64 (x8.2+1))))
def yct (v12:(List Int)) (x13:Qr):Option (Qr ⊕ Int) :=
 if(decide (x13.2<(v12.length:Int)))=true then
  (idxO v12 x13.2).bind fun v16 =>
  some (.inl ((w64 (x13.1+v16)),(w64 (x13.2+1))))
 else
  some (.inr x13.1)
def ygh (v5:((List (List Int))×Bool)) (x8:Qr):Option (Qr ⊕ Int) :=
 if(decide (x8.2<(v5.1.length:Int)))=true then
  (idxO v5.1 x8.2).bind fun v12 =>
  (loopO (yct v12) (x8.1,0)).bind fun y14=>yqo x8 y14
 else
  some (.inr x8.1)
def yal (a0:(List Qp)) (a1:(List Qr)) (a2:Int):Option (Int×Bool) :=
 (yxb a0 a1).bind fun v1 =>
 if((!v1.2)||(!v1.1))=true then
  some (0,false)
 else
  (ysc a0 a1).bind fun v3 =>
  if(!v3.2)=true then
   some (0,false)
  else
   (ywh v3.1 a2).bind fun v5 =>
   (loopO (ygh v5) (0,0)).bind fun y9=>yfh v5 y9
def yjk  (x8:Int):Option (Int×Bool) :=
 if(decide (x8>1000000000))=true then
  some (0,false)
 else
  some (x8,true)
def yro (x11:Qr) (x14:Int):Option (Qr ⊕ ((Int×Bool) ⊕ Int)) :=
 some (.inl (x14,(w64 (x11.2+1))))
def ysd (v15:(List Int)) (x16:Qr):Option (Qr ⊕ ((Int×Bool) ⊕ Int)) :=
 if(decide (x16.2<(v15.length:Int)))=true then
  (idxO v15 x16.2).bind fun v19 =>
  if(decide (v19>1000000000))=true then
   some (.inr (.inl (0,false)))
  else
   some (.inl ((w64 (x16.1+v19)),(w64 (x16.2+1))))
 else
  some (.inr (.inr x16.1))
def ytd (v10:(List (List Int))) (x11:Qr):Option (Qr ⊕ ((Int×Bool) ⊕ Int)) :=
 if(decide (x11.2<(v10.length:Int)))=true then
  (idxO v10 x11.2).bind fun v15 =>
  (loopO (ysd v15) (x11.1,0)).bind fun y17=>(Sum.elim (fun p=>some (.inr (.inl p))) (fun p=>yro x11 p)) y17
 else
  some (.inr (.inr x11.1))
def ybl (a0:(List Qp)) (a1:(List Qr)) (a2:Int):Option (Int×Bool) :=
 (yqd a0 a1).bind fun v1 =>
 (if(!v1)=true then
   some true
  else
   (yrl a2).bind fun v2 =>
   some (!v2)).bind fun w3 =>
 if w3=true then
  some (0,false)
 else
  (yqj a0 a1).bind fun v5 =>
  if((!v5.1)||(!v5.2))=true then
   some (0,false)
  else
   (yrj a0 a1).bind fun v7 =>
   (yeo v7.1 a2).bind fun v10 =>
   (loopO (ytd v10) (0,0)).bind fun y12=>(Sum.elim (fun p=>some p) (fun p=>yjk p)) y12
def laws_FnMarkov_k1 (a1:(List Int)) (x9:Unit):Option Bool :=
 (yeh a1).bind fun v10 =>
 (ypn v10.1 v10.2.1 v10.2.2.1 v10.2.2.2).bind fun v11 =>
 (yqn v10.1 v10.2.1 v10.2.2.1 v10.2.2.2).bind fun v12 =>
 (if(!(v11.2==v12.2))=true then
   some true
  else
   (ymj v11.1 v12.1).bind fun v13 =>
   if(!v13)=true then
    some true
   else
    if v11.2=true then
     some ((v12.1.length:Int) != (w64 (v10.2.2.2+1)))
    else
     some false).bind fun w14 =>
 if w14=true then
  some false
 else
  (ygg a1).bind fun v16 =>
  (yal v16.1 v16.2.1 v16.2.2).bind fun v17 =>
  (ybl v16.1 v16.2.1 v16.2.2).bind fun v18 =>
  if((!(v17.2==v18.2))||(v17.1 != v18.1))=true then
   some false
  else
   if v17.2=true then
    (ysc v16.1 v16.2.1).bind fun v21 =>
    (yyd v16.1 v16.2.1).bind fun v22 =>
    (yki v21.1 v16.2.2).bind fun v23 =>
    (if(!v21.2)=true then
      some true
     else
      if(!v22.2)=true then
       some true
      else
       (yuh v21.1 v22.1).bind fun v24 =>
       if(!v24)=true then
        some true
       else
        if(!v23.2)=true then
         some true
        else
         some (v23.1 != v18.1)).bind fun w25 =>
    if w25=true then
     some false
    else
     some true
   else
    some true
def laws_FnMarkov_k2 (x37:Int) (x40:Unit):Option (Int ⊕ (Bool ⊕ Unit)) :=
 some (.inl (w64 (x37+1)))
def laws_FnMarkov_b2 (v47:((List Int)×Bool)) (v51:(List Int)) (v52:Int) (x53:Int):Option (Int ⊕ (Bool ⊕ Unit)) :=
 if(decide (x53<(v47.1.length:Int)))=true then
  (idxO v47.1 x53).bind fun v56 =>
  (if(decide (v52>0))=true then
    if((v47.1.length:Int)==1)=true then
     (idxO v51 v56).bind fun v57 =>
     some (v57 != 1)
    else
     some false
   else
    some false).bind fun w58 =>
  if w58=true then
   some (.inr (.inl false))
  else
   some (.inl (w64 (x53+1)))
 else
  some (.inr (.inr ()))
def laws_FnMarkov_b1 (v3:((List Qp)×Bool)) (v4:((List Qr)×Bool)) (v5:((List Qr)×Bool)) (v32:((List (List Int))×Bool)) (x37:Int):Option (Int ⊕ (Bool ⊕ Unit)) :=
 if(decide (x37<(v32.1.length:Int)))=true then
  (idxO v5.1 x37).bind fun v41 =>
  (idxO v5.1 (w64 (x37+1))).bind fun v42 =>
  (yqp v41 v42).bind fun v43 =>
  (ywl v3.1 v43.1).bind fun v44 =>
  if((!v43.2)||(!v44.2))=true then
   laws_FnMarkov_k2 x37 ()
  else
   (yrp v4.1 v44.1).bind fun v46 =>
   (ysp v5.1 v44.1).bind fun v47 =>
   (if(!v46.2)=true then
     some true
    else
     if(!v47.2)=true then
      some true
     else
      (ymj v46.1 v47.1).bind fun v48 =>
      some (!v48)).bind fun w49 =>
   if w49=true then
    some (.inr (.inl false))
   else
    (idxO v32.1 x37).bind fun v51 =>
    (yez v51).bind fun v52 =>
    (loopO (laws_FnMarkov_b2 v47 v51 v52) 0).bind fun y54=>(Sum.elim (fun p=>some (.inr (.inl p))) (fun p=>laws_FnMarkov_k2 x37 p)) y54
 else
  some (.inr (.inr ()))
def laws_FnMarkov (a0:(List Int)) (a1:(List Int)):Option Bool :=
 (yqg1 a0 a1).bind fun v1 =>
 if v1=true then
  some true
 else
  (ymd a0).bind fun v3 =>
  (yid v3.1 v3.2).bind fun v4 =>
  (yfg v3.1 v3.2).bind fun v5 =>
  (if(!(v4.2==v5.2))=true then
    some true
   else
    (ygn v4.1 v5.1).bind fun v6 =>
    some (!v6)).bind fun w7 =>
  if w7=true then
   some false
  else
   if v4.2=true then
    (yfe v3.1 v4.1).bind fun v28 =>
    (yxb v3.1 v4.1).bind fun v29 =>
    (ykd v3.1 v5.1).bind fun v30 =>
    (ysc v3.1 v4.1).bind fun v31 =>
    (yyd v3.1 v5.1).bind fun v32 =>
    (if(!v28.2)=true then
      some true
     else
      if(!v28.1)=true then
       some true
      else
       if(!(v29.2==v30.2))=true then
        some true
       else
        if(!(v29.1==v30.1))=true then
         some true
        else
         if v3.2=true then
          if(!v30.1)=true then
           some true
          else
           if(!(v31.2==v32.2))=true then
            some true
           else
            (yuh v31.1 v32.1).bind fun v33 =>
            if(!v33)=true then
             some true
            else
             if(!v32.2)=true then
              some true
             else
              (ybh v4.1).bind fun v34 =>
              some (!v34)
         else
          if(!(v31.2==v32.2))=true then
           some true
          else
           (yuh v31.1 v32.1).bind fun v33 =>
           if(!v33)=true then
            some true
           else
            if(!v32.2)=true then
             some true
            else
             (ybh v4.1).bind fun v34 =>
             some (!v34)).bind fun w35 =>
    if w35=true then
     some false
    else
     (loopO (laws_FnMarkov_b1 v3 v4 v5 v32) 0).bind fun y38=>(Sum.elim (fun p=>some p) (fun p=>laws_FnMarkov_k1 a1 p)) y38
   else
    laws_FnMarkov_k1 a1 ()
end
end Go.PV

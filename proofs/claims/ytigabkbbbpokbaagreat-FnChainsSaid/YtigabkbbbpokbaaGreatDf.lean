/-
  Plain definitions of what the functions answer.
  Conditions: none.
-/
import Derived.Test.YtigabkbbbpokbaaGreatPvCx
set_option linter.all false
namespace Go.PV
abbrev sP (l:List Qp):List C:=[.sl none (l.map ePt)]
abbrev oP (n:Nat) (l:List Qp):List C:=[.sl (some n) (l.map ePt)]
abbrev oN (n:Nat):List C:=[.sl (some n) []]
theorem frE (l:List Qp):frR (sP l)=true:=frR1 (yrh1 (fr_P (fr_P fr_I fr_I) (fr_P fr_I fr_I))) rfl
theorem frO (n:Nat) (l:List Qp):frR (oP n l)=false:=rfl
theorem erPt (l:List Qp):eraL (l.map ePt)=l.map ePt:=yua (yku (yku er_I er_I) (yku er_I er_I))
abbrev kN (l:List RV):HH:={call:=some (none,l,true)}
abbrev hB (b:Bool):HH:={g:=some false,pv:=some (.bool b)}
abbrev gFbT:HH:={g:=some false,b:=some true}
abbrev gFbF:HH:={g:=some false,b:=some false}
abbrev nR (a b:Qr):Bool:= !((a.1==b.1)&&(a.2==b.2))
theorem kG {P:Program} {N id:Nat} {ops:List Oper} {b:Code} {l0:LS} {R:Prop} {Q:Ex->LS->Prop} (l1:LS) (hs:List (Nat×HH)) (ho:R) (hq:OkL P N b l1 Q) (e:(xGo P ops hs l0 l1).map (fun p=>(p.1,allP p.2))=some (l1,R):=by kernel_rfl):OkL P N (.seq (.region id ops.toArray false) b) l0 Q:=yza (r_gq l1 hs ho e) hq
abbrev zR:List C:=[rI 0,rI 0]
abbrev gC (a:List Arg) (v:List RV):HH:={g:=some false,call:=some (some a,v,true)}
abbrev gN (v:List RV):HH:={g:=some false,call:=some (none,v,true)}
abbrev cS (a:List Arg) (v:List RV):HH:={call:=some (some a,v,true)}
abbrev lNt (v:List RV) (x:SV):HH:={lend:=some (none,v,x,true)}
abbrev lNf (v:List RV) (x:SV):HH:={lend:=some (none,v,x,false)}
theorem lnP (l:List Qp):(l.map ePt).length=l.length:=List.length_map ..
theorem tT:true=true:=rfl
theorem fF:false=false:=rfl
theorem wkk {l l':LS} (h1:refsOk l'=true:=by kernel_rfl) (h2:readL (ofL l) l'=l':=by kernel_rfl):wk l l':=yry1 h1 h2
noncomputable section
abbrev eL {α:Type} (n:Nat) (F:α->List C) (l:List α):List C:=[.sl (some n) (l.map F)]
abbrev fL {α:Type} (F:α->List C) (l:List α):List C:=[.sl none (l.map F)]
abbrev dP (n:Nat) (l:List Qp):Nat×SV:=(n,.d false (sP l))
abbrev dL {α:Type} (n:Nat) (F:α->List C) (l:List α):Nat×SV:=(n,.d false (fL F l))
abbrev vP (n k:Nat) (l:List Qp):Nat×SV:=(n,.ov false (oP k l))
abbrev vL {α:Type} (n k:Nat) (F:α->List C) (l:List α):Nat×SV:=(n,.ov false (eL k F l))
abbrev vN (n k:Nat):Nat×SV:=(n,.ov false (oN k))
abbrev pI (n:Nat) (x:Int):Nat×SV:=(n,.p (iV x))
abbrev pL {α:Type} (n:Nat) (l:List α):Nat×SV:=(n,.p (iV (l.length:Int)))
abbrev pB (n:Nat) (b:Bool):Nat×SV:=(n,.p (.bool b))
abbrev bR (n:Nat) (x:Qr):Nat×SV:=(n,.box (eRt x))
abbrev bP (n:Nat) (x:Qp):Nat×SV:=(n,.box (ePt x))
abbrev bC (n:Nat) (x:Cu):Nat×SV:=(n,.box (eCu x))
abbrev bX (n:Nat) (l:List C):Nat×SV:=(n,.box l)
abbrev rF (n r:Nat):Nat×SV:=(n,.ref r [(0,0)] none)
abbrev zQ:List C:=[rI 0,rI 0,rI 0,rI 0]
abbrev hR (n:Nat) (l:List C):Nat×HH:=(n,{row:=some l})
abbrev hN {α:Type} (n:Nat) (l:List α):Nat×HH:=(n,{n:=some l.length})
abbrev hC (n:Nat) (l:List RV):Nat×HH:=(n,kN l)
abbrev hT (n:Nat) (v:List RV) (x:SV):Nat×HH:=(n,lNt v x)
abbrev hF (n:Nat) (v:List RV) (x:SV):Nat×HH:=(n,lNf v x)
abbrev rO {α:Type} (k:Nat) (F:α->List C) (l:List α):RV:=.ov false (eL k F l)
theorem lF {α:Type} (F:α->List C) (l:List α):(l.map F).length=l.length:=List.length_map ..
theorem sR' (k:Nat) (l:List Qr):List.all [rO k eRt l] simpleR=true:=sa_o (wnR1 (yge (wn_P wn_I wn_I)) rfl) rfl
theorem gW {α:Type} {xs:List α} {i:Int} {v:α} (k:Nat) (F:α->List C) (h:idxO xs i=some v):getRow [eL k F xs] [(0,0),((Int.toNat i),0)]=some (F v):=(gr0 rfl).trans (gre (yca F (yba h).2))
theorem aP' {α:Type} (k:Nat) (F:α->List C) (l m:List α):SV.ov false [.sl (some k) (l.map F++m.map F)]=.ov false (eL k F (l++m)):=congrArg (fun z=>SV.ov false [.sl (some k) z]) (List.map_append ..).symm
theorem lG' {α:Type} {l m:List α} {u:Unit} (F:α->List C) (h:guardO (l.length+m.length<=1099511627776)=some u):List.length ((l.map F):List (List C))+List.length ((m.map F):List (List C))<=1099511627776:=(by have hg:=yla h;simpa using hg)
theorem kI {P:Program} {N:Nat} {c:Operand} {x y:Code} {l:LS} {Q:Ex->LS->Prop} {E:Bool} {α:Type} {a b:Option α} {r:α} (h:(if E=true then a else b)=some r) (h1:E=true->a=some r->OkL P N x l Q) (h2:E=false->b=some r->OkL P N y l Q) (hc:evS (ofL l) c=.p (.bool E):=by kernel_rfl):OkL P N (.cond c x y) l Q:=kc E (fun q=>h1 q (yrh q h)) (fun q=>h2 q (ysh q h)) hc
attribute [simp] pI pL pB
def yoo (a0:Int) (a1:Int) (a2:Int):Option Bool :=
 some ((decide (a0>=a1))&&(decide (a0<=a2)))
def ycl (a0:Int) (a1:Int) (a2:Int):Option Bool :=
 some ((decide (a1<=a0))&&(decide (a0<=a2)))
def ygu (a0:Int) (a1:Int):Option Int :=
 if(decide (a0>a1))=true then
  some a0
 else
  some a1
def yip (a0:Int):Option Int :=
 (ygu a0 (w64 (0-a0))).bind fun v1 =>
 some v1
def yjp  (x1:Int):Option Int :=
 some x1
def ywi  (x2:Qr):Option (Qr ⊕ Int) :=
 if(decide (x2.2>0))=true then
  (guardO (x2.2≠0)).bind fun u5 =>
  some (.inl (x2.2,(Int.tmod x2.1 x2.2)))
 else
  some (.inr x2.1)
def ydl (a0:Int) (a1:Int):Option Int :=
 (loopO ywi (a0,a1)).bind fun y3=>yjp y3
def yuo (a0:Qr):Option Bool :=
 (yoo a0.2 1 1000000000).bind fun v1 =>
 (if v1=true then
   (yoo a0.1 (-1000000000) 1000000000).bind fun v2 =>
   if v2=true then
    (yip a0.1).bind fun v3 =>
    (ydl v3 a0.2).bind fun v4 =>
    some (v4==1)
   else
    some false
  else
   some false).bind fun w5 =>
 some w5
def yrj1 (a0:Int) (a1:Int):Option Int :=
 if(a1==0)=true then
  some 0
 else
  (guardO (a1≠0)).bind fun u2 =>
  if(decide ((Int.tmod a0 a1)<0))=true then
   some (w64 ((w64 (Int.tdiv a0 a1))-1))
  else
   some (w64 (Int.tdiv a0 a1))
def ybh1 (a0:Qr):Option Int :=
 (yrj1 a0.1 a0.2).bind fun v1 =>
 some v1
def yhx (a0:Int):Option Int :=
 if(decide (a0<0))=true then
  some (w64 (0-a0))
 else
  some a0
def ype  (x3:Int):Option Int :=
 some x3
def ycd  (x4:Qr):Option (Qr ⊕ Int) :=
 if(x4.2 != 0)=true then
  (guardO (x4.2≠0)).bind fun u7 =>
  some (.inl (x4.2,(Int.tmod x4.1 x4.2)))
 else
  some (.inr x4.1)
def yfd (a0:Int) (a1:Int):Option Int :=
 (yhx a0).bind fun v1 =>
 (yhx a1).bind fun v2 =>
 (loopO ycd (v1,v2)).bind fun y5=>ype y5
def ykp (a0:Qr):Option Bool :=
 (ycl a0.2 1 1000000000).bind fun v1 =>
 (if v1=true then
   (ycl a0.1 (-1000000000) 1000000000).bind fun v2 =>
   if v2=true then
    (yfd a0.1 a0.2).bind fun v3 =>
    some (v3==1)
   else
    some false
  else
   some false).bind fun w4 =>
 some w4
def yxi (a0:Qr) (a1:Qr):Option Int :=
 if(decide ((w64 (a0.1*a1.2))<(w64 (a1.1*a0.2))))=true then
  some (-1)
 else
  if(decide ((w64 (a0.1*a1.2))>(w64 (a1.1*a0.2))))=true then
   some 1
  else
   some 0
def ypf (a0:Qr) (a1:Qr):Option Bool :=
 (yxi a0 a1).bind fun v1 =>
 some (decide (v1<0))
def yyz (a0:Int) (a1:Int):Option Int :=
 (guardO (a1≠0)).bind fun u1 =>
 if(decide ((Int.tmod a0 a1)<0))=true then
  some (w64 ((w64 (Int.tdiv a0 a1))-1))
 else
  some (w64 (Int.tdiv a0 a1))
def yln1 (a0:Qr):Option Int :=
 (yyz a0.1 a0.2).bind fun v1 =>
 some v1
def yms (a0:Qr):Option Qr :=
 some ((w64 (0-a0.1)),a0.2)
def yuq  (x1:Unit):Option Bool :=
 some true
def ydk (a0:(List Qr)) (x2:Int):Option (Int ⊕ (Bool ⊕ Unit)) :=
 if(decide (x2<(a0.length:Int)))=true then
  (idxO a0 x2).bind fun v5 =>
  (ykp v5).bind fun v6 =>
  if(!v6)=true then
   some (.inr (.inl false))
  else
   some (.inl (w64 (x2+1)))
 else
  some (.inr (.inr ()))
def ywk (a0:(List Qr)):Option Bool :=
 (loopO (ydk a0) 0).bind fun y3=>(Sum.elim (fun p=>some p) (fun p=>yuq p)) y3
def ykj (a0:Int) (a1:Int) (x2:Int):Option (Qr×Bool) :=
 (guardO (x2≠0)).bind fun u3 =>
 (ykp ((w64 (Int.tdiv a0 x2)),(w64 (Int.tdiv a1 x2)))).bind fun v4 =>
 if(!v4)=true then
  some ((0,0),false)
 else
  some (((w64 (Int.tdiv a0 x2)),(w64 (Int.tdiv a1 x2))),true)
def yfn (a0:Int) (a1:Int):Option (Qr×Bool) :=
 (yfd a0 a1).bind fun v1 =>
 if(decide (a1<0))=true then
  ykj a0 a1 (w64 (0-v1))
 else
  ykj a0 a1 v1
def yxk (a0:Qr) (a1:Qr):Option (Qr×Bool) :=
 (ywk ([a0,a1])).bind fun v1 =>
 if(!v1)=true then
  some ((0,0),false)
 else
  (yfn (w64 ((w64 (a0.1*a1.2))+(w64 (a1.1*a0.2)))) (w64 (a0.2*a1.2))).bind fun v3 =>
  some v3
def yuh (a0:Qr) (a1:Qr):Option (Qr×Bool) :=
 (yms a1).bind fun v1 =>
 (yxk a0 v1).bind fun v2 =>
 some v2
def ygn  (x2:(List (List Int))):Option (List (List Int)) :=
 some x2
def ylg (a0:Int) (x3:((List (List Int))×Int)):Option (((List (List Int))×Int) ⊕ (List (List Int))) :=
 if(decide (x3.2<((List.replicate (Int.toNat a0) ([]:(List Int))).length:Int)))=true then
  (idxO x3.1 x3.2).bind fun v6 =>
  some (.inl ((x3.1.set (Int.toNat x3.2) (List.replicate (Int.toNat a0) (0:Int))),(w64 (x3.2+1))))
 else
  some (.inr x3.1)
def ydg (a0:Int):Option (List (List Int)) :=
 (guardO (0<=a0/\a0<=1099511627776)).bind fun u1 =>
 (loopO (ylg a0) ((List.replicate (Int.toNat a0) ([]:(List Int))),0)).bind fun y4=>ygn y4
def yjo  (x3:(List (List Int))):Option (List (List Int)) :=
 some x3
def ynk (x4:((List (List Int))×Int)) (x7:(List (List Int))):Option (((List (List Int))×Int) ⊕ (List (List Int))) :=
 some (.inl (x7,(w64 (x4.2+1))))
def yok (x4:((List (List Int))×Int)) (x9:(List (List Int))):Option (((List (List Int))×Int) ⊕ (List (List Int))) :=
 ynk x4 x9
def ypk (x10:((List (List Int))×Int)) (x13:(List (List Int))):Option (((List (List Int))×Int) ⊕ (List (List Int))) :=
 some (.inl (x13,(w64 (x10.2+1))))
def yqk (x15:((List (List Int))×Int)) (x18:(List (List Int))):Option (((List (List Int))×Int) ⊕ (List (List Int))) :=
 some (.inl (x18,(w64 (x15.2+1))))
def yxe (a2:Int) (x10:((List (List Int))×Int)) (v19:Int) (v20:(List Int)) (x21:((List (List Int))×Int)):Option (((List (List Int))×Int) ⊕ (List (List Int))) :=
 if(decide (x21.2<(v20.length:Int)))=true then
  (idxO v20 x21.2).bind fun v24 =>
  (idxO x21.1 x10.2).bind fun v25 =>
  (idxO v25 x21.2).bind fun v26 =>
  some (.inl ((x21.1.set (Int.toNat x10.2) (v25.set (Int.toNat x21.2) (if a2<(w64 (v26+(w64 (v19*v24)))) then a2 else(w64 (v26+(w64 (v19*v24))))))),(w64 (x21.2+1))))
 else
  some (.inr x21.1)
def yye (a0:(List (List Int))) (a2:Int) (x10:((List (List Int))×Int)) (v14:(List Int)) (x15:((List (List Int))×Int)):Option (((List (List Int))×Int) ⊕ (List (List Int))) :=
 if(decide (x15.2<(v14.length:Int)))=true then
  (idxO v14 x15.2).bind fun v19 =>
  (idxO a0 x15.2).bind fun v20 =>
  (loopO (yxe a2 x10 v19 v20) (x15.1,0)).bind fun y22=>yqk x15 y22
 else
  some (.inr x15.1)
def yze (a0:(List (List Int))) (a2:Int) (x4:((List (List Int))×Int)) (x10:((List (List Int))×Int)):Option (((List (List Int))×Int) ⊕ (List (List Int))) :=
 if(decide (x10.2<(x4.1.length:Int)))=true then
  (idxO x4.1 x10.2).bind fun v14 =>
  (loopO (yye a0 a2 x10 v14) (x10.1,0)).bind fun y16=>ypk x10 y16
 else
  some (.inr x10.1)
def yaf (a0:(List (List Int))) (a1:Int) (a2:Int) (x4:((List (List Int))×Int)):Option (((List (List Int))×Int) ⊕ (List (List Int))) :=
 if(decide (x4.2<a1))=true then
  (ydg (a0.length:Int)).bind fun v8 =>
  (loopO (yze a0 a2 x4) (v8,0)).bind fun y11=>yok x4 y11
 else
  some (.inr x4.1)
def yrk (a0:(List (List Int))) (a1:Int) (a2:Int) (x2:(List (List Int))):Option (List (List Int)) :=
 (loopO (yaf a0 a1 a2) (x2,0)).bind fun y5=>yjo y5
def yvh (v1:(List (List Int))) (x27:((List (List Int))×Int)):Option (((List (List Int))×Int) ⊕ (List (List Int))) :=
 if(decide (x27.2<(v1.length:Int)))=true then
  (idxO x27.1 x27.2).bind fun v30 =>
  (idxO v30 x27.2).bind fun v31 =>
  some (.inl ((x27.1.set (Int.toNat x27.2) (v30.set (Int.toNat x27.2) 1)),(w64 (x27.2+1))))
 else
  some (.inr x27.1)
def ytl (a0:(List (List Int))) (a1:Int) (a2:Int):Option (List (List Int)) :=
 (ydg (a0.length:Int)).bind fun v1 =>
 (loopO (yvh v1) (v1,0)).bind fun y28=>yrk a0 a1 a2 y28
def ybb1 (a0:Int) (a1:Int):Option Qr :=
 some ((IntKind.wrap .u64 ((IntKind.wrap .u64 ((IntKind.wrap .u64 ((ishr .u64 a0 32)*(ishr .u64 a1 32)))+(ishr .u64 (IntKind.wrap .u64 ((IntKind.wrap .u64 ((ishr .u64 a0 32)*(iand .u64 a1 4294967295)))+(ishr .u64 (IntKind.wrap .u64 ((iand .u64 a0 4294967295)*(iand .u64 a1 4294967295))) 32))) 32)))+(ishr .u64 (IntKind.wrap .u64 ((iand .u64 (IntKind.wrap .u64 ((IntKind.wrap .u64 ((ishr .u64 a0 32)*(iand .u64 a1 4294967295)))+(ishr .u64 (IntKind.wrap .u64 ((iand .u64 a0 4294967295)*(iand .u64 a1 4294967295))) 32))) 4294967295)+(IntKind.wrap .u64 ((iand .u64 a0 4294967295)*(ishr .u64 a1 32))))) 32))),(IntKind.wrap .u64 (a0*a1)))
def yar1 (a0:Int) (a1:Int):Option Qr :=
 (ybb1 a0 a1).bind fun v2 =>
 some v2
def yqn  (x1:Int):Option Int :=
 some x1
def yvq  (x2:(Int×Int×Int)):Option ((Int×Int×Int) ⊕ (Int ⊕ Int)) :=
 if(decide (x2.2.2<=x2.1))=true then
  (guardO (x2.2.2≠0)).bind fun u5 =>
  if((Int.tmod x2.1 x2.2.2)==0)=true then
   if((Int.tmod (w64 (Int.tdiv x2.1 x2.2.2)) x2.2.2)==0)=true then
    some (.inr (.inl 0))
   else
    some (.inl ((w64 (Int.tdiv x2.1 x2.2.2)),(w64 (0-x2.2.1)),(w64 (x2.2.2+1))))
  else
   some (.inl (x2.1,x2.2.1,(w64 (x2.2.2+1))))
 else
  some (.inr (.inr x2.2.1))
def yhn (a0:Int):Option Int :=
 (loopO yvq (a0,1,2)).bind fun y3=>(Sum.elim (fun p=>some p) (fun p=>yqn p)) y3
def ylj (a0:Int) (a1:Int) (x5:Int):Option (Qr×Bool) :=
 (guardO (x5≠0)).bind fun u6 =>
 (yuo ((w64 (Int.tdiv a0 x5)),(w64 (Int.tdiv a1 x5)))).bind fun v7 =>
 if(!v7)=true then
  some ((0,0),false)
 else
  some (((w64 (Int.tdiv a0 x5)),(w64 (Int.tdiv a1 x5))),true)
def yob (a0:Int) (a1:Int):Option (Qr×Bool) :=
 if(a1==0)=true then
  some ((0,0),false)
 else
  (yip a0).bind fun v2 =>
  (yip a1).bind fun v3 =>
  (ydl v2 v3).bind fun v4 =>
  if(decide (a1<0))=true then
   ylj a0 a1 (w64 (0-v4))
  else
   ylj a0 a1 v4
def yel (a0:Int):Option Int :=
 if(decide (a0>0))=true then
  some 1
 else
  if(decide (a0<0))=true then
   some (-1)
  else
   some 0
def yqb (a0:Qr) (a1:Qr):Option Int :=
 (yel (w64 ((w64 (a0.1*a1.2))-(w64 (a1.1*a0.2))))).bind fun v1 =>
 some v1
def yhu (a0:Qr) (a1:Qr):Option Qr :=
 (yqb a0 a1).bind fun v1 =>
 if(decide (v1<0))=true then
  some a0
 else
  some a1
def ypo (a0:Qr) (a1:Qr):Option Qr :=
 (yqb a0 a1).bind fun v1 =>
 if(decide (v1<0))=true then
  some a1
 else
  some a0
def ypb (a0:Int):Option Qr :=
 some (a0,1)
def ybf (a0:Qr):Option Bool :=
 (yuo a0).bind fun v1 =>
 (if v1=true then
   (yoo a0.1 0 a0.2).bind fun v2 =>
   some v2
  else
   some false).bind fun w3 =>
 some w3
def yin (a0:Qr):Option Bool :=
 (ybf a0).bind fun v1 =>
 some (v1&&(decide (a0.2<=100)))
def ywq  (x1:Int):Option Int :=
 some x1
def yek (a0:(List Qp)) (a1:Qr) (x2:Int):Option (Int ⊕ Int) :=
 (if(decide ((w64 (x2+2))<(a0.length:Int)))=true then
   (idxO a0 (w64 (x2+1))).bind fun v4 =>
   (yqb v4.1 a1).bind fun v5 =>
   some (decide (v5<0))
  else
   some false).bind fun w6 =>
 if w6=true then
  some (.inl (w64 (x2+1)))
 else
  some (.inr x2)
def ylp (a0:(List Qp)) (a1:Qr):Option Int :=
 (loopO (yek a0 a1) 0).bind fun y3=>ywq y3
def yun (a0:Qr) (a1:Qr):Option (Qr×Bool) :=
 (yob (w64 ((w64 (a0.1*a1.2))-(w64 (a1.1*a0.2)))) (w64 (a0.2*a1.2))).bind fun v1 =>
 some v1
def ymr (a0:Qr) (a1:Qr):Option (Qr×Bool) :=
 if(a1.1==0)=true then
  some ((0,0),false)
 else
  (yob (w64 (a0.1*a1.2)) (w64 (a0.2*a1.1))).bind fun v2 =>
  some v2
def ynh (a0:Qp) (a1:Qp):Option Qr :=
 (yun a1.2 a0.2).bind fun v1 =>
 (yun a1.1 a0.1).bind fun v2 =>
 (ymr v1.1 v2.1).bind fun v3 =>
 some v3.1
def ymp (a0:Qr) (a1:Qr):Option (Qr×Bool) :=
 (yob (w64 (a0.1*a1.1)) (w64 (a0.2*a1.2))).bind fun v1 =>
 some v1
def ynr (a0:Qr) (a1:Qr):Option (Qr×Bool) :=
 (yob (w64 ((w64 (a0.1*a1.2))+(w64 (a1.1*a0.2)))) (w64 (a0.2*a1.2))).bind fun v1 =>
 some v1
def yry (a0:Qp) (a1:Qp) (a2:Qr):Option (Qr×Bool) :=
 (yun a2 a0.1).bind fun v1 =>
 (ynh a0 a1).bind fun v2 =>
 (ymp v1.1 v2).bind fun v3 =>
 if((!v1.2)||(!v3.2))=true then
  some ((0,0),false)
 else
  (ynr a0.2 v3.1).bind fun v5 =>
  some v5
def yul (a0:(List Qp)) (a1:Qr):Option (Qr×Bool) :=
 (ylp a0 a1).bind fun v1 =>
 (idxO a0 v1).bind fun v2 =>
 (idxO a0 (w64 (v1+1))).bind fun v3 =>
 (yry v2 v3 a1).bind fun v4 =>
 some v4
def yjq :Option Qr :=
 some (0,1)
def yiu :Option Qr :=
 some (1,1)
def yva  (x1:Unit):Option Int :=
 some (-1)
def yia (a0:(List Qp)) (a1:Qp->Option Bool) (x2:Int):Option (Int ⊕ (Int ⊕ Unit)) :=
 if(decide (x2<(a0.length:Int)))=true then
  (idxO a0 x2).bind fun v5 =>
  (a1 v5).bind fun v6 =>
  if v6=true then
   some (.inr (.inl x2))
  else
   some (.inl (w64 (x2+1)))
 else
  some (.inr (.inr ()))
def yha (a0:(List Qp)) (a1:(Qp->Option Bool)):Option Int :=
 (loopO (yia a0 a1) 0).bind fun y3=>(Sum.elim (fun p=>some p) (fun p=>yva p)) y3
def ywa (a0:(List Qp)) (a1:(Qp->Option Bool)):Option Bool :=
 (yha a0 a1).bind fun v1 =>
 some (decide (v1>=0))
def yvo (a0:Qr):Option Bool :=
 (ykp a0).bind fun v1 =>
 some (v1&&((decide (a0.1>=0))&&(decide (a0.1<=a0.2))))
def yjn (a0:Qr):Option Bool :=
 (yvo a0).bind fun v1 =>
 some (v1&&(decide (a0.2<=100)))
def yqf (a0:Bool) (a1:Qr) (a2:Bool):Option (Qr×Bool) :=
 if(!a2)=true then
  (yjq).bind fun v2 =>
  some (v2,true)
 else
  some (a1,a0)
def ych (a0:Bool) (a1:Qr) (a2:Qr):Option (Qr×Bool) :=
 (yuh a1 a2).bind fun v1 =>
 (yqf a0 v1.1 v1.2).bind fun v2 =>
 some v2
def yvl (a0:Qp) (c0:Qr):Option Bool :=
 (ypf a0.1 c0).bind fun v1 =>
 some (!v1)
def ynp (a0:(List Qp)) (a1:Qr):Option Int :=
 (yha a0 (fun x0=>yvl x0 a1)).bind fun v1 =>
 some (if(w64 (v1-1))<0 then 0 else(w64 (v1-1)))
def yfk (a0:Qr) (a1:Qr):Option (Qr×Bool) :=
 (ywk ([a0,a1])).bind fun v1 =>
 if((!v1)||(a1.1==0))=true then
  some ((0,0),false)
 else
  (yfn (w64 (a0.1*a1.2)) (w64 (a0.2*a1.1))).bind fun v3 =>
  some v3
def yfl (a0:Bool) (a1:Qr) (a2:Qr):Option (Qr×Bool) :=
 (yfk a1 a2).bind fun v1 =>
 (yqf a0 v1.1 v1.2).bind fun v2 =>
 some v2
def yeg (a0:Bool) (a1:Qp) (a2:Qp):Option (Qr×Bool) :=
 (ych a0 a2.2 a1.2).bind fun v1 =>
 (ych v1.2 a2.1 a1.1).bind fun v2 =>
 (yfl v2.2 v1.1 v2.1).bind fun v3 =>
 some v3
def ywh (a0:Qr) (a1:Qr):Option (Qr×Bool) :=
 (ywk ([a0,a1])).bind fun v1 =>
 if(!v1)=true then
  some ((0,0),false)
 else
  (yfn (w64 (a0.1*a1.1)) (w64 (a0.2*a1.2))).bind fun v3 =>
  some v3
def yvn (a0:Bool) (a1:Qr) (a2:Qr):Option (Qr×Bool) :=
 (ywh a1 a2).bind fun v1 =>
 (yqf a0 v1.1 v1.2).bind fun v2 =>
 some v2
def ygl (a0:Bool) (a1:Qr) (a2:Qr):Option (Qr×Bool) :=
 (yxk a1 a2).bind fun v1 =>
 (yqf a0 v1.1 v1.2).bind fun v2 =>
 some v2
def ywl (a0:Bool) (a1:Qp) (a2:Qr) (a3:Qr):Option (Qr×Bool) :=
 (ych a0 a3 a1.1).bind fun v1 =>
 (yvn v1.2 a2 v1.1).bind fun v2 =>
 (ygl v2.2 a1.2 v2.1).bind fun v3 =>
 some v3
def yoc (a0:Bool) (a1:(List Qp)) (a2:Qr):Option (Qr×Bool) :=
 (ynp a1 a2).bind fun v1 =>
 (idxO a1 v1).bind fun v2 =>
 (idxO a1 (w64 (v1+1))).bind fun v3 =>
 (yeg a0 v2 v3).bind fun v4 =>
 (ywl v4.2 v2 v4.1 a2).bind fun v5 =>
 some v5
def yor (a0:Qp) (a1:Qp) (a2:Qr):Option (Qr×Bool) :=
 (yun a2 a0.2).bind fun v1 =>
 if(!v1.2)=true then
  some ((0,0),false)
 else
  (ynh a0 a1).bind fun v3 =>
  (ymr v1.1 v3).bind fun v4 =>
  if(!v4.2)=true then
   some ((0,0),false)
  else
   (ynr a0.1 v4.1).bind fun v6 =>
   some v6
def yxl (a0:Bool) (a1:Qp) (a2:Qp) (a3:Qr):Option (Qr×Bool) :=
 (ych a0 a3 a1.2).bind fun v1 =>
 (yeg v1.2 a1 a2).bind fun v2 =>
 (yfl v2.2 v1.1 v2.1).bind fun v3 =>
 (ygl v3.2 a1.1 v3.1).bind fun v4 =>
 some v4
def yqo (a0:(List Qp)) (x3:Unit):Option Bool :=
 (idxO a0 0).bind fun v4 =>
 (ypb 0).bind fun v5 =>
 (yqb v4.1 v5).bind fun v6 =>
 (if(v6==0)=true then
   (idxO a0 (w64 ((a0.length:Int)-1))).bind fun v7 =>
   (ypb 1).bind fun v8 =>
   (yqb v7.1 v8).bind fun v9 =>
   some (v9==0)
  else
   some false).bind fun w10 =>
 some w10
def yyl (a0:(List Qp)) (x11:Int):Option (Int ⊕ (Bool ⊕ Unit)) :=
 if(decide (x11<(a0.length:Int)))=true then
  (idxO a0 x11).bind fun v14 =>
  (yin v14.1).bind fun v15 =>
  (if(!v15)=true then
    some true
   else
    (yin v14.2).bind fun v16 =>
    if(!v16)=true then
     some true
    else
     if(decide (x11>0))=true then
      (idxO a0 (w64 (x11-1))).bind fun v17 =>
      (yqb v17.1 v14.1).bind fun v18 =>
      some (decide (v18>=0))
     else
      some false).bind fun w19 =>
  if w19=true then
   some (.inr (.inl false))
  else
   some (.inl (w64 (x11+1)))
 else
  some (.inr (.inr ()))
def ycf (a0:(List Qp)):Option Bool :=
 (yoo (a0.length:Int) 2 12).bind fun v1 =>
 if(!v1)=true then
  some false
 else
  (loopO (yyl a0) 0).bind fun y12=>(Sum.elim (fun p=>some p) (fun p=>yqo a0 p)) y12
def yop  (x1:(List Qr)):Option (List Qr) :=
 some x1
def yyi (a0:(List Qp)) (x2:((List Qr)×Int)):Option (((List Qr)×Int) ⊕ (List Qr)) :=
 if(decide (x2.2<(a0.length:Int)))=true then
  (idxO a0 (w64 (x2.2-1))).bind fun v5 =>
  (idxO a0 x2.2).bind fun v6 =>
  (ynh v5 v6).bind fun v7 =>
  (guardO (x2.1.length+([v7]).length<=1099511627776)).bind fun u8 =>
  some (.inl ((x2.1++[v7]),(w64 (x2.2+1))))
 else
  some (.inr x2.1)
def ywn (a0:(List Qp)):Option (List Qr) :=
 (loopO (yyi a0) ([],1)).bind fun y3=>yop y3
def yns  (x1:(List (List Int))):Option (List (List Int)) :=
 some x1
def ymj (v2:(List Qr)) (x3:((List (List Int))×Int)):Option (((List (List Int))×Int) ⊕ (List (List Int))) :=
 if(decide (x3.2<(v2.length:Int)))=true then
  (idxO v2 x3.2).bind fun v6 =>
  (yel v6.1).bind fun v7 =>
  (if(decide ((x3.1.length:Int)>0))=true then
    (idxO x3.1 (w64 ((x3.1.length:Int)-1))).bind fun v8 =>
    (idxO v8 2).bind fun v9 =>
    some (v9==v7)
   else
    some false).bind fun w10 =>
  if w10=true then
   (idxO x3.1 (w64 ((x3.1.length:Int)-1))).bind fun v12 =>
   (idxO v12 1).bind fun v13 =>
   some (.inl ((x3.1.set (Int.toNat (w64 ((x3.1.length:Int)-1))) (v12.set (Int.toNat 1) (w64 (x3.2+1)))),(w64 (x3.2+1))))
  else
   (guardO (x3.1.length+([[x3.2,(w64 (x3.2+1)),v7]]).length<=1099511627776)).bind fun u14 =>
   some (.inl ((x3.1++[[x3.2,(w64 (x3.2+1)),v7]]),(w64 (x3.2+1))))
 else
  some (.inr x3.1)
def ypr (a0:(List Qp)):Option (List (List Int)) :=
 (ywn a0).bind fun v2 =>
 (loopO (ymj v2) ([],0)).bind fun y4=>yns y4
def yxq  (x1:(List Qr)):Option (List Qr) :=
 some x1
def yyq (a0:(List Qp)) (v2:(List (List Int))) (x4:((List Qr)×Int)):Option (((List Qr)×Int) ⊕ (List Qr)) :=
 if(decide (x4.2<((v2.drop (Int.toNat 1)).length:Int)))=true then
  (idxO (v2.drop (Int.toNat 1)) x4.2).bind fun v7 =>
  (idxO v7 0).bind fun v8 =>
  (idxO a0 v8).bind fun v9 =>
  (guardO (x4.1.length+([v9.1]).length<=1099511627776)).bind fun u10 =>
  some (.inl ((x4.1++[v9.1]),(w64 (x4.2+1))))
 else
  some (.inr x4.1)
def ypp (a0:(List Qp)):Option (List Qr) :=
 (ypr a0).bind fun v2 =>
 (guardO (0<=1/\1<=(v2.length:Int))).bind fun u3 =>
 (loopO (yyq a0 v2) ([],0)).bind fun y5=>yxq y5
def ykn (a0:Qp):Option Bool :=
 (yjn a0.1).bind fun v1 =>
 (if(!v1)=true then
   some true
  else
   (yjn a0.2).bind fun v2 =>
   some (!v2)).bind fun w3 =>
 some w3
def yav  (x1:(List Qr)):Option (List Qr) :=
 some x1
def yqp (a0:(List Qp)) (x2:((List Qr)×Int)):Option (((List Qr)×Int) ⊕ (List Qr)) :=
 if(decide (x2.2<(a0.length:Int)))=true then
  (idxO a0 x2.2).bind fun v5 =>
  (guardO (x2.1.length+([v5.1]).length<=1099511627776)).bind fun u6 =>
  some (.inl ((x2.1++[v5.1]),(w64 (x2.2+1))))
 else
  some (.inr x2.1)
def ymw (a0:(List Qp)):Option (List Qr) :=
 (loopO (yqp a0) ([],0)).bind fun y3=>yav y3
def yzl  (x1:Unit):Option Bool :=
 some true
def yzi (a0:(List Qr)) (x2:Int):Option (Int ⊕ (Bool ⊕ Unit)) :=
 if(decide (x2<(a0.length:Int)))=true then
  (idxO a0 (w64 (x2-1))).bind fun v5 =>
  (idxO a0 x2).bind fun v6 =>
  (ypf v5 v6).bind fun v7 =>
  if(!v7)=true then
   some (.inr (.inl false))
  else
   some (.inl (w64 (x2+1)))
 else
  some (.inr (.inr ()))
def yxn (a0:(List Qr)):Option Bool :=
 (loopO (yzi a0) 1).bind fun y3=>(Sum.elim (fun p=>some p) (fun p=>yzl p)) y3
def ymg (a0:(List Qp)):Option Bool :=
 (ycl (a0.length:Int) 2 12).bind fun v1 =>
 (if(!v1)=true then
   some true
  else
   (ywa a0 (fun x0=>ykn x0)).bind fun v2 =>
   some v2).bind fun w3 =>
 if w3=true then
  some false
 else
  (idxO a0 0).bind fun v5 =>
  (yjq).bind fun v6 =>
  (if((v5.1.1==v6.1)&&(v5.1.2==v6.2))=true then
    (idxO a0 (w64 ((a0.length:Int)-1))).bind fun v7 =>
    (yiu).bind fun v8 =>
    if((v7.1.1==v8.1)&&(v7.1.2==v8.2))=true then
     (ymw a0).bind fun v9 =>
     (yxn v9).bind fun v10 =>
     some v10
    else
     some false
   else
    some false).bind fun w11 =>
  some w11
def ymd1  (x1:(List Qr)):Option (List Qr) :=
 some x1
def yro (a0:(List Qp)) (x2:(Bool×(List Qr)×Int)):Option ((Bool×(List Qr)×Int) ⊕ (List Qr)) :=
 if(decide (x2.2.2<(a0.length:Int)))=true then
  (idxO a0 (w64 (x2.2.2-1))).bind fun v5 =>
  (idxO a0 x2.2.2).bind fun v6 =>
  (yeg x2.1 v5 v6).bind fun v7 =>
  (guardO (x2.2.1.length+([v7.1]).length<=1099511627776)).bind fun u8 =>
  some (.inl (v7.2,(x2.2.1++[v7.1]),(w64 (x2.2.2+1))))
 else
  some (.inr x2.2.1)
def yix (a0:(List Qp)):Option (List Qr) :=
 (loopO (yro a0) (false,[],1)).bind fun y3=>ymd1 y3
def yic  (x1:Unit):Option Int :=
 some (-1)
def ybb (a0:(List Qr)) (a1:Qr->Option Bool) (x2:Int):Option (Int ⊕ (Int ⊕ Unit)) :=
 if(decide (x2<(a0.length:Int)))=true then
  (idxO a0 x2).bind fun v5 =>
  (a1 v5).bind fun v6 =>
  if v6=true then
   some (.inr (.inl x2))
  else
   some (.inl (w64 (x2+1)))
 else
  some (.inr (.inr ()))
def ygb (a0:(List Qr)) (a1:(Qr->Option Bool)):Option Int :=
 (loopO (ybb a0 a1) 0).bind fun y3=>(Sum.elim (fun p=>some p) (fun p=>yic p)) y3
def ycb (a0:(List Qr)) (a1:(Qr->Option Bool)):Option Bool :=
 (ygb a0 a1).bind fun v1 =>
 some (decide (v1>=0))
def ysy (a0:Qr):Option Int :=
 (yjq).bind fun v1 =>
 (yxi a0 v1).bind fun v2 =>
 some v2
def ych1  (x1:(List (List Int))):Option (List (List Int)) :=
 some x1
def yrp (v2:(List Qr)) (x3:((List (List Int))×Int)):Option (((List (List Int))×Int) ⊕ (List (List Int))) :=
 if(decide (x3.2<(v2.length:Int)))=true then
  (idxO v2 x3.2).bind fun v6 =>
  (if(decide ((w64 ((x3.1.length:Int)-1))>=0))=true then
    (idxO x3.1 (w64 ((x3.1.length:Int)-1))).bind fun v7 =>
    (idxO v7 2).bind fun v8 =>
    (ysy v6).bind fun v9 =>
    some (v8==v9)
   else
    some false).bind fun w10 =>
  if w10=true then
   (idxO x3.1 (w64 ((x3.1.length:Int)-1))).bind fun v12 =>
   (idxO v12 1).bind fun v13 =>
   some (.inl ((x3.1.set (Int.toNat (w64 ((x3.1.length:Int)-1))) (v12.set (Int.toNat 1) (w64 (x3.2+1)))),(w64 (x3.2+1))))
  else
   (ysy v6).bind fun v14 =>
   (guardO (x3.1.length+([[x3.2,(w64 (x3.2+1)),v14]]).length<=1099511627776)).bind fun u15 =>
   some (.inl ((x3.1++[[x3.2,(w64 (x3.2+1)),v14]]),(w64 (x3.2+1))))
 else
  some (.inr x3.1)
def ynd1 (a0:(List Qp)):Option (List (List Int)) :=
 (yix a0).bind fun v2 =>
 (loopO (yrp v2) ([],0)).bind fun y4=>ych1 y4
def ygf1  (x1:(List Qr)):Option (List Qr) :=
 some x1
def yyn (a0:(List Qp)) (v2:(List (List Int))) (x4:((List Qr)×Int)):Option (((List Qr)×Int) ⊕ (List Qr)) :=
 if(decide (x4.2<((v2.drop (Int.toNat 1)).length:Int)))=true then
  (idxO (v2.drop (Int.toNat 1)) x4.2).bind fun v7 =>
  (idxO v7 0).bind fun v8 =>
  (idxO a0 v8).bind fun v9 =>
  (guardO (x4.1.length+([v9.1]).length<=1099511627776)).bind fun u10 =>
  some (.inl ((x4.1++[v9.1]),(w64 (x4.2+1))))
 else
  some (.inr x4.1)
def yhf1 (a0:(List Qp)):Option (List Qr) :=
 (ynd1 a0).bind fun v2 =>
 (guardO (0<=1/\1<=(v2.length:Int))).bind fun u3 =>
 (loopO (yyn a0 v2) ([],0)).bind fun y5=>ygf1 y5
def yae (a0:Cu) (x1:Int):Option (Int×Cu) :=
 if(decide ((w64 (a0.2.1+1))<=(a0.1.length:Int)))=true then
  some (x1,(a0.1,(w64 (a0.2.1+1)),(IntKind.wrap .u64 ((IntKind.wrap .u64 ((IntKind.wrap .u64 (a0.2.2*6364136223846793005))+(IntKind.wrap .u64 x1)))+1442695040888963407))))
 else
  some ((IntKind.wrap .i64 (iand .u64 (ishr .u64 (IntKind.wrap .u64 ((IntKind.wrap .u64 ((IntKind.wrap .u64 (a0.2.2*6364136223846793005))+(IntKind.wrap .u64 x1)))+1442695040888963407)) 40) 255)),(a0.1,(w64 (a0.2.1+1)),(IntKind.wrap .u64 ((IntKind.wrap .u64 ((IntKind.wrap .u64 (a0.2.2*6364136223846793005))+(IntKind.wrap .u64 x1)))+1442695040888963407))))
def yzh (a0:Cu):Option (Int×Cu) :=
 if(decide (a0.2.1<(a0.1.length:Int)))=true then
  (idxO a0.1 a0.2.1).bind fun v4 =>
  yae a0 (IntKind.wrap .i64 v4)
 else
  yae a0 0
def ybe (a1:Int) (x3:((List Int)×Int×Int×Int)):Option (Int×Cu) :=
 (guardO (a1≠0)).bind fun u4 =>
 some ((Int.tmod x3.2.2.2 a1),(x3.1,x3.2.1,x3.2.2.1))
def yka (a0:Cu) (a1:Int):Option (Int×Cu) :=
 if(decide (a1<=1))=true then
  some (0,a0)
 else
  (yzh a0).bind fun v2 =>
  if(decide (a1>200))=true then
   (yzh v2.2).bind fun v6 =>
   ybe a1 (v6.2.1,v6.2.2.1,v6.2.2.2,(w64 ((w64 (v2.1*256))+v6.1)))
  else
   ybe a1 (v2.2.1,v2.2.2.1,v2.2.2.2,v2.1)
def yqa (a0:Cu) (a1:(List Int)):Option (Int×Cu) :=
 (yka a0 (a1.length:Int)).bind fun v1 =>
 (idxO a1 v1.1).bind fun v2 =>
 some (v2,v1.2)
def yfb (a0:Cu) (a1:Int):Option (Bool×Cu) :=
 (yka a0 a1).bind fun v1 =>
 some ((v1.1==0),v1.2)
def yhc (a0:Cu) (a1:Int):Option (Qr×Cu) :=
 (yka a0 (w64 (a1+1))).bind fun v1 =>
 (yob v1.1 a1).bind fun v2 =>
 some (v2.1,v1.2)
def ykq (a0:Qr):Option Qr :=
 some ((w64 (a0.2-a0.1)),a0.2)
def yzn (a0:(List Qr)) (a1:Qr) (x1:Int):Option (List Qr) :=
 (if(decide (x1<(a0.length:Int)))=true then
   (idxO a0 x1).bind fun v2 =>
   some ((v2.1==a1.1)&&(v2.2==a1.2))
  else
   some false).bind fun w3 =>
 if w3=true then
  some a0
 else
  (guardO (0<=x1/\x1<=(a0.length:Int))).bind fun u5 =>
  (guardO ((a0.take (Int.toNat x1)).length<=1099511627776)).bind fun u6 =>
  (guardO ((a0.take (Int.toNat x1)).length+([a1]).length<=1099511627776)).bind fun u7 =>
  (guardO (((a0.take (Int.toNat x1))++[a1]).length+(a0.drop (Int.toNat x1)).length<=1099511627776)).bind fun u8 =>
  some (((a0.take (Int.toNat x1))++[a1])++(a0.drop (Int.toNat x1)))
def yao (a0:(List Qr)) (a1:Qr) (x9:Int):Option (Int ⊕ Int) :=
 (if(decide (x9<(a0.length:Int)))=true then
   (idxO a0 x9).bind fun v11 =>
   (yqb v11 a1).bind fun v12 =>
   some (decide (v12<0))
  else
   some false).bind fun w13 =>
 if w13=true then
  some (.inl (w64 (x9+1)))
 else
  some (.inr x9)
def ytc (a0:(List Qr)) (a1:Qr):Option (List Qr) :=
 (loopO (yao a0 a1) 0).bind fun y10=>yzn a0 a1 y10
def yyk  (x6:((List Int)×Int×Int×(List Qp))):Option ((List Qp)×Cu) :=
 some (x6.2.2.2,(x6.1,x6.2.1,x6.2.2.1))
def yzk (a1:Int) (x5:((List Int)×Int×Int×(List Qr))) (x7:((List Int)×Int×Int×(List Qp)×Int)):Option (((List Int)×Int×Int×(List Qp)×Int) ⊕ ((List Int)×Int×Int×(List Qp))) :=
 if(decide (x7.2.2.2.2<(x5.2.2.2.length:Int)))=true then
  (idxO x5.2.2.2 x7.2.2.2.2).bind fun v10 =>
  (yhc (x7.1,x7.2.1,x7.2.2.1) a1).bind fun v11 =>
  (guardO (x7.2.2.2.1.length+([(v10,v11.1)]).length<=1099511627776)).bind fun u12 =>
  some (.inl (v11.2.1,v11.2.2.1,v11.2.2.2,(x7.2.2.2.1++[(v10,v11.1)]),(w64 (x7.2.2.2.2+1))))
 else
  some (.inr (x7.1,x7.2.1,x7.2.2.1,x7.2.2.2.1))
def yoh (a1:Int) (x5:((List Int)×Int×Int×(List Qr))):Option ((List Qp)×Cu) :=
 (loopO (yzk a1 x5) (x5.1,x5.2.1,x5.2.2.1,[],0)).bind fun y8=>yyk y8
def yal (a1:Int) (x2:((List Int)×Int×Int×Int)) (x13:((List Int)×Int×Int×(List Qr)×Int)):Option (((List Int)×Int×Int×(List Qr)×Int) ⊕ ((List Int)×Int×Int×(List Qr))) :=
 if((decide ((x13.2.2.2.1.length:Int)<(w64 (x2.2.2.2+2))))&&(decide (x13.2.2.2.2<60)))=true then
  (yhc (x13.1,x13.2.1,x13.2.2.1) a1).bind fun v16 =>
  (ytc x13.2.2.2.1 v16.1).bind fun v17 =>
  some (.inl (v16.2.1,v16.2.2.1,v16.2.2.2,v17,(w64 (x13.2.2.2.2+1))))
 else
  some (.inr (x13.1,x13.2.1,x13.2.2.1,x13.2.2.2.1))
def ygd (a1:Int) (x2:((List Int)×Int×Int×Int)):Option ((List Qp)×Cu) :=
 (ypb 0).bind fun v3 =>
 (ypb 1).bind fun v4 =>
 (loopO (yal a1 x2) (x2.1,x2.2.1,x2.2.2.1,[v3,v4],0)).bind fun y14=>yoh a1 y14
def yxh (a0:Cu) (a1:Int):Option ((List Qp)×Cu) :=
 (yqa a0 ([0,1,1,2,3])).bind fun v1 =>
 (yfb v1.2 16).bind fun v18 =>
 if v18.1=true then
  ygd a1 (v18.2.1,v18.2.2.1,v18.2.2.2,10)
 else
  ygd a1 (v18.2.1,v18.2.2.1,v18.2.2.2,v1.1)
def yie  (x3:((List Int)×Int×Int×(List Qp))):Option ((List Qp)×Cu) :=
 some (x3.2.2.2,(x3.1,x3.2.1,x3.2.2.1))
def yam (v1:(Int×Cu)) (v6:(Int×Cu)) (x7:(List Qp)):Option ((List Qp)×Cu) :=
 (yfb v6.2 2).bind fun v8 =>
 if v8.1=true then
  (yhc v8.2 v1.1).bind fun v10 =>
  (idxO x7 1).bind fun v11 =>
  yie (v10.2.1,v10.2.2.1,v10.2.2.2,(x7.set (Int.toNat 1) (v11.1,v10.1)))
 else
  yie (v8.2.1,v8.2.2.1,v8.2.2.2,x7)
def ysp (v6:(Int×Cu)) (x12:((List Qp)×Int)):Option (((List Qp)×Int) ⊕ (List Qp)) :=
 if(decide (x12.2<=v6.1))=true then
  (yob x12.2 v6.1).bind fun v15 =>
  (ypb (Int.tmod x12.2 2)).bind fun v16 =>
  (guardO (x12.1.length+([(v15.1,v16)]).length<=1099511627776)).bind fun u17 =>
  some (.inl ((x12.1++[(v15.1,v16)]),(w64 (x12.2+1))))
 else
  some (.inr x12.1)
def ybo (a0:Cu):Option ((List Qp)×Cu) :=
 (yqa a0 ([1,2,2,3,4,4,6,12,100])).bind fun v1 =>
 (yxh v1.2 v1.1).bind fun v2 =>
 (yfb v2.2 3).bind fun v4 =>
 if v4.1=true then
  (yqa v4.2 ([2,2,3,4])).bind fun v6 =>
  (loopO (ysp v6) ([],0)).bind fun y13=>yam v1 v6 y13
 else
  yie (v4.2.1,v4.2.2.1,v4.2.2.2,v2.1)
def ybm (a0:Cu):Option (Qr×Cu) :=
 (yka a0 41).bind fun v1 =>
 (yka v1.2 2001).bind fun v2 =>
 (yqa v2.2 ([0,1,2,3,(-1),(-5),(w64 (v1.1-20)),(w64 (v2.1-1000)),1000000000,(-1000000000)])).bind fun v3 =>
 (yka v3.2 20).bind fun v4 =>
 (yka v4.2 1000).bind fun v5 =>
 (yqa v5.2 ([1,2,3,4,8,7,(w64 (1+v4.1)),(w64 (1+v5.1)),1000000000,999999999])).bind fun v6 =>
 (yob v3.1 v6.1).bind fun v7 =>
 if(!v7.2)=true then
  (ypb 1).bind fun v9 =>
  some (v9,v6.2)
 else
  some (v7.1,v6.2)
def yqc (a0:Cu):Option (Qr×Cu) :=
 (ybm a0).bind fun v1 =>
 (yka v1.2 40).bind fun v2 =>
 if(v2.1==0)=true then
  (yqa v2.2 ([0,(-1),1000000001])).bind fun v4 =>
  some ((v1.1.1,v4.1),v4.2)
 else
  if(v2.1==1)=true then
   (yqa v2.2 ([1000000001,(-1000000001),(-9223372036854775808)])).bind fun v6 =>
   some ((v6.1,v1.1.2),v6.2)
  else
   if(v2.1==2)=true then
    (yqa v2.2 ([2,0,(-4)])).bind fun v8 =>
    (yqa v8.2 ([2,4,6])).bind fun v9 =>
    some ((v8.1,v9.1),v9.2)
   else
    some (v1.1,v2.2)
def yxb  (x4:((List Int)×Int×Int×(List Qp))):Option ((List Qp)×Cu) :=
 some (x4.2.2.2,(x4.1,x4.2.1,x4.2.2.1))
def ycm (v5:(Int×Cu)) (x16:(List Qp)):Option ((List Qp) ⊕ ((List Int)×Int×Int×(List Qp))) :=
 if(decide ((x16.length:Int)<13))=true then
  (yob (x16.length:Int) 12).bind fun v19 =>
  (ypb 0).bind fun v20 =>
  (guardO (x16.length+([(v19.1,v20)]).length<=1099511627776)).bind fun u21 =>
  some (.inl (x16++[(v19.1,v20)]))
 else
  some (.inr (v5.2.1,v5.2.2.1,v5.2.2.2,x16))
def yje (a0:Cu):Option ((List Qp)×Cu) :=
 (ybo a0).bind fun v1 =>
 (yka v1.2 (v1.1.length:Int)).bind fun v2 =>
 (idxO v1.1 v2.1).bind fun v3 =>
 (yka v2.2 36).bind fun v5 =>
 if(v5.1==0)=true then
  (yqc v5.2).bind fun v7 =>
  yxb (v7.2.1,v7.2.2.1,v7.2.2.2,(v1.1.set (Int.toNat v2.1) (v7.1,v3.2)))
 else
  if(v5.1==1)=true then
   (yqc v5.2).bind fun v9 =>
   yxb (v9.2.1,v9.2.2.1,v9.2.2.2,(v1.1.set (Int.toNat v2.1) (v3.1,v9.1)))
  else
   if(v5.1==2)=true then
    (yka v5.2 50).bind fun v11 =>
    (yob v11.1 101).bind fun v12 =>
    yxb (v11.2.1,v11.2.2.1,v11.2.2.2,(v1.1.set (Int.toNat v2.1) (v3.1,v12.1)))
   else
    if(v5.1==3)=true then
     (guardO (0<=(w64 ((v1.1.length:Int)-1))/\(w64 ((v1.1.length:Int)-1))<=(v1.1.length:Int))).bind fun u14 =>
     yxb (v5.2.1,v5.2.2.1,v5.2.2.2,(v1.1.take (Int.toNat (w64 ((v1.1.length:Int)-1)))))
    else
     if(v5.1==4)=true then
      (loopO (ycm v5) ([])).bind fun y17=>yxb y17
     else
      yxb (v5.2.1,v5.2.2.1,v5.2.2.2,v1.1)
def ymc  (x6:((List Int)×Int×Int×(List Qp))):Option ((List Qp)×Cu) :=
 (yfb (x6.1,x6.2.1,x6.2.2.1) 5).bind fun v7 =>
 if v7.1=true then
  (yka v7.2 3).bind fun v9 =>
  (yob (w64 (1+v9.1)) 4).bind fun v10 =>
  (yka v9.2 6).bind fun v11 =>
  (yob (w64 (3+v11.1)) 8).bind fun v12 =>
  (ypb 0).bind fun v13 =>
  (ypb 0).bind fun v14 =>
  (ypb 1).bind fun v15 =>
  (ypb 0).bind fun v16 =>
  some ([(v13,v14),(v10.1,v12.1),(v15,v16)],v11.2)
 else
  some (x6.2.2.2,v7.2)
def yfi (v17:(Bool×Cu)) (x19:((List Qp)×Int)):Option (((List Qp)×Int) ⊕ ((List Int)×Int×Int×(List Qp))) :=
 if(decide (x19.2<12))=true then
  (yob x19.2 11).bind fun v22 =>
  (ypb (Int.tmod x19.2 2)).bind fun v23 =>
  (guardO (x19.1.length+([(v22.1,v23)]).length<=1099511627776)).bind fun u24 =>
  some (.inl ((x19.1++[(v22.1,v23)]),(w64 (x19.2+1))))
 else
  some (.inr (v17.2.1,v17.2.2.1,v17.2.2.2,x19.1))
def yqe  (x5:((List Int)×Int×Int×(List Qp))):Option ((List Qp)×Cu) :=
 (yfb (x5.1,x5.2.1,x5.2.2.1) 6).bind fun v17 =>
 if v17.1=true then
  (loopO (yfi v17) ([],0)).bind fun y20=>ymc y20
 else
  ymc (v17.2.1,v17.2.2.1,v17.2.2.2,x5.2.2.2)
def yvb (x25:((List Int)×Int×Int×(List Qp)×Int)) (v28:(Qr×Bool)) (x30:((List Int)×Int×Int×Int×Int)):Option (((List Int)×Int×Int×(List Qp)×Int) ⊕ ((List Int)×Int×Int×(List Qp))) :=
 (guardO (x25.2.2.2.1.length+([(v28.1,x30.2.2.2)]).length<=1099511627776)).bind fun u31 =>
 some (.inl (x30.1,x30.2.1,x30.2.2.1,(x25.2.2.2.1++[(v28.1,x30.2.2.2)]),(w64 (x25.2.2.2.2+1))))
def ygi (v4:(Int×Cu)) (x25:((List Int)×Int×Int×(List Qp)×Int)):Option (((List Int)×Int×Int×(List Qp)×Int) ⊕ ((List Int)×Int×Int×(List Qp))) :=
 if(decide (x25.2.2.2.2<=v4.1))=true then
  (yob x25.2.2.2.2 v4.1).bind fun v28 =>
  (yhc (x25.1,x25.2.1,x25.2.2.1) v4.1).bind fun v29 =>
  (if(decide ((x25.2.2.2.1.length:Int)>0))=true then
    (idxO x25.2.2.2.1 (w64 ((x25.2.2.2.1.length:Int)-1))).bind fun v32 =>
    if((v29.1.1==v32.2.1)&&(v29.1.2==v32.2.2))=true then
     (yfb v29.2 8).bind fun v33 =>
     some (v33.2.1,v33.2.2.1,v33.2.2.2,(!v33.1))
    else
     some (v29.2.1,v29.2.2.1,v29.2.2.2,false)
   else
    some (v29.2.1,v29.2.2.1,v29.2.2.2,false)).bind fun w34 =>
  if w34.2.2.2=true then
   (ykq v29.1).bind fun v36 =>
   (idxO x25.2.2.2.1 (w64 ((x25.2.2.2.1.length:Int)-1))).bind fun v37 =>
   if((v36.1==v37.2.1)&&(v36.2==v37.2.2))=true then
    (ypb (Int.tmod x25.2.2.2.2 2)).bind fun v39 =>
    yvb x25 v28 (w34.1,w34.2.1,w34.2.2.1,v39.1,v39.2)
   else
    yvb x25 v28 (w34.1,w34.2.1,w34.2.2.1,v36.1,v36.2)
  else
   yvb x25 v28 (w34.1,w34.2.1,w34.2.2.1,v29.1.1,v29.1.2)
 else
  some (.inr (x25.1,x25.2.1,x25.2.2.1,x25.2.2.2.1))
def yke (a0:Cu):Option ((List Qp)×Cu) :=
 (yfb a0 4).bind fun v1 =>
 if v1.1=true then
  (yje v1.2).bind fun v3 =>
  some v3
 else
  (yqa v1.2 ([2,3,4,4,6])).bind fun v4 =>
  (loopO (ygi v4) (v4.2.1,v4.2.2.1,v4.2.2.2,[],0)).bind fun y26=>yqe y26
def yqr (a0:Qr) (a1:Qr):Option Bool :=
 some (decide ((w64 (a0.1*a1.2))<(w64 (a1.1*a0.2))))
def yod1 (a0:(List Int)) (a1:(List Int)):Option Bool :=
 some ((decide ((a0.length:Int)>1048576))||(decide ((a1.length:Int)>(w64 (1048576-(a0.length:Int))))))
def ydm  (x2:Unit):Option Bool :=
 some true
def yng (a0:(List Int)) (a1:(List Int)) (x3:Int):Option (Int ⊕ (Bool ⊕ Unit)) :=
 if(decide (x3<(a0.length:Int)))=true then
  (idxO a0 x3).bind fun v6 =>
  (idxO a1 x3).bind fun v7 =>
  if(v6 != v7)=true then
   some (.inr (.inl false))
  else
   some (.inl (w64 (x3+1)))
 else
  some (.inr (.inr ()))
def yco (a0:(List Int)) (a1:(List Int)):Option Bool :=
 if((a0.length:Int) != (a1.length:Int))=true then
  some false
 else
  (loopO (yng a0 a1) 0).bind fun y4=>(Sum.elim (fun p=>some p) (fun p=>ydm p)) y4
def yju (a0:Qr) (a1:Qr):Option Qr :=
 (ypf a1 a0).bind fun v1 =>
 if v1=true then
  some a1
 else
  some a0
def yos (a0:Qr) (a1:Qr):Option Qr :=
 (ypf a0 a1).bind fun v1 =>
 if v1=true then
  some a1
 else
  some a0
def yog (a0:Qp):Option Bool :=
 (ybf a0.1).bind fun v1 =>
 (if v1=true then
   (ybf a0.2).bind fun v2 =>
   if v2=true then
    (yqb a0.1 a0.2).bind fun v3 =>
    some (decide (v3<0))
   else
    some false
  else
   some false).bind fun w4 =>
 some w4
def yso (a0:(List Qp)) (x1:Unit):Option Bool :=
 (yoo (a0.length:Int) 1 8).bind fun v2 =>
 some v2
def yem (a0:(List Qp)) (x3:Int):Option (Int ⊕ (Bool ⊕ Unit)) :=
 if(decide (x3<(a0.length:Int)))=true then
  (idxO a0 x3).bind fun v6 =>
  (yog v6).bind fun v7 =>
  if(!v7)=true then
   some (.inr (.inl false))
  else
   some (.inl (w64 (x3+1)))
 else
  some (.inr (.inr ()))
def ywo (a0:(List Qp)):Option Bool :=
 (loopO (yem a0) 0).bind fun y4=>(Sum.elim (fun p=>some p) (fun p=>yso a0 p)) y4
def yhd (a0:(List Qp)) (a1:(List Qp)):Option Bool :=
 (ycf a0).bind fun v1 =>
 (if v1=true then
   (ywo a1).bind fun v2 =>
   some v2
  else
   some false).bind fun w3 =>
 some w3
def ylq (a0:Int):Option Bool :=
 (yoo a0 1 12).bind fun v1 =>
 some v1
def yzq  (x5:(Int×Int×Int×Int)):Option (Qr×Qr×Bool) :=
 some ((x5.1,x5.2.1),x5.2.2,true)
def ygk (x6:(Int×Int×Int×Int×Int)) (v9:Qr) (x10:Qr):Option ((Int×Int×Int×Int×Int) ⊕ (Int×Int×Int×Int)) :=
 (yqb (x6.2.2.1,x6.2.2.2.1) v9).bind fun v11 =>
 if(decide (v11<0))=true then
  some (.inl (x10.1,x10.2,v9.1,v9.2,(w64 (x6.2.2.2.2+1))))
 else
  some (.inl (x10.1,x10.2,x6.2.2.1,x6.2.2.2.1,(w64 (x6.2.2.2.2+1))))
def yai (x4:(List Qr)) (x6:(Int×Int×Int×Int×Int)):Option ((Int×Int×Int×Int×Int) ⊕ (Int×Int×Int×Int)) :=
 if(decide (x6.2.2.2.2<(x4.length:Int)))=true then
  (idxO x4 x6.2.2.2.2).bind fun v9 =>
  (yqb v9 (x6.1,x6.2.1)).bind fun v13 =>
  if(decide (v13<0))=true then
   ygk x6 v9 v9
  else
   ygk x6 v9 (x6.1,x6.2.1)
 else
  some (.inr (x6.1,x6.2.1,x6.2.2.1,x6.2.2.2.1))
def yrn (v1:(Qr×Bool)) (x4:(List Qr)):Option (Qr×Qr×Bool) :=
 (loopO (yai x4) (v1.1.1,v1.1.2,v1.1.1,v1.1.2,0)).bind fun y7=>yzq y7
def ybi (a0:(List Qp)) (a1:Qr) (a2:Qr) (x15:((List Qr)×Int)):Option (((List Qr)×Int) ⊕ (List Qr)) :=
 if(decide (x15.2<(a0.length:Int)))=true then
  (idxO a0 x15.2).bind fun v18 =>
  (yqb a1 v18.1).bind fun v19 =>
  (if(decide (v19<0))=true then
    (yqb v18.1 a2).bind fun v20 =>
    some (decide (v20<0))
   else
    some false).bind fun w21 =>
  if w21=true then
   (guardO (x15.1.length+([v18.2]).length<=1099511627776)).bind fun u23 =>
   some (.inl ((x15.1++[v18.2]),(w64 (x15.2+1))))
  else
   some (.inl (x15.1,(w64 (x15.2+1))))
 else
  some (.inr x15.1)
def ytp (a0:(List Qp)) (a1:Qr) (a2:Qr):Option (Qr×Qr×Bool) :=
 (yul a0 a1).bind fun v1 =>
 (yul a0 a2).bind fun v2 =>
 if((!v1.2)||(!v2.2))=true then
  some ((0,0),(0,0),false)
 else
  (loopO (ybi a0 a1 a2) ([v2.1],0)).bind fun y16=>yrn v1 y16
def yrf (a0:(List Qp)) (a1:Qp) (a2:Qp):Option (Bool×Bool) :=
 (ytp a0 a1.1 a1.2).bind fun v1 =>
 if(!v1.2.2)=true then
  some (false,false)
 else
  (yqb v1.1 a2.1).bind fun v3 =>
  (if(decide (v3<=0))=true then
    (yqb a2.2 v1.2.1).bind fun v4 =>
    some (decide (v4<=0))
   else
    some false).bind fun w5 =>
  some (w5,true)
def yln  (x5:(List (List Int))):Option ((List (List Int))×Bool) :=
 some (x5,true)
def ynj (x6:((List (List Int))×Int)) (x9:(List (List Int))):Option (((List (List Int))×Int) ⊕ (((List (List Int))×Bool) ⊕ (List (List Int)))) :=
 some (.inl (x9,(w64 (x6.2+1))))
def yoj (x6:((List (List Int))×Int)) (x11:(List Int)):Option (((List (List Int))×Int) ⊕ (((List (List Int))×Bool) ⊕ (List (List Int)))) :=
 (guardO (x6.1.length+([x11]).length<=1099511627776)).bind fun u12 =>
 ynj x6 (x6.1++[x11])
def ypg (x13:((List Int)×Int)) (x19:Int):Option (((List Int)×Int) ⊕ (((List (List Int))×Bool) ⊕ (List Int))) :=
 (guardO (x13.1.length+([x19]).length<=1099511627776)).bind fun u20 =>
 some (.inl ((x13.1++[x19]),(w64 (x13.2+1))))
def yid (a0:(List Qp)) (a1:(List Qp)) (v10:Qp) (x13:((List Int)×Int)):Option (((List Int)×Int) ⊕ (((List (List Int))×Bool) ⊕ (List Int))) :=
 if(decide (x13.2<(a1.length:Int)))=true then
  (idxO a1 x13.2).bind fun v16 =>
  (yrf a0 v10 v16).bind fun v17 =>
  if(!v17.2)=true then
   some (.inr (.inl ([],false)))
  else
   if v17.1=true then
    ypg x13 1
   else
    ypg x13 0
 else
  some (.inr (.inr x13.1))
def yjd (a0:(List Qp)) (a1:(List Qp)) (x6:((List (List Int))×Int)):Option (((List (List Int))×Int) ⊕ (((List (List Int))×Bool) ⊕ (List (List Int)))) :=
 if(decide (x6.2<(a1.length:Int)))=true then
  (idxO a1 x6.2).bind fun v10 =>
  (loopO (yid a0 a1 v10) ([],0)).bind fun y14=>(Sum.elim (fun p=>some (.inr (.inl p))) (fun p=>yoj x6 p)) y14
 else
  some (.inr (.inr x6.1))
def yci (a0:(List Qp)) (a1:(List Qp)):Option ((List (List Int))×Bool) :=
 (ycf a0).bind fun v1 =>
 (if(!v1)=true then
   some true
  else
   (ywo a1).bind fun v2 =>
   some (!v2)).bind fun w3 =>
 if w3=true then
  some ([],false)
 else
  (loopO (yjd a0 a1) ([],0)).bind fun y7=>(Sum.elim (fun p=>some p) (fun p=>yln p)) y7
def yup  (x1:Int):Option Int :=
 some x1
def yfm (x2:Qr) (x5:Int):Option (Qr ⊕ Int) :=
 some (.inl (x5,(w64 (x2.2+1))))
def ygm (x2:Qr) (x8:(List Int)):Option (Qr ⊕ Int) :=
 (idxO x8 x2.2).bind fun v9 =>
 yfm x2 (w64 (x2.1+v9))
def yhm (x10:((List Int)×Int)) (x13:(List Int)):Option (((List Int)×Int) ⊕ (List Int)) :=
 some (.inl (x13,(w64 (x10.2+1))))
def yim (x10:((List Int)×Int)) (x14:(List Int)):Option (((List Int)×Int) ⊕ (List Int)) :=
 yhm x10 x14
def yjm (x15:((List Int)×Int)) (x18:(List Int)):Option (((List Int)×Int) ⊕ (List Int)) :=
 some (.inl (x18,(w64 (x15.2+1))))
def yqg (v19:Int) (v20:(List Int)) (x21:((List Int)×Int)):Option (((List Int)×Int) ⊕ (List Int)) :=
 if(decide (x21.2<(v20.length:Int)))=true then
  (idxO v20 x21.2).bind fun v24 =>
  (idxO x21.1 x21.2).bind fun v25 =>
  some (.inl ((x21.1.set (Int.toNat x21.2) (w64 (v25+(w64 (v19*v24))))),(w64 (x21.2+1))))
 else
  some (.inr x21.1)
def yrg (a0:(List (List Int))) (x10:((List Int)×Int)) (x15:((List Int)×Int)):Option (((List Int)×Int) ⊕ (List Int)) :=
 if(decide (x15.2<(x10.1.length:Int)))=true then
  (idxO x10.1 x15.2).bind fun v19 =>
  (idxO a0 x15.2).bind fun v20 =>
  (loopO (yqg v19 v20) (x15.1,0)).bind fun y22=>yjm x15 y22
 else
  some (.inr x15.1)
def ysg (a0:(List (List Int))) (a1:Int) (x10:((List Int)×Int)):Option (((List Int)×Int) ⊕ (List Int)) :=
 if(decide (x10.2<a1))=true then
  (loopO (yrg a0 x10) ((List.replicate (Int.toNat (a0.length:Int)) (0:Int)),0)).bind fun y16=>yim x10 y16
 else
  some (.inr x10.1)
def ytg (a0:(List (List Int))) (a1:Int) (x2:Qr):Option (Qr ⊕ Int) :=
 if(decide (x2.2<(a0.length:Int)))=true then
  (guardO (0<=(a0.length:Int)/\(a0.length:Int)<=1099511627776)).bind fun u6 =>
  (idxO (List.replicate (Int.toNat (a0.length:Int)) (0:Int)) x2.2).bind fun v7 =>
  (loopO (ysg a0 a1) (((List.replicate (Int.toNat (a0.length:Int)) (0:Int)).set (Int.toNat x2.2) 1),0)).bind fun y11=>ygm x2 y11
 else
  some (.inr x2.1)
def ydo (a0:(List (List Int))) (a1:Int):Option Int :=
 (loopO (ytg a0 a1) (0,0)).bind fun y3=>yup y3
def yyh (a1:Int) (x2:Int):Option Int :=
 (guardO (a1≠0)).bind fun u3 =>
 some (w64 (Int.tdiv x2 a1))
def yzc (rc:((List (List Int))->Int->Option Int)) (a0:(List (List Int))) (a1:Int) (x4:Qr):Option (Qr ⊕ Int) :=
 if(decide (x4.2<a1))=true then
  (guardO (x4.2≠0)).bind fun u7 =>
  if((Int.tmod a1 x4.2)==0)=true then
   (rc a0 x4.2).bind fun v9 =>
   some (.inl ((w64 (x4.1-(w64 (x4.2*v9)))),(w64 (x4.2+1))))
  else
   some (.inl (x4.1,(w64 (x4.2+1))))
 else
  some (.inr x4.1)
def yph (rc:((List (List Int))->Int->Option Int)) (a0:(List (List Int))) (a1:Int):Option Int :=
 (ydo a0 a1).bind fun v1 =>
 (loopO (yzc rc a0 a1) (v1,1)).bind fun y5=>yyh a1 y5
def ykm:Nat->(List (List Int))->Int->Option Int
 | 0,_,_=>none
 | k+1,a0,a1=>yph (ykm k) a0 a1
def ybv (a0:(List (List Int))) (a1:Int):Option Int:=fuelO fun k=>ykm k a0 a1
def yhk (a0:(List Qp)) (a1:(List Qp)) (a2:Int):Option (Int×Bool) :=
 (yhd a0 a1).bind fun v1 =>
 (if(!v1)=true then
   some true
  else
   (ylq a2).bind fun v2 =>
   some (!v2)).bind fun w3 =>
 if w3=true then
  some (0,false)
 else
  (yci a0 a1).bind fun v5 =>
  if(!v5.2)=true then
   some (0,false)
  else
   (ybv v5.1 a2).bind fun v7 =>
   some (v7,true)
def ydf (a0:Qr) (a1:Qr) (a2:Qr):Option Qp :=
 (yju a1 a0).bind fun v1 =>
 (yos a2 a0).bind fun v2 =>
 some (v1,v2)
def ymn (v2:(Qr×Bool)) (x4:(Int×Int×Int×Int)):Option (Qr×Qr×Bool) :=
 some ((x4.1,x4.2.1),x4.2.2,v2.2)
def yce (a1:(List Qp)) (a2:Qr) (a3:Qr) (x5:(Int×Int×Int×Int×Int)):Option ((Int×Int×Int×Int×Int) ⊕ (Int×Int×Int×Int)) :=
 if(decide (x5.2.2.2.2<(a1.length:Int)))=true then
  (idxO a1 x5.2.2.2.2).bind fun v8 =>
  (ypf a2 v8.1).bind fun v9 =>
  (if v9=true then
    (ypf v8.1 a3).bind fun v10 =>
    some v10
   else
    some false).bind fun w11 =>
  if w11=true then
   (ydf v8.2 (x5.1,x5.2.1) (x5.2.2.1,x5.2.2.2.1)).bind fun v13 =>
   some (.inl (v13.1.1,v13.1.2,v13.2.1,v13.2.2,(w64 (x5.2.2.2.2+1))))
  else
   some (.inl (x5.1,x5.2.1,x5.2.2.1,x5.2.2.2.1,(w64 (x5.2.2.2.2+1))))
 else
  some (.inr (x5.1,x5.2.1,x5.2.2.1,x5.2.2.2.1))
def yik (a0:Bool) (a1:(List Qp)) (a2:Qr) (a3:Qr):Option (Qr×Qr×Bool) :=
 (yoc a0 a1 a2).bind fun v1 =>
 (yoc v1.2 a1 a3).bind fun v2 =>
 (ydf v2.1 v1.1 v1.1).bind fun v3 =>
 (loopO (yce a1 a2 a3) (v3.1.1,v3.1.2,v3.2.1,v3.2.2,0)).bind fun y6=>ymn v2 y6
def yle (a0:Bool) (a1:(List Qp)) (a2:Qp) (a3:Qp):Option (Bool×Bool) :=
 (yik a0 a1 a2.1 a2.2).bind fun v1 =>
 (ypf a3.1 v1.1).bind fun v2 =>
 (if(!v2)=true then
   (ypf v1.2.1 a3.2).bind fun v3 =>
   some (!v3)
  else
   some false).bind fun w4 =>
 some (w4,v1.2.2)
def ynb  (x1:Unit):Option Int :=
 some (-1)
def yna (a0:(List Qp)) (a1:Qp->Option Bool) (x2:Int):Option (Int ⊕ (Int ⊕ Unit)) :=
 if(decide (x2<(a0.length:Int)))=true then
  (idxO a0 x2).bind fun v5 =>
  (a1 v5).bind fun v6 =>
  if v6=true then
   some (.inr (.inl x2))
  else
   some (.inl (w64 (x2+1)))
 else
  some (.inr (.inr ()))
def ysa (a0:(List Qp)) (a1:(Qp->Option Bool)):Option Int :=
 (loopO (yna a0 a1) 0).bind fun y3=>(Sum.elim (fun p=>some p) (fun p=>ynb p)) y3
def yoa (a0:(List Qp)) (a1:(Qp->Option Bool)):Option Bool :=
 (ysa a0 a1).bind fun v1 =>
 some (decide (v1>=0))
def yjk (a0:Qr):Option Bool :=
 (yvo a0).bind fun v1 =>
 some (!v1)
def ymq (a0:(List Qr)):Option Bool :=
 (ycb a0 (fun x0=>yjk x0)).bind fun v1 =>
 some (!v1)
def yfg (a0:Qp):Option Bool :=
 (ymq ([a0.1,a0.2])).bind fun v1 =>
 (if v1=true then
   (ypf a0.1 a0.2).bind fun v2 =>
   some v2
  else
   some false).bind fun w3 =>
 some w3
def ysf (a0:Qp):Option Bool :=
 (yfg a0).bind fun v1 =>
 some (!v1)
def yef (a0:(List Qp)):Option Bool :=
 (ycl (a0.length:Int) 1 8).bind fun v1 =>
 (if v1=true then
   (yoa a0 (fun x0=>ysf x0)).bind fun v2 =>
   some (!v2)
  else
   some false).bind fun w3 =>
 some w3
def yug  (x6:(Bool×(List (List Int)))):Option ((List (List Int))×Bool) :=
 if x6.1=true then
  some ([],false)
 else
  some (x6.2,true)
def ypj (x8:(Bool×(List (List Int))×Int)) (x11:(Bool×(List (List Int)))):Option ((Bool×(List (List Int))×Int) ⊕ (Bool×(List (List Int)))) :=
 some (.inl (x11.1,x11.2,(w64 (x8.2.2+1))))
def yrb (a0:(List Qp)) (a1:(List Qp)) (x8:(Bool×(List (List Int))×Int)) (v12:Qp) (x13:(Bool×(List (List Int))×Int)):Option ((Bool×(List (List Int))×Int) ⊕ (Bool×(List (List Int)))) :=
 if(decide (x13.2.2<(a1.length:Int)))=true then
  (idxO a1 x13.2.2).bind fun v16 =>
  (yle x13.1 a0 v12 v16).bind fun v17 =>
  if v17.1=true then
   (idxO x13.2.1 x8.2.2).bind fun v19 =>
   (idxO v19 x13.2.2).bind fun v20 =>
   some (.inl (v17.2,(x13.2.1.set (Int.toNat x8.2.2) (v19.set (Int.toNat x13.2.2) 1)),(w64 (x13.2.2+1))))
  else
   some (.inl (v17.2,x13.2.1,(w64 (x13.2.2+1))))
 else
  some (.inr (x13.1,x13.2.1))
def yde (a0:(List Qp)) (a1:(List Qp)) (x8:(Bool×(List (List Int))×Int)):Option ((Bool×(List (List Int))×Int) ⊕ (Bool×(List (List Int)))) :=
 if(decide (x8.2.2<(a1.length:Int)))=true then
  (idxO a1 x8.2.2).bind fun v12 =>
  (loopO (yrb a0 a1 x8 v12) (x8.1,x8.2.1,0)).bind fun y14=>ypj x8 y14
 else
  some (.inr (x8.1,x8.2.1))
def ysc (a0:(List Qp)) (a1:(List Qp)):Option ((List (List Int))×Bool) :=
 (ymg a0).bind fun v1 =>
 (if(!v1)=true then
   some true
  else
   (yef a1).bind fun v2 =>
   some (!v2)).bind fun w3 =>
 if w3=true then
  some ([],false)
 else
  (ydg (a1.length:Int)).bind fun v5 =>
  (loopO (yde a0 a1) (false,v5,0)).bind fun y9=>yug y9
def ysk (a1:Int) (x1:Int):Option Int :=
 (guardO (a1≠0)).bind fun u2 =>
 some (w64 (Int.tdiv x1 a1))
def yff (x3:Qr) (x6:Int):Option (Qr ⊕ Int) :=
 some (.inl (x6,(w64 (x3.2+1))))
def ygf (a1:Int) (x3:Qr) (v9:(List (List Int))) (x10:Qr):Option (Qr ⊕ Int) :=
 if(decide (x10.2<(v9.length:Int)))=true then
  (idxO v9 x10.2).bind fun v13 =>
  (yhn (w64 (Int.tdiv a1 x3.2))).bind fun v14 =>
  (idxO v13 x10.2).bind fun v15 =>
  some (.inl ((w64 (x10.1+(w64 (v14*v15)))),(w64 (x10.2+1))))
 else
  some (.inr x10.1)
def yhf (a0:(List (List Int))) (a1:Int) (x3:Qr):Option (Qr ⊕ Int) :=
 if(decide (x3.2<=a1))=true then
  (guardO (x3.2≠0)).bind fun u7 =>
  if((Int.tmod a1 x3.2)==0)=true then
   (ytl a0 x3.2 1000000000000000000).bind fun v9 =>
   (loopO (ygf a1 x3 v9) (x3.1,0)).bind fun y11=>yff x3 y11
  else
   yff x3 x3.1
 else
  some (.inr x3.1)
def ylm (a0:(List (List Int))) (a1:Int):Option Int :=
 (loopO (yhf a0 a1) (0,1)).bind fun y4=>ysk a1 y4
def ykk (a0:(List Qp)) (a1:(List Qp)) (a2:Int):Option (Int×Bool) :=
 (ysc a0 a1).bind fun v1 =>
 (if(!v1.2)=true then
   some true
  else
   (ycl a2 1 12).bind fun v2 =>
   some (!v2)).bind fun w3 =>
 if w3=true then
  some (0,false)
 else
  (ylm v1.1 a2).bind fun v5 =>
  some (v5,true)
def yyb (a0:List Qr):Option (List Qr) :=
 (guardO (a0.length<=1048576/\∀ x∈a0,okR x=true)).bind fun u1 =>
 some (sortR a0)
def ybc (a0:List Qr):Option (List Qr) :=
 some (cpL a0)
def yxo (a0:(List Qr)):Option (List Qr) :=
 (yyb a0).bind fun v1 =>
 (ybc v1).bind fun v2 =>
 some v2
def yki  (x1:(Bool×(List Qr))):Option ((List Qr)×Bool) :=
 (yxo x1.2).bind fun v2 =>
 some (v2,x1.1)
def ypd (a1:(List Qp)) (a2:Qr) (x3:(Bool×(List Qr)×Int)) (v6:Qp) (x7:(List Qr)):Option ((Bool×(List Qr)×Int) ⊕ (Bool×(List Qr))) :=
 (if(decide (x3.2.2>0))=true then
   (idxO a1 (w64 (x3.2.2-1))).bind fun v8 =>
   (yxi v8.2 a2).bind fun v9 =>
   (yxi v6.2 a2).bind fun v10 =>
   some (decide ((w64 (v9*v10))<0))
  else
   some false).bind fun w11 =>
 if w11=true then
  (idxO a1 (w64 (x3.2.2-1))).bind fun v13 =>
  (yxl x3.1 v13 v6 a2).bind fun v14 =>
  (guardO (x7.length+([v14.1]).length<=1099511627776)).bind fun u15 =>
  some (.inl (v14.2,(x7++[v14.1]),(w64 (x3.2.2+1))))
 else
  some (.inl (x3.1,x7,(w64 (x3.2.2+1))))
def ymm (a1:(List Qp)) (a2:Qr) (x3:(Bool×(List Qr)×Int)):Option ((Bool×(List Qr)×Int) ⊕ (Bool×(List Qr))) :=
 if(decide (x3.2.2<(a1.length:Int)))=true then
  (idxO a1 x3.2.2).bind fun v6 =>
  if((v6.2.1==a2.1)&&(v6.2.2==a2.2))=true then
   (guardO (x3.2.1.length+([v6.1]).length<=1099511627776)).bind fun u17 =>
   ypd a1 a2 x3 v6 (x3.2.1++[v6.1])
  else
   ypd a1 a2 x3 v6 x3.2.1
 else
  some (.inr (x3.1,x3.2.1))
def yvg (a0:Bool) (a1:(List Qp)) (a2:Qr):Option ((List Qr)×Bool) :=
 (loopO (ymm a1 a2) (a0,[],0)).bind fun y4=>yki y4
def ycv  (x1:(List Qr)):Option (List Qr) :=
 some x1
def ynn (a0:(List Qp)) (x2:((List Qr)×Int)):Option (((List Qr)×Int) ⊕ (List Qr)) :=
 if(decide (x2.2<(a0.length:Int)))=true then
  (idxO a0 x2.2).bind fun v5 =>
  (guardO (x2.1.length+([v5.1]).length<=1099511627776)).bind fun u6 =>
  some (.inl ((x2.1++[v5.1]),(w64 (x2.2+1))))
 else
  some (.inr x2.1)
def ynw (a0:(List Qp)):Option (List Qr) :=
 (loopO (ynn a0) ([],0)).bind fun y3=>ycv y3
def yvp  (x1:(List Qr)):Option ((List Qr)×Bool) :=
 some (x1,true)
def ywg (a1:Qr) (x2:((List Qr)×Int)) (v5:Qp) (v6:Qp) (v7:Int) (v8:Int) (x10:(List Qr)):Option (((List Qr)×Int) ⊕ (((List Qr)×Bool) ⊕ (List Qr))) :=
 if(decide ((w64 (v7*v8))>=0))=true then
  some (.inl (x10,(w64 (x2.2+1))))
 else
  (yor v5 v6 a1).bind fun v12 =>
  if(!v12.2)=true then
   some (.inr (.inl ([],false)))
  else
   (ytc x10 v12.1).bind fun v14 =>
   some (.inl (v14,(w64 (x2.2+1))))
def yxg (a1:Qr) (x2:((List Qr)×Int)) (v5:Qp) (v6:Qp) (v7:Int) (v8:Int) (x9:(List Qr)):Option (((List Qr)×Int) ⊕ (((List Qr)×Bool) ⊕ (List Qr))) :=
 if(v8==0)=true then
  (ytc x9 v6.1).bind fun v16 =>
  ywg a1 x2 v5 v6 v7 v8 v16
 else
  ywg a1 x2 v5 v6 v7 v8 x9
def ywp (a0:(List Qp)) (a1:Qr) (x2:((List Qr)×Int)):Option (((List Qr)×Int) ⊕ (((List Qr)×Bool) ⊕ (List Qr))) :=
 if(decide (x2.2<(a0.length:Int)))=true then
  (idxO a0 (w64 (x2.2-1))).bind fun v5 =>
  (idxO a0 x2.2).bind fun v6 =>
  (yqb v5.2 a1).bind fun v7 =>
  (yqb v6.2 a1).bind fun v8 =>
  if(v7==0)=true then
   (ytc x2.1 v5.1).bind fun v18 =>
   yxg a1 x2 v5 v6 v7 v8 v18
  else
   yxg a1 x2 v5 v6 v7 v8 x2.1
 else
  some (.inr (.inr x2.1))
def yhl (a0:(List Qp)) (a1:Qr):Option ((List Qr)×Bool) :=
 (loopO (ywp a0 a1) ([],1)).bind fun y3=>(Sum.elim (fun p=>some p) (fun p=>yvp p)) y3
def yyg (a0:Cu):Option (Qr×Cu) :=
 (yka a0 60).bind fun v1 =>
 (yqa v1.2 ([1,2,3,4,5,7,8,12,16,(w64 (1+v1.1))])).bind fun v2 =>
 (yka v2.2 (w64 (v2.1+1))).bind fun v3 =>
 (yob v3.1 v2.1).bind fun v4 =>
 some (v4.1,v3.2)
def ysd (v1:(Int×Cu)) (x13:Bool):Option (Qr×Cu) :=
 if x13=true then
  (yqa v1.2 ([2,3,4,5,7,12])).bind fun v15 =>
  (yhc v15.2 v15.1).bind fun v16 =>
  some v16
 else
  if(v1.1==6)=true then
   (yyg v1.2).bind fun v18 =>
   some v18
  else
   (yqc v1.2).bind fun v19 =>
   some v19
def yif (a1:(List Qp)) (v1:(Int×Cu)) (x2:Bool):Option (Qr×Cu) :=
 if x2=true then
  if(decide ((a1.length:Int)>0))=true then
   (yka v1.2 (a1.length:Int)).bind fun v5 =>
   (idxO a1 v5.1).bind fun v6 =>
   some (v6.1,v5.2)
  else
   (yqc v1.2).bind fun v7 =>
   some v7
 else
  if(v1.1==2)=true then
   if(decide ((a1.length:Int)>0))=true then
    (yka v1.2 (a1.length:Int)).bind fun v10 =>
    (idxO a1 v10.1).bind fun v11 =>
    some (v11.2,v10.2)
   else
    (yqc v1.2).bind fun v12 =>
    some v12
  else
   if(v1.1==3)=true then
    ysd v1 (v1.1==3)
   else
    if(v1.1==4)=true then
     ysd v1 (v1.1==4)
    else
     ysd v1 (v1.1==5)
def yqh (a0:Cu) (a1:(List Qp)):Option (Qr×Cu) :=
 (yka a0 8).bind fun v1 =>
 if(v1.1==0)=true then
  yif a1 v1 (v1.1==0)
 else
  yif a1 v1 (v1.1==1)
def yko  (x1:(List Qp)):Option (List Qp) :=
 some x1
def yjf (a0:(List Qr)) (x2:((List Qp)×Int)):Option (((List Qp)×Int) ⊕ (List Qp)) :=
 if(decide (x2.2<(a0.length:Int)))=true then
  (idxO a0 (w64 (x2.2-1))).bind fun v5 =>
  (idxO a0 x2.2).bind fun v6 =>
  (guardO (x2.1.length+([(v5,v6)]).length<=1099511627776)).bind fun u7 =>
  some (.inl ((x2.1++[(v5,v6)]),(w64 (x2.2+1))))
 else
  some (.inr x2.1)
def yqj (a0:(List Qr)):Option (List Qp) :=
 (loopO (yjf a0) ([],1)).bind fun y3=>yko y3
def yjc (a0:Cu) (a1:(List Qp)):Option (Qp×Cu) :=
 (yqh a0 a1).bind fun v1 =>
 (yqh v1.2 a1).bind fun v2 =>
 (ybf v1.1).bind fun v3 =>
 (if v3=true then
   (ybf v2.1).bind fun v4 =>
   if v4=true then
    (yfb v2.2 16).bind fun v5 =>
    some (v5.2.1,v5.2.2.1,v5.2.2.2,(!v5.1))
   else
    some (v2.2.1,v2.2.2.1,v2.2.2.2,false)
  else
   some (v2.2.1,v2.2.2.1,v2.2.2.2,false)).bind fun w6 =>
 if w6.2.2.2=true then
  (yqb v1.1 v2.1).bind fun v8 =>
  if(v8==0)=true then
   (ypb 0).bind fun v10 =>
   (ypb 1).bind fun v11 =>
   some ((v10,v11),(w6.1,w6.2.1,w6.2.2.1))
  else
   (yhu v1.1 v2.1).bind fun v12 =>
   (ypo v1.1 v2.1).bind fun v13 =>
   some ((v12,v13),(w6.1,w6.2.1,w6.2.2.1))
 else
  some ((v1.1,v2.1),(w6.1,w6.2.1,w6.2.2.1))
def yre (a1:(List Qp)) (x3:((List Int)×Int×Int×(List Qr))):Option ((List Qp)×Cu) :=
 (yqj x3.2.2.2).bind fun v4 =>
 (yka (x3.1,x3.2.1,x3.2.2.1) 16).bind fun v5 =>
 if(v5.1==0)=true then
  (yjc v5.2 a1).bind fun v7 =>
  (guardO (v4.length+([v7.1]).length<=1099511627776)).bind fun u8 =>
  some ((v4++[v7.1]),v7.2)
 else
  if(v5.1==1)=true then
   some ([],v5.2)
  else
   some (v4,v5.2)
def yhi (a1:(List Qp)) (x2:((List Int)×Int×Int×Int)) (x10:((List Int)×Int×Int×(List Qr)×Int)):Option (((List Int)×Int×Int×(List Qr)×Int) ⊕ ((List Int)×Int×Int×(List Qr))) :=
 if((decide ((x10.2.2.2.1.length:Int)<x2.2.2.2))&&(decide (x10.2.2.2.2<60)))=true then
  (yqh (x10.1,x10.2.1,x10.2.2.1) a1).bind fun v13 =>
  (ybf v13.1).bind fun v14 =>
  if v14=true then
   (ytc x10.2.2.2.1 v13.1).bind fun v16 =>
   some (.inl (v13.2.1,v13.2.2.1,v13.2.2.2,v16,(w64 (x10.2.2.2.2+1))))
  else
   some (.inl (v13.2.1,v13.2.2.1,v13.2.2.2,x10.2.2.2.1,(w64 (x10.2.2.2.2+1))))
 else
  some (.inr (x10.1,x10.2.1,x10.2.2.1,x10.2.2.2.1))
def ync (a1:(List Qp)) (x2:((List Int)×Int×Int×Int)):Option ((List Qp)×Cu) :=
 (loopO (yhi a1 x2) (x2.1,x2.2.1,x2.2.2.1,[],0)).bind fun y11=>yre a1 y11
def yme (a0:Cu) (a1:(List Qp)):Option ((List Qp)×Cu) :=
 (yqa a0 ([2,3,3,4,5])).bind fun v1 =>
 (yfb v1.2 20).bind fun v17 =>
 if v17.1=true then
  (yka v17.2 2).bind fun v19 =>
  ync a1 (v19.2.1,v19.2.2.1,v19.2.2.2,(w64 (9+v19.1)))
 else
  ync a1 (v17.2.1,v17.2.2.1,v17.2.2.2,v1.1)
def yxp  (x2:(List Qp)):Option (List Qp) :=
 some x2
def yyp (a0:(List Qp)) (x3:((List Qp)×Int)):Option (((List Qp)×Int) ⊕ (List Qp)) :=
 if(decide (x3.2<(a0.length:Int)))=true then
  (if((w64 (x3.2+1))==(a0.length:Int))=true then
    some true
   else
    (idxO a0 (w64 (x3.2-1))).bind fun v6 =>
    (idxO a0 x3.2).bind fun v7 =>
    (ynh v6 v7).bind fun v8 =>
    (idxO a0 (w64 (x3.2+1))).bind fun v9 =>
    (ynh v7 v9).bind fun v10 =>
    some (!((v8.1==v10.1)&&(v8.2==v10.2)))).bind fun w11 =>
  if w11=true then
   (idxO a0 x3.2).bind fun v13 =>
   (guardO (x3.1.length+([v13]).length<=1099511627776)).bind fun u14 =>
   some (.inl ((x3.1++[v13]),(w64 (x3.2+1))))
  else
   some (.inl (x3.1,(w64 (x3.2+1))))
 else
  some (.inr x3.1)
def yeo (a0:(List Qp)):Option (List Qp) :=
 (idxO a0 0).bind fun v1 =>
 (loopO (yyp a0) ([v1],1)).bind fun y4=>yxp y4
def yfo (a0:(List Qp)) (a1:Bool):Option (List Qr) :=
 if a1=true then
  (yeo a0).bind fun v2 =>
  (ynw v2).bind fun v3 =>
  some v3
 else
  (ypp a0).bind fun v4 =>
  some v4
def yps  (x1:Unit):Option Int :=
 some (-1)
def yqs (a0:(List Qr)) (a1:Qr) (x2:Int):Option (Int ⊕ (Int ⊕ Unit)) :=
 if(decide (x2<(a0.length:Int)))=true then
  (idxO a0 x2).bind fun v5 =>
  if((a1.1==v5.1)&&(a1.2==v5.2))=true then
   some (.inr (.inl x2))
  else
   some (.inl (w64 (x2+1)))
 else
  some (.inr (.inr ()))
def yrr (a0:(List Qr)) (a1:Qr):Option Int :=
 (loopO (yqs a0 a1) 0).bind fun y3=>(Sum.elim (fun p=>some p) (fun p=>yps p)) y3
def ynm  (x5:(List Qr)):Option ((List Qr)×Bool) :=
 some (x5,true)
def yom (a0:(List Qp)) (x6:((List Qr)×Bool)) (x10:Int):Option (Int ⊕ (((List Qr)×Bool) ⊕ ((List Qr)×Bool))) :=
 if(decide (x10<(x6.1.length:Int)))=true then
  (idxO x6.1 x10).bind fun v13 =>
  (yul a0 v13).bind fun v14 =>
  if(!v14.2)=true then
   some (.inr (.inl ([],false)))
  else
   (yrr x6.1 v14.1).bind fun v16 =>
   if(decide (v16<0))=true then
    (ytc x6.1 v14.1).bind fun v18 =>
    some (.inr (.inr (v18,true)))
   else
    some (.inl (w64 (x10+1)))
 else
  some (.inr (.inr (x6.1,false)))
def ypm (a0:(List Qp)) (x6:((List Qr)×Bool)):Option (((List Qr)×Bool) ⊕ (((List Qr)×Bool) ⊕ (List Qr))) :=
 if x6.2=true then
  if(decide ((x6.1.length:Int)>9))=true then
   some (.inr (.inl ([],false)))
  else
   (loopO (yom a0 x6) 0).bind fun y11=>(Sum.elim (fun p=>some (.inr (.inl p))) (fun p=>some (.inl p))) y11
 else
  some (.inr (.inr x6.1))
def yli (a0:(List Qp)) (x4:(List Qr)):Option ((List Qr)×Bool) :=
 (loopO (ypm a0) (x4,true)).bind fun y7=>(Sum.elim (fun p=>some p) (fun p=>ynm p)) y7
def yqm (v19:(List Qr)) (x20:((List Qr)×Int)):Option (((List Qr)×Int) ⊕ (List Qr)) :=
 if(decide (x20.2<(v19.length:Int)))=true then
  (idxO v19 x20.2).bind fun v23 =>
  (ytc x20.1 v23).bind fun v24 =>
  some (.inl (v24,(w64 (x20.2+1))))
 else
  some (.inr x20.1)
def yaj (a0:(List Qp)) (a1:Bool):Option ((List Qr)×Bool) :=
 (ypb 0).bind fun v1 =>
 (ypb 1).bind fun v2 =>
 (ytc ([v1]) v2).bind fun v3 =>
 (yfo a0 a1).bind fun v19 =>
 (loopO (yqm v19) (v3,0)).bind fun y21=>yli a0 y21
def yvd (x7:((List Int)×Int×Int×(List Qp)×(List Qp))) (x12:((List Int)×Int×Int×(List Qp))):Option ((List Qp)×(List Qp)×Cu) :=
 some (x7.2.2.2.1,x12.2.2.2,(x12.1,x12.2.1,x12.2.2.1))
def yvj (v15:(Int×Cu)) (x16:(List Qp)):Option ((List Qp) ⊕ ((List Int)×Int×Int×(List Qp))) :=
 if(decide ((x16.length:Int)<(w64 (8+v15.1))))=true then
  (idxO x16 0).bind fun v19 =>
  (guardO (x16.length+([v19]).length<=1099511627776)).bind fun u20 =>
  some (.inl (x16++[v19]))
 else
  some (.inr (v15.2.1,v15.2.2.1,v15.2.2.2,x16))
def yhg (x7:((List Int)×Int×Int×(List Qp)×(List Qp))) (x11:((List Int)×Int×Int×(List Qp))):Option ((List Qp)×(List Qp)×Cu) :=
 (yfb (x11.1,x11.2.1,x11.2.2.1) 16).bind fun v13 =>
 if v13.1=true then
  (yka v13.2 2).bind fun v15 =>
  (loopO (yvj v15) x11.2.2.2).bind fun y17=>yvd x7 y17
 else
  yvd x7 (v13.2.1,v13.2.2.1,v13.2.2.2,x11.2.2.2)
def ywj (x7:((List Int)×Int×Int×(List Qp)×(List Qp))) (v10:(Int×Cu)) (x21:((List Int)×Int×Int×(List Qp)×Int)):Option (((List Int)×Int×Int×(List Qp)×Int) ⊕ ((List Int)×Int×Int×(List Qp))) :=
 if((decide (x21.2.2.2.2<30))&&(decide ((x21.2.2.2.1.length:Int)<(w64 (1+v10.1)))))=true then
  (yka (x21.1,x21.2.1,x21.2.2.1) (x7.2.2.2.2.length:Int)).bind fun v24 =>
  (idxO x7.2.2.2.2 v24.1).bind fun v25 =>
  (idxO x21.2.2.2.1 (w64 ((x21.2.2.2.1.length:Int)-1))).bind fun v26 =>
  (yrf x7.2.2.2.1 v26 v25).bind fun v27 =>
  if(v27.1&&v27.2)=true then
   (guardO (x21.2.2.2.1.length+([v25]).length<=1099511627776)).bind fun u29 =>
   some (.inl (v24.2.1,v24.2.2.1,v24.2.2.2,(x21.2.2.2.1++[v25]),(w64 (x21.2.2.2.2+1))))
  else
   some (.inl (v24.2.1,v24.2.2.1,v24.2.2.2,x21.2.2.2.1,(w64 (x21.2.2.2.2+1))))
 else
  some (.inr (x21.1,x21.2.1,x21.2.2.1,x21.2.2.2.1))
def ykc  (x7:((List Int)×Int×Int×(List Qp)×(List Qp))):Option ((List Qp)×(List Qp)×Cu) :=
 (yka (x7.1,x7.2.1,x7.2.2.1) (x7.2.2.2.2.length:Int)).bind fun v8 =>
 (idxO x7.2.2.2.2 v8.1).bind fun v9 =>
 (yka v8.2 4).bind fun v10 =>
 (loopO (ywj x7 v10) (v10.2.1,v10.2.2.1,v10.2.2.2,[v9],0)).bind fun y22=>yhg x7 y22
def yee (a0:Cu):Option ((List Qp)×(List Qp)×Cu) :=
 (yje a0).bind fun v1 =>
 (yme v1.2 v1.1).bind fun v2 =>
 (yhd v1.1 v2.1).bind fun v3 =>
 (if(!v3)=true then
   some (v2.2.1,v2.2.2.1,v2.2.2.2,true)
  else
   (yfb v2.2 4).bind fun v4 =>
   some (v4.2.1,v4.2.2.1,v4.2.2.2,v4.1)).bind fun w5 =>
 if w5.2.2.2=true then
  some (v1.1,v2.1,(w5.1,w5.2.1,w5.2.2.1))
 else
  (yfb (w5.1,w5.2.1,w5.2.2.1) 2).bind fun v30 =>
  if v30.1=true then
   (yke v30.2).bind fun v32 =>
   (ycf v32.1).bind fun v33 =>
   if(!v33)=true then
    some (v32.1,v2.1,v32.2)
   else
    (yfb v32.2 2).bind fun v35 =>
    (yaj v32.1 v35.1).bind fun v36 =>
    if v36.2=true then
     (yqj v36.1).bind fun v38 =>
     ykc (v35.2.1,v35.2.2.1,v35.2.2.2,v32.1,v38)
    else
     ykc (v35.2.1,v35.2.2.1,v35.2.2.2,v32.1,v2.1)
  else
   ykc (v30.2.1,v30.2.2.1,v30.2.2.2,v1.1,v2.1)
def yrm (a0:(List Int)):Option ((List Qp)×(List Qp)) :=
 (yee (a0,0,0)).bind fun v1 =>
 some (v1.1,v1.2.1)
def yne (a0:(List Int)):Option ((List Qp)×(List Qp)) :=
 (yrm a0).bind fun v1 =>
 some v1
def ysr (a0:(List Qp)) (a1:(List Qp)):Option Bool :=
 (ymg a0).bind fun v1 =>
 (if v1=true then
   (yef a1).bind fun v2 =>
   some v2
  else
   some false).bind fun w3 =>
 some w3
def yuc  (x3:(Bool×(List Int))):Option ((List Int)×Bool) :=
 if x3.1=true then
  some ([],false)
 else
  some (x3.2,true)
def ylc (a0:(List Qp)) (a1:(List Qp)) (x5:(Bool×(List Int)×Int)):Option ((Bool×(List Int)×Int) ⊕ (Bool×(List Int))) :=
 if(decide (x5.2.2<(a1.length:Int)))=true then
  (idxO a1 x5.2.2).bind fun v8 =>
  (guardO ((a1.length:Int)≠0)).bind fun u9 =>
  (idxO a1 (Int.tmod (w64 (x5.2.2+1)) (a1.length:Int))).bind fun v10 =>
  (yle x5.1 a0 v8 v10).bind fun v11 =>
  if(!v11.1)=true then
   (guardO (x5.2.1.length+([x5.2.2]).length<=1099511627776)).bind fun u13 =>
   some (.inl (v11.2,(x5.2.1++[x5.2.2]),(w64 (x5.2.2+1))))
  else
   some (.inl (v11.2,x5.2.1,(w64 (x5.2.2+1))))
 else
  some (.inr (x5.1,x5.2.1))
def yvc (a0:(List Qp)) (a1:(List Qp)):Option ((List Int)×Bool) :=
 (ysr a0 a1).bind fun v1 =>
 if(!v1)=true then
  some ([],false)
 else
  (loopO (ylc a0 a1) (false,[],0)).bind fun y6=>yuc y6
def ytd (a0:(List Qp)) (a1:(List Qp)):Option (Bool×Bool) :=
 (yvc a0 a1).bind fun v1 =>
 (if v1.2=true then
   if((v1.1.length:Int)==0)=true then
    some true
   else
    (idxO v1.1 0).bind fun v2 =>
    some (v2==(w64 ((a1.length:Int)-1)))
  else
   some false).bind fun w3 =>
 some (w3,v1.2)
def yhb (a0:(List Qp)):Option (List Qp) :=
 (guardO (a0.length<=1099511627776)).bind fun u2 =>
 some a0
def yrj (a0:Qr) (c0:(Int×Int×Int×Int)):Option Bool :=
 some (((a0.1==c0.1)&&(a0.2==c0.2.1))||((a0.1==c0.2.2.1)&&(a0.2==c0.2.2.2)))
def ytf  (x4:Bool):Option (Qp×Bool) :=
 some (((0,0),(0,0)),true)
def yzb (a1:(List Qp)) (v3:(List Qr)) (x5:(Bool×Int)):Option ((Bool×Int) ⊕ ((Qp×Bool) ⊕ Bool)) :=
 if((decide (x5.2<(v3.length:Int)))&&(!x5.1))=true then
  (idxO v3 (w64 (x5.2-1))).bind fun v8 =>
  (yoc x5.1 a1 v8).bind fun v9 =>
  (idxO v3 x5.2).bind fun v10 =>
  (yoc v9.2 a1 v10).bind fun v11 =>
  if(!((v9.1.1==v11.1.1)&&(v9.1.2==v11.1.2)))=true then
   some (.inr (.inl ((v8,v10),v11.2)))
  else
   some (.inl (v11.2,(w64 (x5.2+1))))
 else
  some (.inr (.inr x5.1))
def ymi (a1:(List Qp)) (x2:(Bool×(List Qr))):Option (Qp×Bool) :=
 (yxo x2.2).bind fun v3 =>
 (loopO (yzb a1 v3) (x2.1,1)).bind fun y6=>(Sum.elim (fun p=>some p) (fun p=>ytf p)) y6
def yqd (a1:(List Qp)) (a2:Qp) (a3:Qp) (x13:(Bool×(List Qr)×Int)):Option ((Bool×(List Qr)×Int) ⊕ (Bool×(List Qr))) :=
 if(decide (x13.2.2<(([a2.1,a2.2]).length:Int)))=true then
  (idxO ([a2.1,a2.2]) x13.2.2).bind fun v16 =>
  (yoc x13.1 a1 v16).bind fun v17 =>
  (yrj v17.1 (a3.1.1,a3.1.2,a3.2.1,a3.2.2)).bind fun v18 =>
  if v18=true then
   (guardO (x13.2.1.length+([v16]).length<=1099511627776)).bind fun u20 =>
   some (.inl (v17.2,(x13.2.1++[v16]),(w64 (x13.2.2+1))))
  else
   some (.inl (v17.2,x13.2.1,(w64 (x13.2.2+1))))
 else
  some (.inr (x13.1,x13.2.1))
def yni (a1:(List Qp)) (a2:Qp) (a3:Qp) (x1:(Bool×(List Qr))):Option (Qp×Bool) :=
 (loopO (yqd a1 a2 a3) (x1.1,x1.2,0)).bind fun y14=>ymi a1 y14
def yrd (a2:Qp) (v21:((List Qr)×Bool)) (v22:((List Qr)×Bool)) (x24:((List Qr)×Int)):Option (((List Qr)×Int) ⊕ (Bool×(List Qr))) :=
 if(decide (x24.2<((v21.1++v22.1).length:Int)))=true then
  (idxO (v21.1++v22.1) x24.2).bind fun v27 =>
  (ypf v27 a2.1).bind fun v28 =>
  (if(!v28)=true then
    (ypf a2.2 v27).bind fun v29 =>
    some (!v29)
   else
    some false).bind fun w30 =>
  if w30=true then
   (guardO (x24.1.length+([v27]).length<=1099511627776)).bind fun u32 =>
   some (.inl ((x24.1++[v27]),(w64 (x24.2+1))))
  else
   some (.inl (x24.1,(w64 (x24.2+1))))
 else
  some (.inr (v22.2,x24.1))
def yld (a0:Bool) (a1:(List Qp)) (a2:Qp) (a3:Qp):Option (Qp×Bool) :=
 (yvg a0 a1 a3.1).bind fun v21 =>
 (yvg v21.2 a1 a3.2).bind fun v22 =>
 (guardO (v21.1.length+v22.1.length<=1099511627776)).bind fun u23 =>
 (loopO (yrd a2 v21 v22) ([],0)).bind fun y25=>yni a1 a2 a3 y25
def ysm  (x4:(Bool×(List Qp))):Option ((List Qp)×Bool) :=
 if x4.1=true then
  some ([],false)
 else
  some (x4.2,true)
def ysb (a0:(List Qp)) (a1:(List Qp)) (x6:(Bool×(List Qp)×Int)):Option ((Bool×(List Qp)×Int) ⊕ (Bool×(List Qp))) :=
 if((decide (x6.2.2>=0))&&(!x6.1))=true then
  (idxO a1 x6.2.2).bind fun v9 =>
  (idxO x6.2.1 (w64 (x6.2.2+1))).bind fun v10 =>
  (yld x6.1 a0 v9 v10).bind fun v11 =>
  (idxO x6.2.1 x6.2.2).bind fun v12 =>
  some (.inl (v11.2,(x6.2.1.set (Int.toNat x6.2.2) v11.1),(w64 (x6.2.2-1))))
 else
  some (.inr (x6.1,x6.2.1))
def ypc (a0:(List Qp)) (a1:(List Qp)):Option ((List Qp)×Bool) :=
 (ytd a0 a1).bind fun v1 =>
 if((!v1.2)||(!v1.1))=true then
  some ([],false)
 else
  (yhb a1).bind fun v3 =>
  (loopO (ysb a0 a1) (false,v3,(w64 ((a1.length:Int)-2)))).bind fun y7=>ysm y7
def yzp  (x1:(List Int)):Option ((List Int)×Bool) :=
 some (x1,true)
def ybj (a0:(List Qp)) (a1:(List Qp)) (x2:((List Int)×Int)):Option (((List Int)×Int) ⊕ (((List Int)×Bool) ⊕ (List Int))) :=
 if(decide (x2.2<(a1.length:Int)))=true then
  (idxO a1 x2.2).bind fun v5 =>
  (guardO ((a1.length:Int)≠0)).bind fun u6 =>
  (idxO a1 (Int.tmod (w64 (x2.2+1)) (a1.length:Int))).bind fun v7 =>
  (yrf a0 v5 v7).bind fun v8 =>
  if(!v8.2)=true then
   some (.inr (.inl ([],false)))
  else
   if(!v8.1)=true then
    (guardO (x2.1.length+([x2.2]).length<=1099511627776)).bind fun u11 =>
    some (.inl ((x2.1++[x2.2]),(w64 (x2.2+1))))
   else
    some (.inl (x2.1,(w64 (x2.2+1))))
 else
  some (.inr (.inr x2.1))
def yuf (a0:(List Qp)) (a1:(List Qp)):Option ((List Int)×Bool) :=
 (loopO (ybj a0 a1) ([],0)).bind fun y3=>(Sum.elim (fun p=>some p) (fun p=>yzp p)) y3
def ytm  (x8:Unit):Option (Qp×Bool) :=
 some (((0,0),(0,0)),false)
def yzg (a0:(List Qp)) (x7:(List Qr)) (x9:Int):Option (Int ⊕ ((Qp×Bool) ⊕ Unit)) :=
 if(decide (x9<(x7.length:Int)))=true then
  (idxO x7 (w64 (x9-1))).bind fun v12 =>
  (yul a0 v12).bind fun v13 =>
  (idxO x7 x9).bind fun v14 =>
  (yul a0 v14).bind fun v15 =>
  if(!((v13.1.1==v15.1.1)&&(v13.1.2==v15.1.2)))=true then
   some (.inr (.inl ((v12,v14),true)))
  else
   some (.inl (w64 (x9+1)))
 else
  some (.inr (.inr ()))
def ycj (a0:(List Qp)) (x7:(List Qr)):Option (Qp×Bool) :=
 (loopO (yzg a0 x7) 1).bind fun y10=>(Sum.elim (fun p=>some p) (fun p=>ytm p)) y10
def ydj (a0:(List Qp)) (a1:Qp) (a2:Qp) (x17:((List Qr)×Int)):Option (((List Qr)×Int) ⊕ (List Qr)) :=
 if(decide (x17.2<(([a1.1,a1.2]).length:Int)))=true then
  (idxO ([a1.1,a1.2]) x17.2).bind fun v20 =>
  (yul a0 v20).bind fun v21 =>
  if(((v21.1.1==a2.1.1)&&(v21.1.2==a2.1.2))||((v21.1.1==a2.2.1)&&(v21.1.2==a2.2.2)))=true then
   (ytc x17.1 v20).bind fun v23 =>
   some (.inl (v23,(w64 (x17.2+1))))
  else
   some (.inl (x17.1,(w64 (x17.2+1))))
 else
  some (.inr x17.1)
def yum (a0:(List Qp)) (a1:Qp) (a2:Qp) (x6:(List Qr)):Option (Qp×Bool) :=
 (loopO (ydj a0 a1 a2) (x6,0)).bind fun y18=>ycj a0 y18
def yej (a1:Qp) (v3:((List Qr)×Bool)) (v4:((List Qr)×Bool)) (x25:((List Qr)×Int)):Option (((List Qr)×Int) ⊕ (List Qr)) :=
 if(decide (x25.2<((v3.1++v4.1).length:Int)))=true then
  (idxO (v3.1++v4.1) x25.2).bind fun v28 =>
  (yqb a1.1 v28).bind fun v29 =>
  (if(decide (v29<=0))=true then
    (yqb v28 a1.2).bind fun v30 =>
    some (decide (v30<=0))
   else
    some false).bind fun w31 =>
  if w31=true then
   (ytc x25.1 v28).bind fun v33 =>
   some (.inl (v33,(w64 (x25.2+1))))
  else
   some (.inl (x25.1,(w64 (x25.2+1))))
 else
  some (.inr x25.1)
def ydh (a0:(List Qp)) (a1:Qp) (a2:Qp):Option (Qp×Bool) :=
 (yrf a0 a1 a2).bind fun v1 =>
 if((!v1.2)||(!v1.1))=true then
  some (((0,0),(0,0)),false)
 else
  (yhl a0 a2.1).bind fun v3 =>
  (yhl a0 a2.2).bind fun v4 =>
  if((!v3.2)||(!v4.2))=true then
   some (((0,0),(0,0)),false)
  else
   (guardO (v3.1.length+v4.1.length<=1099511627776)).bind fun u24 =>
   (loopO (yej a1 v3 v4) ([],0)).bind fun y26=>yum a0 a1 a2 y26
def yvm  (x8:(List Qp)):Option ((List Qp)×Bool) :=
 some (x8,true)
def yac (a0:(List Qp)) (a1:(List Qp)) (x9:((List Qp)×Int)):Option (((List Qp)×Int) ⊕ (((List Qp)×Bool) ⊕ (List Qp))) :=
 if(decide (x9.2>=0))=true then
  (idxO a1 x9.2).bind fun v12 =>
  (idxO x9.1 (w64 (x9.2+1))).bind fun v13 =>
  (ydh a0 v12 v13).bind fun v14 =>
  if(!v14.2)=true then
   some (.inr (.inl ([],false)))
  else
   (idxO x9.1 x9.2).bind fun v16 =>
   some (.inl ((x9.1.set (Int.toNat x9.2) v14.1),(w64 (x9.2-1))))
 else
  some (.inr (.inr x9.1))
def yec (a0:(List Qp)) (a1:(List Qp)):Option ((List Qp)×Bool) :=
 (yhd a0 a1).bind fun v1 =>
 if(!v1)=true then
  some ([],false)
 else
  (yuf a0 a1).bind fun v3 =>
  (if(!v3.2)=true then
    some true
   else
    if(decide ((v3.1.length:Int)>0))=true then
     (idxO v3.1 0).bind fun v4 =>
     some (decide (v4<(w64 ((a1.length:Int)-1))))
    else
     some false).bind fun w5 =>
  if w5=true then
   some ([],false)
  else
   (guardO (a1.length<=1099511627776)).bind fun u7 =>
   (loopO (yac a0 a1) (a1,(w64 ((a1.length:Int)-2)))).bind fun y10=>(Sum.elim (fun p=>some p) (fun p=>yvm p)) y10
def yfj (a0:(List Qp)) (a1:(List Qp)):Option (Bool×Bool) :=
 (yhd a0 a1).bind fun v1 =>
 if(!v1)=true then
  some (false,false)
 else
  (yuf a0 a1).bind fun v3 =>
  if(!v3.2)=true then
   some (false,false)
  else
   (if((v3.1.length:Int)==0)=true then
     some true
    else
     (idxO v3.1 0).bind fun v5 =>
     some (v5==(w64 ((a1.length:Int)-1)))).bind fun w6 =>
   some (w6,true)
def yeh (a0:(List Qp)) (a1:(List Qp)):Option (Bool×Bool) :=
 (yvc a0 a1).bind fun v1 =>
 some ((v1.2&&((v1.1.length:Int)==0)),v1.2)
def ytr (a0:(List Qp)) (a1:(List Qp)):Option (Bool×Bool) :=
 (yuf a0 a1).bind fun v1 =>
 some ((v1.2&&((v1.1.length:Int)==0)),v1.2)
def yfh (a0:(List Qp)) (a1:(List Qp)):Option (Bool×Bool) :=
 (yhd a0 a1).bind fun v1 =>
 if(!v1)=true then
  some (false,false)
 else
  (ytr a0 a1).bind fun v3 =>
  some v3
def ymd (a0:(List Qp)) (a1:(List Qp)):Option ((List Int)×Bool) :=
 (yvc a0 a1).bind fun v1 =>
 some v1
def ynd (a0:(List Qp)) (a1:(List Qp)):Option ((List Int)×Bool) :=
 (yhd a0 a1).bind fun v1 =>
 if(!v1)=true then
  some ([],false)
 else
  (yuf a0 a1).bind fun v3 =>
  some v3
def ysj  (x2:Unit):Option Bool :=
 some true
def yfe (a0:(List Qp)) (a1:(List Qp)) (x3:Int):Option (Int ⊕ (Bool ⊕ Unit)) :=
 if(decide (x3<(a0.length:Int)))=true then
  (idxO a0 x3).bind fun v6 =>
  (idxO a1 x3).bind fun v7 =>
  if(!(((v6.1.1==v7.1.1)&&(v6.1.2==v7.1.2))&&((v6.2.1==v7.2.1)&&(v6.2.2==v7.2.2))))=true then
   some (.inr (.inl false))
  else
   some (.inl (w64 (x3+1)))
 else
  some (.inr (.inr ()))
def ylk (a0:(List Qp)) (a1:(List Qp)):Option Bool :=
 if((a0.length:Int) != (a1.length:Int))=true then
  some false
 else
  (loopO (yfe a0 a1) 0).bind fun y4=>(Sum.elim (fun p=>some p) (fun p=>ysj p)) y4
def yvf (a0:(List Qp)) (a1:Qp) (a2:Qp):Option (Bool×Bool) :=
 (ymg a0).bind fun v1 =>
 (if(!v1)=true then
   some true
  else
   (yfg a1).bind fun v2 =>
   if(!v2)=true then
    some true
   else
    (yfg a2).bind fun v3 =>
    some (!v3)).bind fun w4 =>
 if w4=true then
  some (false,false)
 else
  (yle false a0 a1 a2).bind fun v6 =>
  if v6.2=true then
   some (false,false)
  else
   some (v6.1,true)
def yig (a0:Cu):Option (Int×Cu) :=
 (yqa a0 ([0,13])).bind fun v1 =>
 (yqa v1.2 ([1,2,3,4,5,6,8,12,v1.1])).bind fun v2 =>
 some v2
def ywf (a0:(List Int)):Option ((List Qp)×(List Qp)×Int) :=
 (yee (a0,0,0)).bind fun v1 =>
 (yig v1.2.2).bind fun v2 =>
 some (v1.1,v1.2.1,v2.1)
def yse  (x1:Cu):Option ((List Qp)×Qp×Qp) :=
 (yje x1).bind fun v2 =>
 (yjc v2.2 v2.1).bind fun v3 =>
 (yjc v3.2 v2.1).bind fun v4 =>
 some (v2.1,v3.1,v4.1)
def yte (v7:(Int×Cu)) (x8:(List Qp)):Option ((List Qp)×Qp×Qp) :=
 (yob 1 v7.1).bind fun v9 =>
 (yob (w64 (v7.1-1)) v7.1).bind fun v10 =>
 (ypb 0).bind fun v11 =>
 (ypb 1).bind fun v12 =>
 some (x8,(v11,v9.1),(v10.1,v12))
def yii (v7:(Int×Cu)) (x13:((List Qp)×Int)):Option (((List Qp)×Int) ⊕ (List Qp)) :=
 if(decide (x13.2<=v7.1))=true then
  (yob x13.2 v7.1).bind fun v16 =>
  (ypb (Int.tmod x13.2 2)).bind fun v17 =>
  (guardO (x13.1.length+([(v16.1,v17)]).length<=1099511627776)).bind fun u18 =>
  some (.inl ((x13.1++[(v16.1,v17)]),(w64 (x13.2+1))))
 else
  some (.inr x13.1)
def yoe (a0:(List Int)):Option ((List Qp)×Qp×Qp) :=
 (yfb (a0,0,0) 2).bind fun v5 =>
 if v5.1=true then
  (yqa v5.2 ([2,3,4])).bind fun v7 =>
  (loopO (yii v7) ([],0)).bind fun y14=>yte v7 y14
 else
  yse v5.2
def yyt (a0:Qp) (a1:Qp):Option Bool :=
 (ypf a0.2 a1.1).bind fun v1 =>
 (if(!v1)=true then
   (ypf a1.2 a0.1).bind fun v2 =>
   some (!v2)
  else
   some false).bind fun w3 =>
 some w3
def ywc (a0:(List Qp)) (a1:Qp) (a2:Qp):Option (Bool×Bool) :=
 (ysc a0 ([a1,a2])).bind fun v1 =>
 if(!v1.2)=true then
  some (false,false)
 else
  (yyt a1 a2).bind fun v3 =>
  (if(!v3)=true then
    (idxO v1.1 0).bind fun v4 =>
    (idxO v4 0).bind fun v5 =>
    (idxO v4 1).bind fun v6 =>
    (idxO v1.1 1).bind fun v7 =>
    (idxO v7 0).bind fun v8 =>
    (idxO v7 1).bind fun v9 =>
    some ((w64 ((w64 ((w64 (v5+v6))+v8))+v9))==4)
   else
    some false).bind fun w10 =>
  some (w10,true)
def yaq (a0:Qp) (a1:Qp):Option Bool :=
 (yqb a0.2 a1.1).bind fun v1 =>
 (if(decide (v1<0))=true then
   some true
  else
   (yqb a1.2 a0.1).bind fun v2 =>
   some (decide (v2<0))).bind fun w3 =>
 some w3
def yoi  (x7:Bool):Option (Bool×Bool) :=
 some (x7,true)
def yxf (x8:(Bool×Int)) (x11:Bool):Option ((Bool×Int) ⊕ ((Bool×Bool) ⊕ Bool)) :=
 some (.inl (x11,(w64 (x8.2+1))))
def yxc (a0:(List Qp)) (a1:Qp) (a2:Qp) (v12:Qp) (x13:(Bool×Int)):Option ((Bool×Int) ⊕ ((Bool×Bool) ⊕ Bool)) :=
 if(decide (x13.2<(([a1,a2]).length:Int)))=true then
  (idxO ([a1,a2]) x13.2).bind fun v16 =>
  (yrf a0 v12 v16).bind fun v17 =>
  if(!v17.2)=true then
   some (.inr (.inl (false,false)))
  else
   some (.inl ((x13.1&&v17.1),(w64 (x13.2+1))))
 else
  some (.inr (.inr x13.1))
def yyf (a0:(List Qp)) (a1:Qp) (a2:Qp) (x8:(Bool×Int)):Option ((Bool×Int) ⊕ ((Bool×Bool) ⊕ Bool)) :=
 if(decide (x8.2<(([a1,a2]).length:Int)))=true then
  (idxO ([a1,a2]) x8.2).bind fun v12 =>
  (loopO (yxc a0 a1 a2 v12) (x8.1,0)).bind fun y14=>(Sum.elim (fun p=>some (.inr (.inl p))) (fun p=>yxf x8 p)) y14
 else
  some (.inr (.inr x8.1))
def yod (a0:(List Qp)) (a1:Qp) (a2:Qp):Option (Bool×Bool) :=
 (ycf a0).bind fun v1 =>
 (if(!v1)=true then
   some true
  else
   (yog a1).bind fun v2 =>
   if(!v2)=true then
    some true
   else
    (yog a2).bind fun v3 =>
    some (!v3)).bind fun w4 =>
 if w4=true then
  some (false,false)
 else
  (yaq a1 a2).bind fun v6 =>
  (loopO (yyf a0 a1 a2) (v6,0)).bind fun y9=>(Sum.elim (fun p=>some p) (fun p=>yoi p)) y9
def laws_FnChains_k1 (a1:(List Int)) (x19:Unit):Option Bool :=
 (ywf a1).bind fun v20 =>
 (ykk v20.1 v20.2.1 v20.2.2).bind fun v21 =>
 (yhk v20.1 v20.2.1 v20.2.2).bind fun v22 =>
 (yoe a1).bind fun v23 =>
 (ywc v23.1 v23.2.1 v23.2.2).bind fun v24 =>
 (yod v23.1 v23.2.1 v23.2.2).bind fun v25 =>
 if((!(v21.2==v22.2))||((v21.1 != v22.1)||((!(v24.2==v25.2))||(!(v24.1==v25.1)))))=true then
  some false
 else
  if v24.2=true then
   (ywc v23.1 v23.2.2 v23.2.1).bind fun v28 =>
   if((!v28.2)||(!(v28.1==v25.1)))=true then
    some false
   else
    some true
  else
   some true
def laws_FnChains_b1 (v3:((List Qp)×(List Qp))) (v4:((List Qp)×Bool)) (v5:((List Qp)×Bool)) (x35:Int):Option (Int ⊕ (Bool ⊕ Unit)) :=
 if(decide ((w64 (x35+1))<(v5.1.length:Int)))=true then
  (idxO v4.1 x35).bind fun v38 =>
  (idxO v4.1 (w64 (x35+1))).bind fun v39 =>
  (yvf v3.1 v38 v39).bind fun v40 =>
  (if(!v40.2)=true then
    some true
   else
    if(!v40.1)=true then
     some true
    else
     (idxO v5.1 x35).bind fun v41 =>
     (idxO v3.2 x35).bind fun v42 =>
     (yqr v41.1 v42.1).bind fun v43 =>
     if v43=true then
      some true
     else
      (yqr v42.2 v41.2).bind fun v44 =>
      some v44).bind fun w45 =>
  if w45=true then
   some (.inr (.inl false))
  else
   some (.inl (w64 (x35+1)))
 else
  some (.inr (.inr ()))
def laws_FnChains (a0:(List Int)) (a1:(List Int)):Option Bool :=
 (yod1 a0 a1).bind fun v1 =>
 if v1=true then
  some true
 else
  (yne a0).bind fun v3 =>
  (ypc v3.1 v3.2).bind fun v4 =>
  (yec v3.1 v3.2).bind fun v5 =>
  (ytd v3.1 v3.2).bind fun v6 =>
  (yfj v3.1 v3.2).bind fun v7 =>
  (yeh v3.1 v3.2).bind fun v8 =>
  (yfh v3.1 v3.2).bind fun v9 =>
  (ymd v3.1 v3.2).bind fun v10 =>
  (ynd v3.1 v3.2).bind fun v11 =>
  (if(!(v4.2==v5.2))=true then
    some true
   else
    (ylk v4.1 v5.1).bind fun v12 =>
    if(!v12)=true then
     some true
    else
     if(!(v6.2==v7.2))=true then
      some true
     else
      if(!(v6.1==v7.1))=true then
       some true
      else
       if(!(v8.2==v9.2))=true then
        some true
       else
        if(!(v8.1==v9.1))=true then
         some true
        else
         if(!(v10.2==v11.2))=true then
          some true
         else
          (yco v10.1 v11.1).bind fun v13 =>
          if(!v13)=true then
           some true
          else
           if(!(v8.2==v6.2))=true then
            some true
           else
            if(!(v10.2==v6.2))=true then
             some true
            else
             if v4.2=true then
              if(!v6.2)=true then
               some true
              else
               some (!v7.1)
             else
              some false).bind fun w14 =>
  if w14=true then
   some false
  else
   (if v6.2=true then
     if(!(v9.1==((v11.1.length:Int)==0)))=true then
      some true
     else
      if((v11.1.length:Int)==0)=true then
       if(!(v7.1==true))=true then
        some true
       else
        if v9.1=true then
         some (!v7.1)
        else
         some false
      else
       (idxO v11.1 0).bind fun v16 =>
       if(!(v7.1==(v16==(w64 ((v3.2.length:Int)-1)))))=true then
        some true
       else
        if v9.1=true then
         some (!v7.1)
        else
         some false
    else
     some false).bind fun w17 =>
   if w17=true then
    some false
   else
    if v4.2=true then
     (if((v5.1.length:Int) != (v3.2.length:Int))=true then
       some true
      else
       (idxO v5.1 (w64 ((v3.2.length:Int)-1))).bind fun v31 =>
       (idxO v3.2 (w64 ((v3.2.length:Int)-1))).bind fun v32 =>
       some (!(((v31.1.1==v32.1.1)&&(v31.1.2==v32.1.2))&&((v31.2.1==v32.2.1)&&(v31.2.2==v32.2.2))))).bind fun w33 =>
     if w33=true then
      some false
     else
      (loopO (laws_FnChains_b1 v3 v4 v5) 0).bind fun y36=>(Sum.elim (fun p=>some p) (fun p=>laws_FnChains_k1 a1 p)) y36
    else
     laws_FnChains_k1 a1 ()
end
end Go.PV

/-
  Plain definitions of what the functions answer.
  Conditions: none.
-/
import Derived.Test.YtcmcgkkjkaahcaaGreatPvCx
set_option linter.all false
namespace Go.PV
abbrev sP (l:List Qp):List C:=[.sl none (l.map ePt)]
abbrev oP (n:Nat) (l:List Qp):List C:=[.sl (some n) (l.map ePt)]
abbrev oN (n:Nat):List C:=[.sl (some n) []]
theorem frE (l:List Qp):frR (sP l)=true:=frR1 (yii1 (fr_P (fr_P fr_I fr_I) (fr_P fr_I fr_I))) rfl
theorem frO (n:Nat) (l:List Qp):frR (oP n l)=false:=rfl
theorem erPt (l:List Qp):eraL (l.map ePt)=l.map ePt:=ywa (yyx (yyx er_I er_I) (yyx er_I er_I))
abbrev kN (l:List RV):HH:={call:=some (none,l,true)}
abbrev hB (b:Bool):HH:={g:=some false,pv:=some (.bool b)}
abbrev gFbT:HH:={g:=some false,b:=some true}
abbrev gFbF:HH:={g:=some false,b:=some false}
abbrev nR (a b:Qr):Bool:= !((a.1==b.1)&&(a.2==b.2))
theorem kG {P:Program} {N id:Nat} {ops:List Oper} {b:Code} {l0:LS} {R:Prop} {Q:Ex->LS->Prop} (l1:LS) (hs:List (Nat×HH)) (ho:R) (hq:OkL P N b l1 Q) (e:(xGo P ops hs l0 l1).map (fun p=>(p.1,allP p.2))=some (l1,R):=by kernel_rfl):OkL P N (.seq (.region id ops.toArray false) b) l0 Q:=ylb (r_gq l1 hs ho e) hq
abbrev zR:List C:=[rI 0,rI 0]
abbrev gC (a:List Arg) (v:List RV):HH:={g:=some false,call:=some (some a,v,true)}
abbrev gN (v:List RV):HH:={g:=some false,call:=some (none,v,true)}
abbrev cS (a:List Arg) (v:List RV):HH:={call:=some (some a,v,true)}
abbrev lNt (v:List RV) (x:SV):HH:={lend:=some (none,v,x,true)}
abbrev lNf (v:List RV) (x:SV):HH:={lend:=some (none,v,x,false)}
theorem lnP (l:List Qp):(l.map ePt).length=l.length:=List.length_map ..
theorem tT:true=true:=rfl
theorem fF:false=false:=rfl
theorem wkk {l l':LS} (h1:refsOk l'=true:=by kernel_rfl) (h2:readL (ofL l) l'=l':=by kernel_rfl):wk l l':=yry1 h1 h2
noncomputable section
abbrev eL {α:Type} (n:Nat) (F:α->List C) (l:List α):List C:=[.sl (some n) (l.map F)]
abbrev fL {α:Type} (F:α->List C) (l:List α):List C:=[.sl none (l.map F)]
abbrev dP (n:Nat) (l:List Qp):Nat×SV:=(n,.d false (sP l))
abbrev dL {α:Type} (n:Nat) (F:α->List C) (l:List α):Nat×SV:=(n,.d false (fL F l))
abbrev vP (n k:Nat) (l:List Qp):Nat×SV:=(n,.ov false (oP k l))
abbrev vL {α:Type} (n k:Nat) (F:α->List C) (l:List α):Nat×SV:=(n,.ov false (eL k F l))
abbrev vN (n k:Nat):Nat×SV:=(n,.ov false (oN k))
abbrev pI (n:Nat) (x:Int):Nat×SV:=(n,.p (iV x))
abbrev pL {α:Type} (n:Nat) (l:List α):Nat×SV:=(n,.p (iV (l.length:Int)))
abbrev pB (n:Nat) (b:Bool):Nat×SV:=(n,.p (.bool b))
abbrev bR (n:Nat) (x:Qr):Nat×SV:=(n,.box (eRt x))
abbrev bP (n:Nat) (x:Qp):Nat×SV:=(n,.box (ePt x))
abbrev bC (n:Nat) (x:Cu):Nat×SV:=(n,.box (eCu x))
abbrev bX (n:Nat) (l:List C):Nat×SV:=(n,.box l)
abbrev rF (n r:Nat):Nat×SV:=(n,.ref r [(0,0)] none)
abbrev zQ:List C:=[rI 0,rI 0,rI 0,rI 0]
abbrev hR (n:Nat) (l:List C):Nat×HH:=(n,{row:=some l})
abbrev hN {α:Type} (n:Nat) (l:List α):Nat×HH:=(n,{n:=some l.length})
abbrev hC (n:Nat) (l:List RV):Nat×HH:=(n,kN l)
abbrev hT (n:Nat) (v:List RV) (x:SV):Nat×HH:=(n,lNt v x)
abbrev hF (n:Nat) (v:List RV) (x:SV):Nat×HH:=(n,lNf v x)
abbrev rO {α:Type} (k:Nat) (F:α->List C) (l:List α):RV:=.ov false (eL k F l)
theorem lF {α:Type} (F:α->List C) (l:List α):(l.map F).length=l.length:=List.length_map ..
theorem sR' (k:Nat) (l:List Qr):List.all [rO k eRt l] simpleR=true:=sa_o (wnR1 (ysc (wn_P wn_I wn_I)) rfl) rfl
theorem gW {α:Type} {xs:List α} {i:Int} {v:α} (k:Nat) (F:α->List C) (h:idxO xs i=some v):getRow [eL k F xs] [(0,0),((Int.toNat i),0)]=some (F v):=(gr0 rfl).trans (gre (yda F (yba h).2))
theorem aP' {α:Type} (k:Nat) (F:α->List C) (l m:List α):SV.ov false [.sl (some k) (l.map F++m.map F)]=.ov false (eL k F (l++m)):=congrArg (fun z=>SV.ov false [.sl (some k) z]) (List.map_append ..).symm
theorem lG' {α:Type} {l m:List α} {u:Unit} (F:α->List C) (h:guardO (l.length+m.length<=1099511627776)=some u):List.length ((l.map F):List (List C))+List.length ((m.map F):List (List C))<=1099511627776:=(by have hg:=ycb h;simpa using hg)
theorem kI {P:Program} {N:Nat} {c:Operand} {x y:Code} {l:LS} {Q:Ex->LS->Prop} {E:Bool} {α:Type} {a b:Option α} {r:α} (h:(if E=true then a else b)=some r) (h1:E=true->a=some r->OkL P N x l Q) (h2:E=false->b=some r->OkL P N y l Q) (hc:evS (ofL l) c=.p (.bool E):=by kernel_rfl):OkL P N (.cond c x y) l Q:=kc E (fun q=>h1 q (yon q h)) (fun q=>h2 q (ypn q h)) hc
attribute [simp] pI pL pB
def yrm (a0:Int) (a1:Int) (a2:Int):Option Bool :=
 some ((decide (a0>=a1))&&(decide (a0<=a2)))
def yli (a0:Int) (a1:Int) (a2:Int):Option Bool :=
 some ((decide (a1<=a0))&&(decide (a0<=a2)))
def ykt (a0:Int) (a1:Int):Option Int :=
 if(decide (a0>a1))=true then
  some a0
 else
  some a1
def ycn (a0:Int):Option Int :=
 (ykt a0 (w64 (0-a0))).bind fun v1 =>
 some v1
def ypo  (x1:Int):Option Int :=
 some x1
def yyh  (x2:Qr):Option (Qr ⊕ Int) :=
 if(decide (x2.2>0))=true then
  (guardO (x2.2≠0)).bind fun u5 =>
  some (.inl (x2.2,(Int.tmod x2.1 x2.2)))
 else
  some (.inr x2.1)
def yik (a0:Int) (a1:Int):Option Int :=
 (loopO yyh (a0,a1)).bind fun y3=>ypo y3
def yco (a0:Qr):Option Bool :=
 (yrm a0.2 1 1000000000).bind fun v1 =>
 (if v1=true then
   (yrm a0.1 (-1000000000) 1000000000).bind fun v2 =>
   if v2=true then
    (ycn a0.1).bind fun v3 =>
    (yik v3 a0.2).bind fun v4 =>
    some (v4==1)
   else
    some false
  else
   some false).bind fun w5 =>
 some w5
def yek1 (a0:Int) (a1:Int):Option Int :=
 if(a1==0)=true then
  some 0
 else
  (guardO (a1≠0)).bind fun u2 =>
  if(decide ((Int.tmod a0 a1)<0))=true then
   some (w64 ((w64 (Int.tdiv a0 a1))-1))
  else
   some (w64 (Int.tdiv a0 a1))
def yth1 (a0:Qr):Option Int :=
 (yek1 a0.1 a0.2).bind fun v1 =>
 some v1
def yqx (a0:Int):Option Int :=
 if(decide (a0<0))=true then
  some (w64 (0-a0))
 else
  some a0
def yje  (x3:Int):Option Int :=
 some x3
def ydd  (x4:Qr):Option (Qr ⊕ Int) :=
 if(x4.2 != 0)=true then
  (guardO (x4.2≠0)).bind fun u7 =>
  some (.inl (x4.2,(Int.tmod x4.1 x4.2)))
 else
  some (.inr x4.1)
def yhd (a0:Int) (a1:Int):Option Int :=
 (yqx a0).bind fun v1 =>
 (yqx a1).bind fun v2 =>
 (loopO ydd (v1,v2)).bind fun y5=>yje y5
def yqo (a0:Qr):Option Bool :=
 (yli a0.2 1 1000000000).bind fun v1 =>
 (if v1=true then
   (yli a0.1 (-1000000000) 1000000000).bind fun v2 =>
   if v2=true then
    (yhd a0.1 a0.2).bind fun v3 =>
    some (v3==1)
   else
    some false
  else
   some false).bind fun w4 =>
 some w4
def yac (a0:Qr) (a1:Qr):Option Int :=
 if(decide ((w64 (a0.1*a1.2))<(w64 (a1.1*a0.2))))=true then
  some (-1)
 else
  if(decide ((w64 (a0.1*a1.2))>(w64 (a1.1*a0.2))))=true then
   some 1
  else
   some 0
def yvd (a0:Qr) (a1:Qr):Option Bool :=
 (yac a0 a1).bind fun v1 =>
 some (decide (v1<0))
def ydb1 (a0:Int) (a1:Int):Option Int :=
 (guardO (a1≠0)).bind fun u1 =>
 if(decide ((Int.tmod a0 a1)<0))=true then
  some (w64 ((w64 (Int.tdiv a0 a1))-1))
 else
  some (w64 (Int.tdiv a0 a1))
def yzn1 (a0:Qr):Option Int :=
 (ydb1 a0.1 a0.2).bind fun v1 =>
 some v1
def ylr (a0:Qr):Option Qr :=
 some ((w64 (0-a0.1)),a0.2)
def ycq  (x1:Unit):Option Bool :=
 some true
def yfj (a0:(List Qr)) (x2:Int):Option (Int ⊕ (Bool ⊕ Unit)) :=
 if(decide (x2<(a0.length:Int)))=true then
  (idxO a0 x2).bind fun v5 =>
  (yqo v5).bind fun v6 =>
  if(!v6)=true then
   some (.inr (.inl false))
  else
   some (.inl (w64 (x2+1)))
 else
  some (.inr (.inr ()))
def yyj (a0:(List Qr)):Option Bool :=
 (loopO (yfj a0) 0).bind fun y3=>(Sum.elim (fun p=>some p) (fun p=>ycq p)) y3
def ymi (a0:Int) (a1:Int) (x2:Int):Option (Qr×Bool) :=
 (guardO (x2≠0)).bind fun u3 =>
 (yqo ((w64 (Int.tdiv a0 x2)),(w64 (Int.tdiv a1 x2)))).bind fun v4 =>
 if(!v4)=true then
  some ((0,0),false)
 else
  some (((w64 (Int.tdiv a0 x2)),(w64 (Int.tdiv a1 x2))),true)
def yfm (a0:Int) (a1:Int):Option (Qr×Bool) :=
 (yhd a0 a1).bind fun v1 =>
 if(decide (a1<0))=true then
  ymi a0 a1 (w64 (0-v1))
 else
  ymi a0 a1 v1
def yzj (a0:Qr) (a1:Qr):Option (Qr×Bool) :=
 (yyj ([a0,a1])).bind fun v1 =>
 if(!v1)=true then
  some ((0,0),false)
 else
  (yfm (w64 ((w64 (a0.1*a1.2))+(w64 (a1.1*a0.2)))) (w64 (a0.2*a1.2))).bind fun v3 =>
  some v3
def yzg (a0:Qr) (a1:Qr):Option (Qr×Bool) :=
 (ylr a1).bind fun v1 =>
 (yzj a0 v1).bind fun v2 =>
 some v2
def ydc1 (a0:Int) (a1:Int):Option Qr :=
 some ((IntKind.wrap .u64 ((IntKind.wrap .u64 ((IntKind.wrap .u64 ((ishr .u64 a0 32)*(ishr .u64 a1 32)))+(ishr .u64 (IntKind.wrap .u64 ((IntKind.wrap .u64 ((ishr .u64 a0 32)*(iand .u64 a1 4294967295)))+(ishr .u64 (IntKind.wrap .u64 ((iand .u64 a0 4294967295)*(iand .u64 a1 4294967295))) 32))) 32)))+(ishr .u64 (IntKind.wrap .u64 ((iand .u64 (IntKind.wrap .u64 ((IntKind.wrap .u64 ((ishr .u64 a0 32)*(iand .u64 a1 4294967295)))+(ishr .u64 (IntKind.wrap .u64 ((iand .u64 a0 4294967295)*(iand .u64 a1 4294967295))) 32))) 4294967295)+(IntKind.wrap .u64 ((iand .u64 a0 4294967295)*(ishr .u64 a1 32))))) 32))),(IntKind.wrap .u64 (a0*a1)))
def yos1 (a0:Int) (a1:Int):Option Qr :=
 (ydc1 a0 a1).bind fun v2 =>
 some v2
def yni (a0:Int) (a1:Int) (x5:Int):Option (Qr×Bool) :=
 (guardO (x5≠0)).bind fun u6 =>
 (yco ((w64 (Int.tdiv a0 x5)),(w64 (Int.tdiv a1 x5)))).bind fun v7 =>
 if(!v7)=true then
  some ((0,0),false)
 else
  some (((w64 (Int.tdiv a0 x5)),(w64 (Int.tdiv a1 x5))),true)
def yub (a0:Int) (a1:Int):Option (Qr×Bool) :=
 if(a1==0)=true then
  some ((0,0),false)
 else
  (ycn a0).bind fun v2 =>
  (ycn a1).bind fun v3 =>
  (yik v2 v3).bind fun v4 =>
  if(decide (a1<0))=true then
   yni a0 a1 (w64 (0-v4))
  else
   yni a0 a1 v4
def yjk (a0:Int):Option Int :=
 if(decide (a0>0))=true then
  some 1
 else
  if(decide (a0<0))=true then
   some (-1)
  else
   some 0
def yhb (a0:Qr) (a1:Qr):Option Int :=
 (yjk (w64 ((w64 (a0.1*a1.2))-(w64 (a1.1*a0.2))))).bind fun v1 =>
 some v1
def yak  (x3:Qr):Option Qr :=
 some x3
def yfb (a0:(List Qr)) (a1:Qr->Qr->Option Int) (x4:(Int×Int×Int)):Option ((Int×Int×Int) ⊕ Qr) :=
 if(decide (x4.2.2<(a0.length:Int)))=true then
  (idxO a0 x4.2.2).bind fun v7 =>
  (a1 v7 (x4.1,x4.2.1)).bind fun v8 =>
  if(decide (v8<0))=true then
   some (.inl (v7.1,v7.2,(w64 (x4.2.2+1))))
  else
   some (.inl (x4.1,x4.2.1,(w64 (x4.2.2+1))))
 else
  some (.inr (x4.1,x4.2.1))
def yce (a0:(List Qr)) (a1:Qr->Qr->Option Int) (x1:Unit):Option Qr :=
 (idxO a0 0).bind fun v2 =>
 (loopO (yfb a0 a1) (v2.1,v2.2,1)).bind fun y5=>yak y5
def ybd (a0:(List Qr)) (a1:(Qr->Qr->Option Int)):Option Qr :=
 if(decide ((a0.length:Int)<1))=true then
  none
 else
  yce a0 a1 ()
def ybk  (x3:Qr):Option Qr :=
 some x3
def ygb (a0:(List Qr)) (a1:Qr->Qr->Option Int) (x4:(Int×Int×Int)):Option ((Int×Int×Int) ⊕ Qr) :=
 if(decide (x4.2.2<(a0.length:Int)))=true then
  (idxO a0 x4.2.2).bind fun v7 =>
  (a1 v7 (x4.1,x4.2.1)).bind fun v8 =>
  if(decide (v8>0))=true then
   some (.inl (v7.1,v7.2,(w64 (x4.2.2+1))))
  else
   some (.inl (x4.1,x4.2.1,(w64 (x4.2.2+1))))
 else
  some (.inr (x4.1,x4.2.1))
def yde (a0:(List Qr)) (a1:Qr->Qr->Option Int) (x1:Unit):Option Qr :=
 (idxO a0 0).bind fun v2 =>
 (loopO (ygb a0 a1) (v2.1,v2.2,1)).bind fun y5=>ybk y5
def ycd (a0:(List Qr)) (a1:(Qr->Qr->Option Int)):Option Qr :=
 if(decide ((a0.length:Int)<1))=true then
  none
 else
  yde a0 a1 ()
def yoa (a0:Int):Option Qr :=
 some (a0,1)
def ygm (a0:Qr):Option Bool :=
 (yco a0).bind fun v1 =>
 (if v1=true then
   (yrm a0.1 0 a0.2).bind fun v2 =>
   some v2
  else
   some false).bind fun w3 =>
 some w3
def yif (a0:Qr):Option Bool :=
 (ygm a0).bind fun v1 =>
 some (v1&&(decide (a0.2<=100)))
def ydq  (x1:Int):Option Int :=
 some x1
def ygj (a0:(List Qp)) (a1:Qr) (x2:Int):Option (Int ⊕ Int) :=
 (if(decide ((w64 (x2+2))<(a0.length:Int)))=true then
   (idxO a0 (w64 (x2+1))).bind fun v4 =>
   (yhb v4.1 a1).bind fun v5 =>
   some (decide (v5<0))
  else
   some false).bind fun w6 =>
 if w6=true then
  some (.inl (w64 (x2+1)))
 else
  some (.inr x2)
def yro (a0:(List Qp)) (a1:Qr):Option Int :=
 (loopO (ygj a0 a1) 0).bind fun y3=>ydq y3
def yyk (a0:Qr) (a1:Qr):Option (Qr×Bool) :=
 (yub (w64 ((w64 (a0.1*a1.2))-(w64 (a1.1*a0.2)))) (w64 (a0.2*a1.2))).bind fun v1 =>
 some v1
def yrq (a0:Qr) (a1:Qr):Option (Qr×Bool) :=
 if(a1.1==0)=true then
  some ((0,0),false)
 else
  (yub (w64 (a0.1*a1.2)) (w64 (a0.2*a1.1))).bind fun v2 =>
  some v2
def yee (a0:Qp) (a1:Qp):Option Qr :=
 (yyk a1.2 a0.2).bind fun v1 =>
 (yyk a1.1 a0.1).bind fun v2 =>
 (yrq v1.1 v2.1).bind fun v3 =>
 some v3.1
def yso (a0:Qr) (a1:Qr):Option (Qr×Bool) :=
 (yub (w64 (a0.1*a1.1)) (w64 (a0.2*a1.2))).bind fun v1 =>
 some v1
def yto (a0:Qr) (a1:Qr):Option (Qr×Bool) :=
 (yub (w64 ((w64 (a0.1*a1.2))+(w64 (a1.1*a0.2)))) (w64 (a0.2*a1.2))).bind fun v1 =>
 some v1
def ylz (a0:Qp) (a1:Qp) (a2:Qr):Option (Qr×Bool) :=
 (yyk a2 a0.1).bind fun v1 =>
 (yee a0 a1).bind fun v2 =>
 (yso v1.1 v2).bind fun v3 =>
 if((!v1.2)||(!v3.2))=true then
  some ((0,0),false)
 else
  (yto a0.2 v3.1).bind fun v5 =>
  some v5
def yoi (a0:(List Qp)) (a1:Qr):Option (Qr×Bool) :=
 (yro a0 a1).bind fun v1 =>
 (idxO a0 v1).bind fun v2 =>
 (idxO a0 (w64 (v1+1))).bind fun v3 =>
 (ylz v2 v3 a1).bind fun v4 =>
 some v4
def yke :Option Qr :=
 some (0,1)
def yoe :Option Qr :=
 some (1,1)
def ypa  (x1:Unit):Option Int :=
 some (-1)
def yca (a0:(List Qp)) (a1:Qp->Option Bool) (x2:Int):Option (Int ⊕ (Int ⊕ Unit)) :=
 if(decide (x2<(a0.length:Int)))=true then
  (idxO a0 x2).bind fun v5 =>
  (a1 v5).bind fun v6 =>
  if v6=true then
   some (.inr (.inl x2))
  else
   some (.inl (w64 (x2+1)))
 else
  some (.inr (.inr ()))
def yga (a0:(List Qp)) (a1:(Qp->Option Bool)):Option Int :=
 (loopO (yca a0 a1) 0).bind fun y3=>(Sum.elim (fun p=>some p) (fun p=>ypa p)) y3
def yha (a0:(List Qp)) (a1:(Qp->Option Bool)):Option Bool :=
 (yga a0 a1).bind fun v1 =>
 some (decide (v1>=0))
def ydo (a0:Qr):Option Bool :=
 (yqo a0).bind fun v1 =>
 some (v1&&((decide (a0.1>=0))&&(decide (a0.1<=a0.2))))
def yhm (a0:Qr):Option Bool :=
 (ydo a0).bind fun v1 =>
 some (v1&&(decide (a0.2<=100)))
def ywe (a0:Bool) (a1:Qr) (a2:Bool):Option (Qr×Bool) :=
 if(!a2)=true then
  (yke).bind fun v2 =>
  some (v2,true)
 else
  some (a1,a0)
def yxe (a0:Bool) (a1:Qr) (a2:Qr):Option (Qr×Bool) :=
 (yzg a1 a2).bind fun v1 =>
 (ywe a0 v1.1 v1.2).bind fun v2 =>
 some v2
def ywd (a0:Qp) (c0:Qr):Option Bool :=
 (yvd a0.1 c0).bind fun v1 =>
 some (!v1)
def yck (a0:(List Qp)) (a1:Qr):Option Int :=
 (yga a0 (fun x0=>ywd x0 a1)).bind fun v1 =>
 some (if(w64 (v1-1))<0 then 0 else(w64 (v1-1)))
def yhj (a0:Qr) (a1:Qr):Option (Qr×Bool) :=
 (yyj ([a0,a1])).bind fun v1 =>
 if((!v1)||(a1.1==0))=true then
  some ((0,0),false)
 else
  (yfm (w64 (a0.1*a1.2)) (w64 (a0.2*a1.1))).bind fun v3 =>
  some v3
def ykk (a0:Bool) (a1:Qr) (a2:Qr):Option (Qr×Bool) :=
 (yhj a1 a2).bind fun v1 =>
 (ywe a0 v1.1 v1.2).bind fun v2 =>
 some v2
def yjf (a0:Bool) (a1:Qp) (a2:Qp):Option (Qr×Bool) :=
 (yxe a0 a2.2 a1.2).bind fun v1 =>
 (yxe v1.2 a2.1 a1.1).bind fun v2 =>
 (ykk v2.2 v1.1 v2.1).bind fun v3 =>
 some v3
def yah (a0:Qr) (a1:Qr):Option (Qr×Bool) :=
 (yyj ([a0,a1])).bind fun v1 =>
 if(!v1)=true then
  some ((0,0),false)
 else
  (yfm (w64 (a0.1*a1.1)) (w64 (a0.2*a1.2))).bind fun v3 =>
  some v3
def ydn (a0:Bool) (a1:Qr) (a2:Qr):Option (Qr×Bool) :=
 (yah a1 a2).bind fun v1 =>
 (ywe a0 v1.1 v1.2).bind fun v2 =>
 some v2
def yzh (a0:Bool) (a1:Qr) (a2:Qr):Option (Qr×Bool) :=
 (yzj a1 a2).bind fun v1 =>
 (ywe a0 v1.1 v1.2).bind fun v2 =>
 some v2
def yzk (a0:Bool) (a1:Qp) (a2:Qr) (a3:Qr):Option (Qr×Bool) :=
 (yxe a0 a3 a1.1).bind fun v1 =>
 (ydn v1.2 a2 v1.1).bind fun v2 =>
 (yzh v2.2 a1.2 v2.1).bind fun v3 =>
 some v3
def yya (a0:Bool) (a1:(List Qp)) (a2:Qr):Option (Qr×Bool) :=
 (yck a1 a2).bind fun v1 =>
 (idxO a1 v1).bind fun v2 =>
 (idxO a1 (w64 (v1+1))).bind fun v3 =>
 (yjf a0 v2 v3).bind fun v4 =>
 (yzk v4.2 v2 v4.1 a2).bind fun v5 =>
 some v5
def ysq (a0:Qp) (a1:Qp) (a2:Qr):Option (Qr×Bool) :=
 (yyk a2 a0.2).bind fun v1 =>
 if(!v1.2)=true then
  some ((0,0),false)
 else
  (yee a0 a1).bind fun v3 =>
  (yrq v1.1 v3).bind fun v4 =>
  if(!v4.2)=true then
   some ((0,0),false)
  else
   (yto a0.1 v4.1).bind fun v6 =>
   some v6
def yal (a0:Bool) (a1:Qp) (a2:Qp) (a3:Qr):Option (Qr×Bool) :=
 (yxe a0 a3 a1.2).bind fun v1 =>
 (yjf v1.2 a1 a2).bind fun v2 =>
 (ykk v2.2 v1.1 v2.1).bind fun v3 =>
 (yzh v3.2 a1.1 v3.1).bind fun v4 =>
 some v4
def yxn (a0:(List Qp)) (x3:Unit):Option Bool :=
 (idxO a0 0).bind fun v4 =>
 (yoa 0).bind fun v5 =>
 (yhb v4.1 v5).bind fun v6 =>
 (if(v6==0)=true then
   (idxO a0 (w64 ((a0.length:Int)-1))).bind fun v7 =>
   (yoa 1).bind fun v8 =>
   (yhb v7.1 v8).bind fun v9 =>
   some (v9==0)
  else
   some false).bind fun w10 =>
 some w10
def ybl (a0:(List Qp)) (x11:Int):Option (Int ⊕ (Bool ⊕ Unit)) :=
 if(decide (x11<(a0.length:Int)))=true then
  (idxO a0 x11).bind fun v14 =>
  (yif v14.1).bind fun v15 =>
  (if(!v15)=true then
    some true
   else
    (yif v14.2).bind fun v16 =>
    if(!v16)=true then
     some true
    else
     if(decide (x11>0))=true then
      (idxO a0 (w64 (x11-1))).bind fun v17 =>
      (yhb v17.1 v14.1).bind fun v18 =>
      some (decide (v18>=0))
     else
      some false).bind fun w19 =>
  if w19=true then
   some (.inr (.inl false))
  else
   some (.inl (w64 (x11+1)))
 else
  some (.inr (.inr ()))
def yxc (a0:(List Qp)):Option Bool :=
 (yrm (a0.length:Int) 2 12).bind fun v1 =>
 if(!v1)=true then
  some false
 else
  (loopO (ybl a0) 0).bind fun y12=>(Sum.elim (fun p=>some p) (fun p=>yxn a0 p)) y12
def yuo  (x1:(List Qr)):Option (List Qr) :=
 some x1
def yai (a0:(List Qp)) (x2:((List Qr)×Int)):Option (((List Qr)×Int) ⊕ (List Qr)) :=
 if(decide (x2.2<(a0.length:Int)))=true then
  (idxO a0 (w64 (x2.2-1))).bind fun v5 =>
  (idxO a0 x2.2).bind fun v6 =>
  (yee v5 v6).bind fun v7 =>
  (guardO (x2.1.length+([v7]).length<=1099511627776)).bind fun u8 =>
  some (.inl ((x2.1++[v7]),(w64 (x2.2+1))))
 else
  some (.inr x2.1)
def ylk (a0:(List Qp)):Option (List Qr) :=
 (loopO (yai a0) ([],1)).bind fun y3=>yuo y3
def ycl  (x1:Unit):Option Bool :=
 some true
def ybi (v2:(List Qr)) (x3:Int):Option (Int ⊕ (Bool ⊕ Unit)) :=
 if(decide (x3<(v2.length:Int)))=true then
  (idxO v2 x3).bind fun v6 =>
  if(v6.1==0)=true then
   some (.inr (.inl false))
  else
   some (.inl (w64 (x3+1)))
 else
  some (.inr (.inr ()))
def yye (a0:(List Qp)):Option Bool :=
 (ylk a0).bind fun v2 =>
 (loopO (ybi v2) 0).bind fun y4=>(Sum.elim (fun p=>some p) (fun p=>ycl p)) y4
def ymr  (x1:(List (List Int))):Option (List (List Int)) :=
 some x1
def ypi (v2:(List Qr)) (x3:((List (List Int))×Int)):Option (((List (List Int))×Int) ⊕ (List (List Int))) :=
 if(decide (x3.2<(v2.length:Int)))=true then
  (idxO v2 x3.2).bind fun v6 =>
  (yjk v6.1).bind fun v7 =>
  (if(decide ((x3.1.length:Int)>0))=true then
    (idxO x3.1 (w64 ((x3.1.length:Int)-1))).bind fun v8 =>
    (idxO v8 2).bind fun v9 =>
    some (v9==v7)
   else
    some false).bind fun w10 =>
  if w10=true then
   (idxO x3.1 (w64 ((x3.1.length:Int)-1))).bind fun v12 =>
   (idxO v12 1).bind fun v13 =>
   some (.inl ((x3.1.set (Int.toNat (w64 ((x3.1.length:Int)-1))) (v12.set (Int.toNat 1) (w64 (x3.2+1)))),(w64 (x3.2+1))))
  else
   (guardO (x3.1.length+([[x3.2,(w64 (x3.2+1)),v7]]).length<=1099511627776)).bind fun u14 =>
   some (.inl ((x3.1++[[x3.2,(w64 (x3.2+1)),v7]]),(w64 (x3.2+1))))
 else
  some (.inr x3.1)
def ymk (a0:(List Qp)):Option (List (List Int)) :=
 (ylk a0).bind fun v2 =>
 (loopO (ypi v2) ([],0)).bind fun y4=>ymr y4
def yeq  (x1:(List Qr)):Option (List Qr) :=
 some x1
def ykf (a0:(List Qp)) (v2:(List (List Int))) (x4:((List Qr)×Int)):Option (((List Qr)×Int) ⊕ (List Qr)) :=
 if(decide (x4.2<((v2.drop (Int.toNat 1)).length:Int)))=true then
  (idxO (v2.drop (Int.toNat 1)) x4.2).bind fun v7 =>
  (idxO v7 0).bind fun v8 =>
  (idxO a0 v8).bind fun v9 =>
  (guardO (x4.1.length+([v9.1]).length<=1099511627776)).bind fun u10 =>
  some (.inl ((x4.1++[v9.1]),(w64 (x4.2+1))))
 else
  some (.inr x4.1)
def ylf (a0:(List Qp)):Option (List Qr) :=
 (ymk a0).bind fun v2 =>
 (guardO (0<=1/\1<=(v2.length:Int))).bind fun u3 =>
 (loopO (ykf a0 v2) ([],0)).bind fun y5=>yeq y5
def yim (a0:Qp):Option Bool :=
 (yhm a0.1).bind fun v1 =>
 (if(!v1)=true then
   some true
  else
   (yhm a0.2).bind fun v2 =>
   some (!v2)).bind fun w3 =>
 some w3
def yqu  (x1:(List Qr)):Option (List Qr) :=
 some x1
def yrg (a0:(List Qp)) (x2:((List Qr)×Int)):Option (((List Qr)×Int) ⊕ (List Qr)) :=
 if(decide (x2.2<(a0.length:Int)))=true then
  (idxO a0 x2.2).bind fun v5 =>
  (guardO (x2.1.length+([v5.1]).length<=1099511627776)).bind fun u6 =>
  some (.inl ((x2.1++[v5.1]),(w64 (x2.2+1))))
 else
  some (.inr x2.1)
def ynp (a0:(List Qp)):Option (List Qr) :=
 (loopO (yrg a0) ([],0)).bind fun y3=>yqu y3
def ydl  (x1:Unit):Option Bool :=
 some true
def yci (a0:(List Qr)) (x2:Int):Option (Int ⊕ (Bool ⊕ Unit)) :=
 if(decide (x2<(a0.length:Int)))=true then
  (idxO a0 (w64 (x2-1))).bind fun v5 =>
  (idxO a0 x2).bind fun v6 =>
  (yvd v5 v6).bind fun v7 =>
  if(!v7)=true then
   some (.inr (.inl false))
  else
   some (.inl (w64 (x2+1)))
 else
  some (.inr (.inr ()))
def yen (a0:(List Qr)):Option Bool :=
 (loopO (yci a0) 1).bind fun y3=>(Sum.elim (fun p=>some p) (fun p=>ydl p)) y3
def yed (a0:(List Qp)):Option Bool :=
 (yli (a0.length:Int) 2 12).bind fun v1 =>
 (if(!v1)=true then
   some true
  else
   (yha a0 (fun x0=>yim x0)).bind fun v2 =>
   some v2).bind fun w3 =>
 if w3=true then
  some false
 else
  (idxO a0 0).bind fun v5 =>
  (yke).bind fun v6 =>
  (if((v5.1.1==v6.1)&&(v5.1.2==v6.2))=true then
    (idxO a0 (w64 ((a0.length:Int)-1))).bind fun v7 =>
    (yoe).bind fun v8 =>
    if((v7.1.1==v8.1)&&(v7.1.2==v8.2))=true then
     (ynp a0).bind fun v9 =>
     (yen v9).bind fun v10 =>
     some v10
    else
     some false
   else
    some false).bind fun w11 =>
  some w11
def ynr  (x1:(List Qr)):Option (List Qr) :=
 some x1
def yze (a0:(List Qp)) (x2:(Bool×(List Qr)×Int)):Option ((Bool×(List Qr)×Int) ⊕ (List Qr)) :=
 if(decide (x2.2.2<(a0.length:Int)))=true then
  (idxO a0 (w64 (x2.2.2-1))).bind fun v5 =>
  (idxO a0 x2.2.2).bind fun v6 =>
  (yjf x2.1 v5 v6).bind fun v7 =>
  (guardO (x2.2.1.length+([v7.1]).length<=1099511627776)).bind fun u8 =>
  some (.inl (v7.2,(x2.2.1++[v7.1]),(w64 (x2.2.2+1))))
 else
  some (.inr x2.2.1)
def yqi (a0:(List Qp)):Option (List Qr) :=
 (loopO (yze a0) (false,[],1)).bind fun y3=>ynr y3
def ysa  (x1:Unit):Option Int :=
 some (-1)
def yka (a0:(List Qr)) (a1:Qr->Option Bool) (x2:Int):Option (Int ⊕ (Int ⊕ Unit)) :=
 if(decide (x2<(a0.length:Int)))=true then
  (idxO a0 x2).bind fun v5 =>
  (a1 v5).bind fun v6 =>
  if v6=true then
   some (.inr (.inl x2))
  else
   some (.inl (w64 (x2+1)))
 else
  some (.inr (.inr ()))
def yma (a0:(List Qr)) (a1:(Qr->Option Bool)):Option Int :=
 (loopO (yka a0 a1) 0).bind fun y3=>(Sum.elim (fun p=>some p) (fun p=>ysa p)) y3
def yta (a0:(List Qr)) (a1:(Qr->Option Bool)):Option Bool :=
 (yma a0 a1).bind fun v1 =>
 some (decide (v1>=0))
def ysm (a0:Qr):Option Bool :=
 some (a0.1==0)
def yfn (a0:(List Qp)):Option Bool :=
 (yed a0).bind fun v1 =>
 (if v1=true then
   (yqi a0).bind fun v2 =>
   (yta v2 (fun x0=>ysm x0)).bind fun v3 =>
   some (!v3)
  else
   some false).bind fun w4 =>
 some w4
def yaf (a0:(List Qp)):Option Bool :=
 (yfn a0).bind fun v1 =>
 some v1
def ylt (a0:Qr):Option Int :=
 (yke).bind fun v1 =>
 (yac a0 v1).bind fun v2 =>
 some v2
def yru  (x1:(List (List Int))):Option (List (List Int)) :=
 some x1
def yjm (v2:(List Qr)) (x3:((List (List Int))×Int)):Option (((List (List Int))×Int) ⊕ (List (List Int))) :=
 if(decide (x3.2<(v2.length:Int)))=true then
  (idxO v2 x3.2).bind fun v6 =>
  (if(decide ((w64 ((x3.1.length:Int)-1))>=0))=true then
    (idxO x3.1 (w64 ((x3.1.length:Int)-1))).bind fun v7 =>
    (idxO v7 2).bind fun v8 =>
    (ylt v6).bind fun v9 =>
    some (v8==v9)
   else
    some false).bind fun w10 =>
  if w10=true then
   (idxO x3.1 (w64 ((x3.1.length:Int)-1))).bind fun v12 =>
   (idxO v12 1).bind fun v13 =>
   some (.inl ((x3.1.set (Int.toNat (w64 ((x3.1.length:Int)-1))) (v12.set (Int.toNat 1) (w64 (x3.2+1)))),(w64 (x3.2+1))))
  else
   (ylt v6).bind fun v14 =>
   (guardO (x3.1.length+([[x3.2,(w64 (x3.2+1)),v14]]).length<=1099511627776)).bind fun u15 =>
   some (.inl ((x3.1++[[x3.2,(w64 (x3.2+1)),v14]]),(w64 (x3.2+1))))
 else
  some (.inr x3.1)
def yop (a0:(List Qp)):Option (List (List Int)) :=
 (yqi a0).bind fun v2 =>
 (loopO (yjm v2) ([],0)).bind fun y4=>yru y4
def ytm (a0:(List Qp)):Option Bool :=
 (yaf a0).bind fun v1 =>
 if(!v1)=true then
  some false
 else
  (yop a0).bind fun v3 =>
  (if((v3.length:Int)==2)=true then
    (idxO v3 0).bind fun v4 =>
    (idxO v4 2).bind fun v5 =>
    some (v5==1)
   else
    some false).bind fun w6 =>
  some w6
def yvs  (x1:(List Qr)):Option (List Qr) :=
 some x1
def ynk (a0:(List Qp)) (v2:(List (List Int))) (x4:((List Qr)×Int)):Option (((List Qr)×Int) ⊕ (List Qr)) :=
 if(decide (x4.2<((v2.drop (Int.toNat 1)).length:Int)))=true then
  (idxO (v2.drop (Int.toNat 1)) x4.2).bind fun v7 =>
  (idxO v7 0).bind fun v8 =>
  (idxO a0 v8).bind fun v9 =>
  (guardO (x4.1.length+([v9.1]).length<=1099511627776)).bind fun u10 =>
  some (.inl ((x4.1++[v9.1]),(w64 (x4.2+1))))
 else
  some (.inr x4.1)
def ytq (a0:(List Qp)):Option (List Qr) :=
 (yop a0).bind fun v2 =>
 (guardO (0<=1/\1<=(v2.length:Int))).bind fun u3 =>
 (loopO (ynk a0 v2) ([],0)).bind fun y5=>yvs y5
def yob (a0:(List Qr)):Option (List Qr) :=
 (guardO (a0.length<=1099511627776)).bind fun u2 =>
 some a0
def yzd (a0:Cu) (x1:Int):Option (Int×Cu) :=
 if(decide ((w64 (a0.2.1+1))<=(a0.1.length:Int)))=true then
  some (x1,(a0.1,(w64 (a0.2.1+1)),(IntKind.wrap .u64 ((IntKind.wrap .u64 ((IntKind.wrap .u64 (a0.2.2*6364136223846793005))+(IntKind.wrap .u64 x1)))+1442695040888963407))))
 else
  some ((IntKind.wrap .i64 (iand .u64 (ishr .u64 (IntKind.wrap .u64 ((IntKind.wrap .u64 ((IntKind.wrap .u64 (a0.2.2*6364136223846793005))+(IntKind.wrap .u64 x1)))+1442695040888963407)) 40) 255)),(a0.1,(w64 (a0.2.1+1)),(IntKind.wrap .u64 ((IntKind.wrap .u64 ((IntKind.wrap .u64 (a0.2.2*6364136223846793005))+(IntKind.wrap .u64 x1)))+1442695040888963407))))
def ygh (a0:Cu):Option (Int×Cu) :=
 if(decide (a0.2.1<(a0.1.length:Int)))=true then
  (idxO a0.1 a0.2.1).bind fun v4 =>
  yzd a0 (IntKind.wrap .i64 v4)
 else
  yzd a0 0
def yae (a1:Int) (x3:((List Int)×Int×Int×Int)):Option (Int×Cu) :=
 (guardO (a1≠0)).bind fun u4 =>
 some ((Int.tmod x3.2.2.2 a1),(x3.1,x3.2.1,x3.2.2.1))
def ybb (a0:Cu) (a1:Int):Option (Int×Cu) :=
 if(decide (a1<=1))=true then
  some (0,a0)
 else
  (ygh a0).bind fun v2 =>
  if(decide (a1>200))=true then
   (ygh v2.2).bind fun v6 =>
   yae a1 (v6.2.1,v6.2.2.1,v6.2.2.2,(w64 ((w64 (v2.1*256))+v6.1)))
  else
   yae a1 (v2.2.1,v2.2.2.1,v2.2.2.2,v2.1)
def yab (a0:Cu) (a1:(List Int)):Option (Int×Cu) :=
 (ybb a0 (a1.length:Int)).bind fun v1 =>
 (idxO a1 v1.1).bind fun v2 =>
 some (v2,v1.2)
def yjc (a0:Cu) (a1:Int):Option (Bool×Cu) :=
 (ybb a0 a1).bind fun v1 =>
 some ((v1.1==0),v1.2)
def yqc (a0:Cu) (a1:Int):Option (Qr×Cu) :=
 (ybb a0 (w64 (a1+1))).bind fun v1 =>
 (yub v1.1 a1).bind fun v2 =>
 some (v2.1,v1.2)
def ypp (a0:Qr):Option Qr :=
 some ((w64 (a0.2-a0.1)),a0.2)
def ygn (a0:(List Qr)) (a1:Qr) (x1:Int):Option (List Qr) :=
 (if(decide (x1<(a0.length:Int)))=true then
   (idxO a0 x1).bind fun v2 =>
   some ((v2.1==a1.1)&&(v2.2==a1.2))
  else
   some false).bind fun w3 =>
 if w3=true then
  some a0
 else
  (guardO (0<=x1/\x1<=(a0.length:Int))).bind fun u5 =>
  (guardO ((a0.take (Int.toNat x1)).length<=1099511627776)).bind fun u6 =>
  (guardO ((a0.take (Int.toNat x1)).length+([a1]).length<=1099511627776)).bind fun u7 =>
  (guardO (((a0.take (Int.toNat x1))++[a1]).length+(a0.drop (Int.toNat x1)).length<=1099511627776)).bind fun u8 =>
  some (((a0.take (Int.toNat x1))++[a1])++(a0.drop (Int.toNat x1)))
def yhn (a0:(List Qr)) (a1:Qr) (x9:Int):Option (Int ⊕ Int) :=
 (if(decide (x9<(a0.length:Int)))=true then
   (idxO a0 x9).bind fun v11 =>
   (yhb v11 a1).bind fun v12 =>
   some (decide (v12<0))
  else
   some false).bind fun w13 =>
 if w13=true then
  some (.inl (w64 (x9+1)))
 else
  some (.inr x9)
def ybf (a0:(List Qr)) (a1:Qr):Option (List Qr) :=
 (loopO (yhn a0 a1) 0).bind fun y10=>ygn a0 a1 y10
def ydk  (x6:((List Int)×Int×Int×(List Qp))):Option ((List Qp)×Cu) :=
 some (x6.2.2.2,(x6.1,x6.2.1,x6.2.2.1))
def yek (a1:Int) (x5:((List Int)×Int×Int×(List Qr))) (x7:((List Int)×Int×Int×(List Qp)×Int)):Option (((List Int)×Int×Int×(List Qp)×Int) ⊕ ((List Int)×Int×Int×(List Qp))) :=
 if(decide (x7.2.2.2.2<(x5.2.2.2.length:Int)))=true then
  (idxO x5.2.2.2 x7.2.2.2.2).bind fun v10 =>
  (yqc (x7.1,x7.2.1,x7.2.2.1) a1).bind fun v11 =>
  (guardO (x7.2.2.2.1.length+([(v10,v11.1)]).length<=1099511627776)).bind fun u12 =>
  some (.inl (v11.2.1,v11.2.2.1,v11.2.2.2,(x7.2.2.2.1++[(v10,v11.1)]),(w64 (x7.2.2.2.2+1))))
 else
  some (.inr (x7.1,x7.2.1,x7.2.2.1,x7.2.2.2.1))
def ysg (a1:Int) (x5:((List Int)×Int×Int×(List Qr))):Option ((List Qp)×Cu) :=
 (loopO (yek a1 x5) (x5.1,x5.2.1,x5.2.2.1,[],0)).bind fun y8=>ydk y8
def yfk (a1:Int) (x2:((List Int)×Int×Int×Int)) (x13:((List Int)×Int×Int×(List Qr)×Int)):Option (((List Int)×Int×Int×(List Qr)×Int) ⊕ ((List Int)×Int×Int×(List Qr))) :=
 if((decide ((x13.2.2.2.1.length:Int)<(w64 (x2.2.2.2+2))))&&(decide (x13.2.2.2.2<60)))=true then
  (yqc (x13.1,x13.2.1,x13.2.2.1) a1).bind fun v16 =>
  (ybf x13.2.2.2.1 v16.1).bind fun v17 =>
  some (.inl (v16.2.1,v16.2.2.1,v16.2.2.2,v17,(w64 (x13.2.2.2.2+1))))
 else
  some (.inr (x13.1,x13.2.1,x13.2.2.1,x13.2.2.2.1))
def yid (a1:Int) (x2:((List Int)×Int×Int×Int)):Option ((List Qp)×Cu) :=
 (yoa 0).bind fun v3 =>
 (yoa 1).bind fun v4 =>
 (loopO (yfk a1 x2) (x2.1,x2.2.1,x2.2.2.1,[v3,v4],0)).bind fun y14=>ysg a1 y14
def ybh (a0:Cu) (a1:Int):Option ((List Qp)×Cu) :=
 (yab a0 ([0,1,1,2,3])).bind fun v1 =>
 (yjc v1.2 16).bind fun v18 =>
 if v18.1=true then
  yid a1 (v18.2.1,v18.2.2.1,v18.2.2.2,10)
 else
  yid a1 (v18.2.1,v18.2.2.1,v18.2.2.2,v1.1)
def yfe  (x3:((List Int)×Int×Int×(List Qp))):Option ((List Qp)×Cu) :=
 some (x3.2.2.2,(x3.1,x3.2.1,x3.2.2.1))
def yel (v1:(Int×Cu)) (v6:(Int×Cu)) (x7:(List Qp)):Option ((List Qp)×Cu) :=
 (yjc v6.2 2).bind fun v8 =>
 if v8.1=true then
  (yqc v8.2 v1.1).bind fun v10 =>
  (idxO x7 1).bind fun v11 =>
  yfe (v10.2.1,v10.2.2.1,v10.2.2.2,(x7.set (Int.toNat 1) (v11.1,v10.1)))
 else
  yfe (v8.2.1,v8.2.2.1,v8.2.2.2,x7)
def yvo (v6:(Int×Cu)) (x12:((List Qp)×Int)):Option (((List Qp)×Int) ⊕ (List Qp)) :=
 if(decide (x12.2<=v6.1))=true then
  (yub x12.2 v6.1).bind fun v15 =>
  (yoa (Int.tmod x12.2 2)).bind fun v16 =>
  (guardO (x12.1.length+([(v15.1,v16)]).length<=1099511627776)).bind fun u17 =>
  some (.inl ((x12.1++[(v15.1,v16)]),(w64 (x12.2+1))))
 else
  some (.inr x12.1)
def yin (a0:Cu):Option ((List Qp)×Cu) :=
 (yab a0 ([1,2,2,3,4,4,6,12,100])).bind fun v1 =>
 (ybh v1.2 v1.1).bind fun v2 =>
 (yjc v2.2 3).bind fun v4 =>
 if v4.1=true then
  (yab v4.2 ([2,2,3,4])).bind fun v6 =>
  (loopO (yvo v6) ([],0)).bind fun y13=>yel v1 v6 y13
 else
  yfe (v4.2.1,v4.2.2.1,v4.2.2.2,v2.1)
def yfl (a0:Cu):Option (Qr×Cu) :=
 (ybb a0 41).bind fun v1 =>
 (ybb v1.2 2001).bind fun v2 =>
 (yab v2.2 ([0,1,2,3,(-1),(-5),(w64 (v1.1-20)),(w64 (v2.1-1000)),1000000000,(-1000000000)])).bind fun v3 =>
 (ybb v3.2 20).bind fun v4 =>
 (ybb v4.2 1000).bind fun v5 =>
 (yab v5.2 ([1,2,3,4,8,7,(w64 (1+v4.1)),(w64 (1+v5.1)),1000000000,999999999])).bind fun v6 =>
 (yub v3.1 v6.1).bind fun v7 =>
 if(!v7.2)=true then
  (yoa 1).bind fun v9 =>
  some (v9,v6.2)
 else
  some (v7.1,v6.2)
def ype (a0:Cu):Option (Qr×Cu) :=
 (yfl a0).bind fun v1 =>
 (ybb v1.2 40).bind fun v2 =>
 if(v2.1==0)=true then
  (yab v2.2 ([0,(-1),1000000001])).bind fun v4 =>
  some ((v1.1.1,v4.1),v4.2)
 else
  if(v2.1==1)=true then
   (yab v2.2 ([1000000001,(-1000000001),(-9223372036854775808)])).bind fun v6 =>
   some ((v6.1,v1.1.2),v6.2)
  else
   if(v2.1==2)=true then
    (yab v2.2 ([2,0,(-4)])).bind fun v8 =>
    (yab v8.2 ([2,4,6])).bind fun v9 =>
    some ((v8.1,v9.1),v9.2)
   else
    some (v1.1,v2.2)
def yrb  (x4:((List Int)×Int×Int×(List Qp))):Option ((List Qp)×Cu) :=
 some (x4.2.2.2,(x4.1,x4.2.1,x4.2.2.1))
def ygl (v5:(Int×Cu)) (x16:(List Qp)):Option ((List Qp) ⊕ ((List Int)×Int×Int×(List Qp))) :=
 if(decide ((x16.length:Int)<13))=true then
  (yub (x16.length:Int) 12).bind fun v19 =>
  (yoa 0).bind fun v20 =>
  (guardO (x16.length+([(v19.1,v20)]).length<=1099511627776)).bind fun u21 =>
  some (.inl (x16++[(v19.1,v20)]))
 else
  some (.inr (v5.2.1,v5.2.2.1,v5.2.2.2,x16))
def ywf (a0:Cu):Option ((List Qp)×Cu) :=
 (yin a0).bind fun v1 =>
 (ybb v1.2 (v1.1.length:Int)).bind fun v2 =>
 (idxO v1.1 v2.1).bind fun v3 =>
 (ybb v2.2 36).bind fun v5 =>
 if(v5.1==0)=true then
  (ype v5.2).bind fun v7 =>
  yrb (v7.2.1,v7.2.2.1,v7.2.2.2,(v1.1.set (Int.toNat v2.1) (v7.1,v3.2)))
 else
  if(v5.1==1)=true then
   (ype v5.2).bind fun v9 =>
   yrb (v9.2.1,v9.2.2.1,v9.2.2.2,(v1.1.set (Int.toNat v2.1) (v3.1,v9.1)))
  else
   if(v5.1==2)=true then
    (ybb v5.2 50).bind fun v11 =>
    (yub v11.1 101).bind fun v12 =>
    yrb (v11.2.1,v11.2.2.1,v11.2.2.2,(v1.1.set (Int.toNat v2.1) (v3.1,v12.1)))
   else
    if(v5.1==3)=true then
     (guardO (0<=(w64 ((v1.1.length:Int)-1))/\(w64 ((v1.1.length:Int)-1))<=(v1.1.length:Int))).bind fun u14 =>
     yrb (v5.2.1,v5.2.2.1,v5.2.2.2,(v1.1.take (Int.toNat (w64 ((v1.1.length:Int)-1)))))
    else
     if(v5.1==4)=true then
      (loopO (ygl v5) ([])).bind fun y17=>yrb y17
     else
      yrb (v5.2.1,v5.2.2.1,v5.2.2.2,v1.1)
def yec  (x6:((List Int)×Int×Int×(List Qp))):Option ((List Qp)×Cu) :=
 (yjc (x6.1,x6.2.1,x6.2.2.1) 5).bind fun v7 =>
 if v7.1=true then
  (ybb v7.2 3).bind fun v9 =>
  (yub (w64 (1+v9.1)) 4).bind fun v10 =>
  (ybb v9.2 6).bind fun v11 =>
  (yub (w64 (3+v11.1)) 8).bind fun v12 =>
  (yoa 0).bind fun v13 =>
  (yoa 0).bind fun v14 =>
  (yoa 1).bind fun v15 =>
  (yoa 0).bind fun v16 =>
  some ([(v13,v14),(v10.1,v12.1),(v15,v16)],v11.2)
 else
  some (x6.2.2.2,v7.2)
def ymh (v17:(Bool×Cu)) (x19:((List Qp)×Int)):Option (((List Qp)×Int) ⊕ ((List Int)×Int×Int×(List Qp))) :=
 if(decide (x19.2<12))=true then
  (yub x19.2 11).bind fun v22 =>
  (yoa (Int.tmod x19.2 2)).bind fun v23 =>
  (guardO (x19.1.length+([(v22.1,v23)]).length<=1099511627776)).bind fun u24 =>
  some (.inl ((x19.1++[(v22.1,v23)]),(w64 (x19.2+1))))
 else
  some (.inr (v17.2.1,v17.2.2.1,v17.2.2.2,x19.1))
def yle  (x5:((List Int)×Int×Int×(List Qp))):Option ((List Qp)×Cu) :=
 (yjc (x5.1,x5.2.1,x5.2.2.1) 6).bind fun v17 =>
 if v17.1=true then
  (loopO (ymh v17) ([],0)).bind fun y20=>yec y20
 else
  yec (v17.2.1,v17.2.2.1,v17.2.2.2,x5.2.2.2)
def ypb (x25:((List Int)×Int×Int×(List Qp)×Int)) (v28:(Qr×Bool)) (x30:((List Int)×Int×Int×Int×Int)):Option (((List Int)×Int×Int×(List Qp)×Int) ⊕ ((List Int)×Int×Int×(List Qp))) :=
 (guardO (x25.2.2.2.1.length+([(v28.1,x30.2.2.2)]).length<=1099511627776)).bind fun u31 =>
 some (.inl (x30.1,x30.2.1,x30.2.2.1,(x25.2.2.2.1++[(v28.1,x30.2.2.2)]),(w64 (x25.2.2.2.2+1))))
def ynh (v4:(Int×Cu)) (x25:((List Int)×Int×Int×(List Qp)×Int)):Option (((List Int)×Int×Int×(List Qp)×Int) ⊕ ((List Int)×Int×Int×(List Qp))) :=
 if(decide (x25.2.2.2.2<=v4.1))=true then
  (yub x25.2.2.2.2 v4.1).bind fun v28 =>
  (yqc (x25.1,x25.2.1,x25.2.2.1) v4.1).bind fun v29 =>
  (if(decide ((x25.2.2.2.1.length:Int)>0))=true then
    (idxO x25.2.2.2.1 (w64 ((x25.2.2.2.1.length:Int)-1))).bind fun v32 =>
    if((v29.1.1==v32.2.1)&&(v29.1.2==v32.2.2))=true then
     (yjc v29.2 8).bind fun v33 =>
     some (v33.2.1,v33.2.2.1,v33.2.2.2,(!v33.1))
    else
     some (v29.2.1,v29.2.2.1,v29.2.2.2,false)
   else
    some (v29.2.1,v29.2.2.1,v29.2.2.2,false)).bind fun w34 =>
  if w34.2.2.2=true then
   (ypp v29.1).bind fun v36 =>
   (idxO x25.2.2.2.1 (w64 ((x25.2.2.2.1.length:Int)-1))).bind fun v37 =>
   if((v36.1==v37.2.1)&&(v36.2==v37.2.2))=true then
    (yoa (Int.tmod x25.2.2.2.2 2)).bind fun v39 =>
    ypb x25 v28 (w34.1,w34.2.1,w34.2.2.1,v39.1,v39.2)
   else
    ypb x25 v28 (w34.1,w34.2.1,w34.2.2.1,v36.1,v36.2)
  else
   ypb x25 v28 (w34.1,w34.2.1,w34.2.2.1,v29.1.1,v29.1.2)
 else
  some (.inr (x25.1,x25.2.1,x25.2.2.1,x25.2.2.2.1))
def ylc (a0:Cu):Option ((List Qp)×Cu) :=
 (yjc a0 4).bind fun v1 =>
 if v1.1=true then
  (ywf v1.2).bind fun v3 =>
  some v3
 else
  (yab v1.2 ([2,3,4,4,6])).bind fun v4 =>
  (loopO (ynh v4) (v4.2.1,v4.2.2.1,v4.2.2.2,[],0)).bind fun y26=>yle y26
def yhl  (x2:Unit):Option Bool :=
 some true
def yxf (a0:(List Qp)) (a1:(List Qp)) (x3:Int):Option (Int ⊕ (Bool ⊕ Unit)) :=
 if(decide (x3<(a0.length:Int)))=true then
  (idxO a0 x3).bind fun v6 =>
  (idxO a1 x3).bind fun v7 =>
  if(!(((v6.1.1==v7.1.1)&&(v6.1.2==v7.1.2))&&((v6.2.1==v7.2.1)&&(v6.2.2==v7.2.2))))=true then
   some (.inr (.inl false))
  else
   some (.inl (w64 (x3+1)))
 else
  some (.inr (.inr ()))
def yjn (a0:(List Qp)) (a1:(List Qp)):Option Bool :=
 if((a0.length:Int) != (a1.length:Int))=true then
  some false
 else
  (loopO (yxf a0 a1) 0).bind fun y4=>(Sum.elim (fun p=>some p) (fun p=>yhl p)) y4
def yuq (a0:Qr) (a1:Qr):Option Bool :=
 some (decide ((w64 (a0.1*a1.2))<(w64 (a1.1*a0.2))))
def yee1 (a0:(List Int)) (a1:(List Int)):Option Bool :=
 some ((decide ((a0.length:Int)>1048576))||(decide ((a1.length:Int)>(w64 (1048576-(a0.length:Int))))))
def yij (a0:(List Qp)):Option (Bool×Bool) :=
 (yaf a0).bind fun v1 =>
 if(!v1)=true then
  some (false,false)
 else
  (ytm a0).bind fun v3 =>
  some (v3,true)
def yil  (x2:Unit):Option Bool :=
 some true
def yyf (a0:(List Int)) (a1:(List Int)) (x3:Int):Option (Int ⊕ (Bool ⊕ Unit)) :=
 if(decide (x3<(a0.length:Int)))=true then
  (idxO a0 x3).bind fun v6 =>
  (idxO a1 x3).bind fun v7 =>
  if(v6 != v7)=true then
   some (.inr (.inl false))
  else
   some (.inl (w64 (x3+1)))
 else
  some (.inr (.inr ()))
def ykn (a0:(List Int)) (a1:(List Int)):Option Bool :=
 if((a0.length:Int) != (a1.length:Int))=true then
  some false
 else
  (loopO (yyf a0 a1) 0).bind fun y4=>(Sum.elim (fun p=>some p) (fun p=>yil p)) y4
def ymj  (x2:Unit):Option Bool :=
 some true
def yqe (a0:(List (List Int))) (a1:(List (List Int))) (x3:Int):Option (Int ⊕ (Bool ⊕ Unit)) :=
 if(decide (x3<(a0.length:Int)))=true then
  (idxO a0 x3).bind fun v6 =>
  (idxO a1 x3).bind fun v7 =>
  (ykn v6 v7).bind fun v8 =>
  if(!v8)=true then
   some (.inr (.inl false))
  else
   some (.inl (w64 (x3+1)))
 else
  some (.inr (.inr ()))
def ytg (a0:(List (List Int))) (a1:(List (List Int))):Option Bool :=
 if((a0.length:Int) != (a1.length:Int))=true then
  some false
 else
  (loopO (yqe a0 a1) 0).bind fun y4=>(Sum.elim (fun p=>some p) (fun p=>ymj p)) y4
def yws  (x2:Qr):Option (Qr×Bool) :=
 some (x2,true)
def yln (a0:(List Qr)) (x3:(Int×Int×Int)):Option ((Int×Int×Int) ⊕ ((Qr×Bool) ⊕ Qr)) :=
 if(decide (x3.2.2<(a0.length:Int)))=true then
  (idxO a0 x3.2.2).bind fun v6 =>
  (idxO a0 (w64 (x3.2.2-1))).bind fun v7 =>
  (yyk v6 v7).bind fun v8 =>
  if(!v8.2)=true then
   some (.inr (.inl ((0,0),false)))
  else
   (ycn v8.1.1).bind fun v10 =>
   (yto (x3.1,x3.2.1) (v10,v8.1.2)).bind fun v11 =>
   if(!v11.2)=true then
    some (.inr (.inl ((0,0),false)))
   else
    some (.inl (v11.1.1,v11.1.2,(w64 (x3.2.2+1))))
 else
  some (.inr (.inr (x3.1,x3.2.1)))
def yvq (a0:(List Qr)):Option (Qr×Bool) :=
 (yoa 0).bind fun v1 =>
 (loopO (yln a0) (v1.1,v1.2,1)).bind fun y4=>(Sum.elim (fun p=>some p) (fun p=>yws p)) y4
def ycf  (x3:(List Qr)):Option (Qr×Bool) :=
 (yvq x3).bind fun v4 =>
 some v4
def yjl (a0:(List Qp)) (x5:((List Qr)×Int)):Option (((List Qr)×Int) ⊕ (List Qr)) :=
 if(decide (x5.2<(a0.length:Int)))=true then
  (idxO a0 x5.2).bind fun v8 =>
  (guardO (x5.1.length+([v8.2]).length<=1099511627776)).bind fun u9 =>
  some (.inl ((x5.1++[v8.2]),(w64 (x5.2+1))))
 else
  some (.inr x5.1)
def yfc (a0:(List Qp)):Option (Qr×Bool) :=
 (yxc a0).bind fun v1 =>
 if(!v1)=true then
  some ((0,0),false)
 else
  (loopO (yjl a0) ([],0)).bind fun y6=>ycf y6
def ysd (a0:Bool) (x1:(Int×Int×Int×Int)):Option (Qr×Bool) :=
 (yxe a0 (x1.1,x1.2.1) x1.2.2).bind fun v2 =>
 some v2
def yzf (a0:Bool) (a1:Qr) (a2:Qr):Option (Qr×Bool) :=
 (yvd a1 a2).bind fun v3 =>
 if v3=true then
  ysd a0 (a2.1,a2.2,a1.1,a1.2)
 else
  ysd a0 (a1.1,a1.2,a2.1,a2.2)
def ych  (x2:(Bool×Int×Int)):Option (Qr×Bool) :=
 if x2.1=true then
  some ((0,0),false)
 else
  some (x2.2,true)
def ydh (a0:(List Qr)) (x4:(Bool×Int×Int×Int)):Option ((Bool×Int×Int×Int) ⊕ (Bool×Int×Int)) :=
 if(decide (x4.2.2.2<(a0.length:Int)))=true then
  (idxO a0 (w64 (x4.2.2.2-1))).bind fun v7 =>
  (idxO a0 x4.2.2.2).bind fun v8 =>
  (yzf x4.1 v7 v8).bind fun v9 =>
  (yzh v9.2 (x4.2.1,x4.2.2.1) v9.1).bind fun v10 =>
  some (.inl (v10.2,v10.1.1,v10.1.2,(w64 (x4.2.2.2+1))))
 else
  some (.inr (x4.1,x4.2.1,x4.2.2.1))
def yri (a0:(List Qr)):Option (Qr×Bool) :=
 (yke).bind fun v1 =>
 (loopO (ydh a0) (false,v1.1,v1.2,1)).bind fun y5=>ych y5
def yoh  (x3:(List Qr)):Option (Qr×Bool) :=
 (yri x3).bind fun v4 =>
 some v4
def ypd (a0:(List Qp)) (x5:((List Qr)×Int)):Option (((List Qr)×Int) ⊕ (List Qr)) :=
 if(decide (x5.2<(a0.length:Int)))=true then
  (idxO a0 x5.2).bind fun v8 =>
  (guardO (x5.1.length+([v8.2]).length<=1099511627776)).bind fun u9 =>
  some (.inl ((x5.1++[v8.2]),(w64 (x5.2+1))))
 else
  some (.inr x5.1)
def yag (a0:(List Qp)):Option (Qr×Bool) :=
 (yed a0).bind fun v1 =>
 if(!v1)=true then
  some ((0,0),false)
 else
  (loopO (ypd a0) ([],0)).bind fun y6=>yoh y6
def yok (a0:(List Qp)):Option (Bool×Bool) :=
 (yxc a0).bind fun v1 =>
 if(!v1)=true then
  some (false,false)
 else
  (yye a0).bind fun v3 =>
  some (v3,true)
def ymg (a0:(List Qp)):Option (Bool×Bool) :=
 (yed a0).bind fun v1 =>
 if(!v1)=true then
  some (false,false)
 else
  (yaf a0).bind fun v3 =>
  some (v3,true)
def yjj (a0:(List Qp)):Option (Bool×Bool) :=
 (yxc a0).bind fun v1 =>
 (if(!v1)=true then
   some true
  else
   (yye a0).bind fun v2 =>
   some (!v2)).bind fun w3 =>
 if w3=true then
  some (false,false)
 else
  (ymk a0).bind fun v5 =>
  (if((v5.length:Int)==2)=true then
    (idxO v5 0).bind fun v6 =>
    (idxO v6 2).bind fun v7 =>
    some (v7==1)
   else
    some false).bind fun w8 =>
  some (w8,true)
def ywo  (x3:Int):Option (Int×Bool) :=
 some (x3,true)
def ynd (a0:(List Qp)) (v4:(List (List Int))) (x5:Qr):Option (Qr ⊕ Int) :=
 if(decide (x5.2<(v4.length:Int)))=true then
  (idxO v4 x5.2).bind fun v8 =>
  (idxO v8 0).bind fun v9 =>
  (idxO a0 v9).bind fun v10 =>
  (idxO v8 1).bind fun v11 =>
  (idxO a0 v11).bind fun v12 =>
  (yoa 0).bind fun v13 =>
  (if((v10.2.1==v13.1)&&(v10.2.2==v13.2))=true then
    (yoa 1).bind fun v14 =>
    if((v12.2.1==v14.1)&&(v12.2.2==v14.2))=true then
     some true
    else
     (yoa 1).bind fun v15 =>
     if((v10.2.1==v15.1)&&(v10.2.2==v15.2))=true then
      (yoa 0).bind fun v16 =>
      some ((v12.2.1==v16.1)&&(v12.2.2==v16.2))
     else
      some false
   else
    (yoa 1).bind fun v14 =>
    if((v10.2.1==v14.1)&&(v10.2.2==v14.2))=true then
     (yoa 0).bind fun v15 =>
     some ((v12.2.1==v15.1)&&(v12.2.2==v15.2))
    else
     some false).bind fun w17 =>
  if w17=true then
   some (.inl ((w64 (x5.1+1)),(w64 (x5.2+1))))
  else
   some (.inl (x5.1,(w64 (x5.2+1))))
 else
  some (.inr x5.1)
def ydf (a0:(List Qp)):Option (Int×Bool) :=
 (yxc a0).bind fun v1 =>
 if(!v1)=true then
  some (0,false)
 else
  (ymk a0).bind fun v4 =>
  (loopO (ynd a0 v4) (0,0)).bind fun y6=>ywo y6
def ypk (a0:Qr) (a1:Qr):Option Qr :=
 (yvd a1 a0).bind fun v1 =>
 if v1=true then
  some a1
 else
  some a0
def ydi (a0:Qr) (a1:Qr):Option Qr :=
 (yvd a0 a1).bind fun v1 =>
 if v1=true then
  some a1
 else
  some a0
def yxo  (x3:Int):Option (Int×Bool) :=
 some (x3,true)
def ybg (a0:(List Qp)) (v4:(List (List Int))) (x5:Qr):Option (Qr ⊕ Int) :=
 if(decide (x5.2<(v4.length:Int)))=true then
  (idxO v4 x5.2).bind fun v8 =>
  (idxO v8 0).bind fun v9 =>
  (idxO a0 v9).bind fun v10 =>
  (idxO v8 1).bind fun v11 =>
  (idxO a0 v11).bind fun v12 =>
  (ypk v10.2 v12.2).bind fun v13 =>
  (yke).bind fun v14 =>
  (if((v13.1==v14.1)&&(v13.2==v14.2))=true then
    (ydi v10.2 v12.2).bind fun v15 =>
    (yoe).bind fun v16 =>
    some ((v15.1==v16.1)&&(v15.2==v16.2))
   else
    some false).bind fun w17 =>
  if w17=true then
   some (.inl ((w64 (x5.1+1)),(w64 (x5.2+1))))
  else
   some (.inl (x5.1,(w64 (x5.2+1))))
 else
  some (.inr x5.1)
def yqk (a0:(List Qp)):Option (Int×Bool) :=
 (yed a0).bind fun v1 =>
 if(!v1)=true then
  some (0,false)
 else
  (yop a0).bind fun v4 =>
  (loopO (ybg a0 v4) (0,0)).bind fun y6=>yxo y6
def yjd (a0:(List Qp)) (a1:Int):Option Bool :=
 (yxc a0).bind fun v1 =>
 (if v1=true then
   (yye a0).bind fun v2 =>
   if v2=true then
    (yrm a1 0 12).bind fun v3 =>
    some v3
   else
    some false
  else
   some false).bind fun w4 =>
 some w4
def ysn  (x1:(List Qr)):Option (List Qr) :=
 some x1
def yre (a1:Qr) (a2:Qr) (x2:((List Qr)×Int)) (v5:Qr) (x6:(List Qr)):Option (((List Qr)×Int) ⊕ (List Qr)) :=
 (yhb a2 v5).bind fun v7 =>
 (if(decide (v7<0))=true then
   (yhb v5 a1).bind fun v8 =>
   some (decide (v8<0))
  else
   some false).bind fun w9 =>
 if w9=true then
  (guardO (([v5]).length+x6.length<=1099511627776)).bind fun u11 =>
  some (.inl (([v5]++x6),(w64 (x2.2+1))))
 else
  some (.inl (x6,(w64 (x2.2+1))))
def yse (a0:(List Qr)) (a1:Qr) (a2:Qr) (x2:((List Qr)×Int)):Option (((List Qr)×Int) ⊕ (List Qr)) :=
 if(decide (x2.2<(a0.length:Int)))=true then
  (idxO a0 x2.2).bind fun v5 =>
  (yhb a1 v5).bind fun v12 =>
  (if(decide (v12<0))=true then
    (yhb v5 a2).bind fun v13 =>
    some (decide (v13<0))
   else
    some false).bind fun w14 =>
  if w14=true then
   (guardO (x2.1.length+([v5]).length<=1099511627776)).bind fun u16 =>
   yre a1 a2 x2 v5 (x2.1++[v5])
  else
   yre a1 a2 x2 v5 x2.1
 else
  some (.inr x2.1)
def ykl (a0:(List Qr)) (a1:Qr) (a2:Qr):Option (List Qr) :=
 (loopO (yse a0 a1 a2) ([],0)).bind fun y3=>ysn y3
def yor  (x4:(List Qr)):Option ((List Qr)×Bool) :=
 some (x4,true)
def ysi (a0:(List Qp)) (x2:(List Qr)) (x5:((List Qr)×Int)):Option (((List Qr)×Int) ⊕ (((List Qr)×Bool) ⊕ (List Qr))) :=
 if(decide (x5.2<(x2.length:Int)))=true then
  (idxO x2 x5.2).bind fun v8 =>
  (yoi a0 v8).bind fun v9 =>
  if(!v9.2)=true then
   some (.inr (.inl ([],false)))
  else
   (guardO (x5.1.length+([v9.1]).length<=1099511627776)).bind fun u11 =>
   some (.inl ((x5.1++[v9.1]),(w64 (x5.2+1))))
 else
  some (.inr (.inr x5.1))
def yyn (a0:(List Qp)) (x2:(List Qr)):Option ((List Qr)×Bool) :=
 if(decide ((x2.length:Int)>4097))=true then
  some ([],false)
 else
  (loopO (ysi a0 x2) ([],0)).bind fun y6=>(Sum.elim (fun p=>some p) (fun p=>yor p)) y6
def yug (a1:(List Qr)) (a2:(List Qr)) (x12:((List Qr)×Int)):Option (((List Qr)×Int) ⊕ (List Qr)) :=
 if(decide (x12.2<(a2.length:Int)))=true then
  (idxO a2 (w64 (x12.2-1))).bind fun v15 =>
  (idxO a2 x12.2).bind fun v16 =>
  (ykl a1 v15 v16).bind fun v17 =>
  (guardO (x12.1.length+v17.length<=1099511627776)).bind fun u18 =>
  (guardO ((x12.1++v17).length+([v16]).length<=1099511627776)).bind fun u19 =>
  some (.inl (((x12.1++v17)++[v16]),(w64 (x12.2+1))))
 else
  some (.inr x12.1)
def yeo (a0:(List Qp)) (a1:(List Qr)) (a2:(List Qr)):Option ((List Qr)×Bool) :=
 (idxO a2 0).bind fun v1 =>
 (loopO (yug a1 a2) ([v1],1)).bind fun y13=>yyn a0 y13
def ypr  (x4:(List Qr)):Option ((List Qr)×Bool) :=
 some (x4,true)
def yll (a0:(List Qp)) (v3:(List Qr)) (x5:(Int×(List Qr))):Option ((Int×(List Qr)) ⊕ (((List Qr)×Bool) ⊕ (List Qr))) :=
 if(decide (x5.1>0))=true then
  (yeo a0 v3 x5.2).bind fun v8 =>
  if(!v8.2)=true then
   some (.inr (.inl ([],false)))
  else
   some (.inl ((w64 (x5.1-1)),v8.1))
 else
  some (.inr (.inr x5.2))
def yhh (a0:(List Qp)) (a1:Int):Option ((List Qr)×Bool) :=
 (yoa 0).bind fun v1 =>
 (yoa 1).bind fun v2 =>
 (ylf a0).bind fun v3 =>
 (loopO (yll a0 v3) (a1,[v1,v2])).bind fun y6=>(Sum.elim (fun p=>some p) (fun p=>ypr p)) y6
def yld (a0:(List Qp)) (a1:Int):Option (Int×Bool) :=
 (yjd a0 a1).bind fun v1 =>
 if(!v1)=true then
  some (0,false)
 else
  (yhh a0 a1).bind fun v3 =>
  if(!v3.2)=true then
   some (0,false)
  else
   some ((w64 ((v3.1.length:Int)-1)),true)
def yjb  (x3:((List Qr)×Int)):Option (List Qr) :=
 (guardO (0<=x3.2/\x3.2<=(x3.1.length:Int))).bind fun u4 =>
 (guardO (0<=x3.2/\x3.2<=((x3.1.take (Int.toNat x3.2)++List.replicate (x3.1.length-(Int.toNat x3.2)) (0,0)).length:Int))).bind fun u5 =>
 some ((x3.1.take (Int.toNat x3.2)++List.replicate (x3.1.length-(Int.toNat x3.2)) (0,0)).take (Int.toNat x3.2))
def yxa (a1:Qr->Option Bool) (x6:((List Qr)×Int×Int)):Option (((List Qr)×Int×Int) ⊕ ((List Qr)×Int)) :=
 if(decide (x6.2.2<(x6.1.length:Int)))=true then
  (idxO x6.1 x6.2.2).bind fun v9 =>
  (a1 v9).bind fun v10 =>
  if(!v10)=true then
   (idxO x6.1 x6.2.1).bind fun v12 =>
   some (.inl ((x6.1.set (Int.toNat x6.2.1) v9),(w64 (x6.2.1+1)),(w64 (x6.2.2+1))))
  else
   some (.inl (x6.1,x6.2.1,(w64 (x6.2.2+1))))
 else
  some (.inr (x6.1,x6.2.1))
def yua (a0:(List Qr)) (a1:(Qr->Option Bool)):Option (List Qr) :=
 (yma a0 a1).bind fun v1 =>
 if(v1==(-1))=true then
  some a0
 else
  (loopO (yxa a1) (a0,v1,(w64 (v1+1)))).bind fun y7=>yjb y7
def ycg (a0:Qr) (c0:Qr) (c1:Qr):Option Bool :=
 (yvd c0 a0).bind fun v1 =>
 (if(!v1)=true then
   some true
  else
   (yvd a0 c1).bind fun v2 =>
   some (!v2)).bind fun w3 =>
 some w3
def ymc  (x1:((List Qr)×Int×Int)):Option (((List Qr)×Int×Int) ⊕ (List Qr)) :=
 if(decide (x1.2.1<x1.2.2))=true then
  (idxO x1.1 x1.2.1).bind fun v4 =>
  (idxO x1.1 x1.2.2).bind fun v5 =>
  (guardO (x1.2.1≠x1.2.2)).bind fun u6 =>
  some (.inl (((x1.1.set (Int.toNat x1.2.1) v5).set (Int.toNat x1.2.2) v4),(w64 (x1.2.1+1)),(w64 (x1.2.2-1))))
 else
  some (.inr x1.1)
def ykb (a0:(List Qr)):Option (List Qr) :=
 (loopO ymc (a0,0,(w64 ((a0.length:Int)-1)))).bind fun y2=>some y2
def yei (a0:(List Qr)) (a1:Qr) (a2:Qr):Option (List Qr) :=
 (ypk a1 a2).bind fun v1 =>
 (ydi a1 a2).bind fun v2 =>
 (yob a0).bind fun v3 =>
 (yua v3 (fun x0=>ycg x0 v1 v2)).bind fun v4 =>
 (yvd a2 a1).bind fun v5 =>
 if v5=true then
  (ykb v4).bind fun v7 =>
  some v7
 else
  some v4
def yyo  (x4:(List (List Qr))):Option ((List (List Qr))×Bool) :=
 some (x4,true)
def yml (x5:(Bool×(List (List Qr))×Int)) (x8:(Bool×(List (List Qr)))):Option ((Bool×(List (List Qr))×Int) ⊕ (((List (List Qr))×Bool) ⊕ (List (List Qr)))) :=
 some (.inl (x8.1,x8.2,(w64 (x5.2.2+1))))
def ynl (x5:(Bool×(List (List Qr))×Int)) (x12:(Bool×(List Qr))):Option ((Bool×(List (List Qr))×Int) ⊕ (((List (List Qr))×Bool) ⊕ (List (List Qr)))) :=
 if(x12.1||(decide ((w64 ((x12.2.length:Int)-1))>4096)))=true then
  some (.inr (.inl ([],false)))
 else
  (guardO (x5.2.1.length+([x12.2]).length<=1099511627776)).bind fun u14 =>
  yml x5 (x12.1,(x5.2.1++[x12.2]))
def yol (x15:(Bool×(List Qr)×Int)) (x18:(Bool×(List Qr))):Option ((Bool×(List Qr)×Int) ⊕ (Bool×(List Qr))) :=
 some (.inl (x18.1,x18.2,(w64 (x15.2.2+1))))
def ypl (a0:(List Qp)) (v9:(List Qr)) (x15:(Bool×(List Qr)×Int)) (x19:(Bool×(List Qr))):Option ((Bool×(List Qr)×Int) ⊕ (Bool×(List Qr))) :=
 (idxO v9 x15.2.2).bind fun v20 =>
 (yya x19.1 a0 v20).bind fun v21 =>
 (guardO (x19.2.length+([v21.1]).length<=1099511627776)).bind fun u22 =>
 yol x15 (v21.2,(x19.2++[v21.1]))
def ydg (a0:(List Qp)) (v25:(List Qr)) (x26:(Bool×(List Qr)×Int)):Option ((Bool×(List Qr)×Int) ⊕ (Bool×(List Qr))) :=
 if(decide (x26.2.2<(v25.length:Int)))=true then
  (idxO v25 x26.2.2).bind fun v29 =>
  (yya x26.1 a0 v29).bind fun v30 =>
  (guardO (x26.2.1.length+([v30.1]).length<=1099511627776)).bind fun u31 =>
  some (.inl (v30.2,(x26.2.1++[v30.1]),(w64 (x26.2.2+1))))
 else
  some (.inr (x26.1,x26.2.1))
def yeg (a0:(List Qp)) (v3:(List Qr)) (v9:(List Qr)) (x15:(Bool×(List Qr)×Int)):Option ((Bool×(List Qr)×Int) ⊕ (Bool×(List Qr))) :=
 if(decide (x15.2.2<(v9.length:Int)))=true then
  (idxO v9 (w64 (x15.2.2-1))).bind fun v23 =>
  (idxO v9 x15.2.2).bind fun v24 =>
  (yei v3 v23 v24).bind fun v25 =>
  (loopO (ydg a0 v25) (x15.1,x15.2.1,0)).bind fun y27=>ypl a0 v9 x15 y27
 else
  some (.inr (x15.1,x15.2.1))
def yfi (a0:(List Qp)) (a1:Int) (v3:(List Qr)) (x5:(Bool×(List (List Qr))×Int)):Option ((Bool×(List (List Qr))×Int) ⊕ (((List (List Qr))×Bool) ⊕ (List (List Qr)))) :=
 if(decide (x5.2.2<a1))=true then
  (idxO x5.2.1 (w64 ((x5.2.1.length:Int)-1))).bind fun v9 =>
  (idxO v9 0).bind fun v10 =>
  (yya x5.1 a0 v10).bind fun v11 =>
  (loopO (yeg a0 v3 v9) (v11.2,[v11.1],1)).bind fun y16=>ynl x5 y16
 else
  some (.inr (.inr x5.2.1))
def ymn (a0:(List Qp)) (a1:Int):Option ((List (List Qr))×Bool) :=
 (yke).bind fun v1 =>
 (yoe).bind fun v2 =>
 (ytq a0).bind fun v3 =>
 (loopO (yfi a0 a1 v3) (false,[[v1,v2]],0)).bind fun y6=>(Sum.elim (fun p=>some p) (fun p=>yyo p)) y6
def yod (a0:(List Qp)) (a1:Int):Option ((List (List Qr))×Bool) :=
 (yaf a0).bind fun v1 =>
 (if(!v1)=true then
   some true
  else
   (yli a1 0 12).bind fun v2 =>
   some (!v2)).bind fun w3 =>
 if w3=true then
  some ([],false)
 else
  (ymn a0 a1).bind fun v5 =>
  some v5
def yvg (a0:(List Qp)) (a1:Int):Option (Int×Bool) :=
 (yod a0 a1).bind fun v1 =>
 if(!v1.2)=true then
  some (0,false)
 else
  (idxO v1.1 a1).bind fun v3 =>
  some ((w64 ((v3.length:Int)-1)),true)
def yqr  (x6:(Int×Int×Int×Int)):Option (Qr×Qr×Bool) :=
 some ((x6.1,x6.2.1),x6.2.2,true)
def ywg (x7:(Int×Int×Int×Int×Int)) (v10:Qr) (x11:Qr):Option ((Int×Int×Int×Int×Int) ⊕ (Int×Int×Int×Int)) :=
 (yhb v10 (x7.2.2.1,x7.2.2.2.1)).bind fun v12 =>
 if(decide (v12<0))=true then
  some (.inl (x11.1,x11.2,v10.1,v10.2,(w64 (x7.2.2.2.2+1))))
 else
  some (.inl (x11.1,x11.2,x7.2.2.1,x7.2.2.2.1,(w64 (x7.2.2.2.2+1))))
def yvc (v3:((List Qr)×Bool)) (x7:(Int×Int×Int×Int×Int)):Option ((Int×Int×Int×Int×Int) ⊕ (Int×Int×Int×Int)) :=
 if(decide (x7.2.2.2.2<(v3.1.length:Int)))=true then
  (idxO v3.1 x7.2.2.2.2).bind fun v10 =>
  (yhb (x7.1,x7.2.1) v10).bind fun v14 =>
  if(decide (v14<0))=true then
   ywg x7 v10 v10
  else
   ywg x7 v10 (x7.1,x7.2.1)
 else
  some (.inr (x7.1,x7.2.1,x7.2.2.1,x7.2.2.2.1))
def yyc (a0:(List Qp)) (a1:Int):Option (Qr×Qr×Bool) :=
 (yjd a0 a1).bind fun v1 =>
 if(!v1)=true then
  some ((0,0),(0,0),false)
 else
  (yhh a0 a1).bind fun v3 =>
  if(!v3.2)=true then
   some ((0,0),(0,0),false)
  else
   (idxO v3.1 0).bind fun v5 =>
   (loopO (yvc v3) (v5.1,v5.2,v5.1,v5.2,0)).bind fun y8=>yqr y8
def ytd (a0:(List Qp)) (a1:Int):Option (Qr×Qr×Bool) :=
 (yod a0 a1).bind fun v1 =>
 if(!v1.2)=true then
  some ((0,0),(0,0),false)
 else
  (idxO v1.1 a1).bind fun v3 =>
  (ycd v3 (fun x0 x1=>yac x0 x1)).bind fun v4 =>
  (ybd v3 (fun x0 x1=>yac x0 x1)).bind fun v5 =>
  some (v4,v5,true)
def yza (a0:(List Qp)) (a1:Int):Option (Qr×Bool) :=
 (yjd a0 a1).bind fun v1 =>
 if(!v1)=true then
  some ((0,0),false)
 else
  (yhh a0 a1).bind fun v3 =>
  if(!v3.2)=true then
   some ((0,0),false)
  else
   (yvq v3.1).bind fun v5 =>
   some v5
def yqb (a0:(List Qp)) (a1:Int):Option (Qr×Bool) :=
 (yod a0 a1).bind fun v1 =>
 if(!v1.2)=true then
  some ((0,0),false)
 else
  (idxO v1.1 a1).bind fun v3 =>
  (yri v3).bind fun v4 =>
  some v4
def yxy  (x6:(List Int)):Option ((List Int)×Bool) :=
 some (x6,true)
def ynj (a0:(List Qp)) (a1:Int) (v5:(List Qr)) (x7:((List Qr)×(List Int)×Int)):Option (((List Qr)×(List Int)×Int) ⊕ (((List Int)×Bool) ⊕ (List Int))) :=
 if(decide (x7.2.2<a1))=true then
  (yeo a0 v5 x7.1).bind fun v10 =>
  if(!v10.2)=true then
   some (.inr (.inl ([],false)))
  else
   (guardO (x7.2.1.length+([(w64 ((v10.1.length:Int)-1))]).length<=1099511627776)).bind fun u12 =>
   some (.inl (v10.1,(x7.2.1++[(w64 ((v10.1.length:Int)-1))]),(w64 (x7.2.2+1))))
 else
  some (.inr (.inr x7.2.1))
def yql (a0:(List Qp)) (a1:Int):Option ((List Int)×Bool) :=
 (yjd a0 a1).bind fun v1 =>
 if(!v1)=true then
  some ([],false)
 else
  (yoa 0).bind fun v3 =>
  (yoa 1).bind fun v4 =>
  (ylf a0).bind fun v5 =>
  (loopO (ynj a0 a1 v5) ([v3,v4],[1],0)).bind fun y8=>(Sum.elim (fun p=>some p) (fun p=>yxy p)) y8
def yoj (v1:((List (List Qr))×Bool)) (x2:(List Int)):Option ((List Int)×Bool) :=
 some (x2,v1.2)
def ymb (v1:((List (List Qr))×Bool)) (x3:((List Int)×Int)):Option (((List Int)×Int) ⊕ (List Int)) :=
 if(decide (x3.2<(v1.1.length:Int)))=true then
  (idxO v1.1 x3.2).bind fun v6 =>
  (guardO (x3.1.length+([(w64 ((v6.length:Int)-1))]).length<=1099511627776)).bind fun u7 =>
  some (.inl ((x3.1++[(w64 ((v6.length:Int)-1))]),(w64 (x3.2+1))))
 else
  some (.inr x3.1)
def yef (a0:(List Qp)) (a1:Int):Option ((List Int)×Bool) :=
 (yod a0 a1).bind fun v1 =>
 (loopO (ymb v1) ([],0)).bind fun y4=>yoj v1 y4
def yxd (a0:(List Qp)) (a1:Int):Option ((List Qr)×Bool) :=
 (yjd a0 a1).bind fun v1 =>
 if(!v1)=true then
  some ([],false)
 else
  (yhh a0 a1).bind fun v3 =>
  some v3
def yrl (a0:(List Qp)) (a1:Int):Option ((List Qr)×Bool) :=
 (yod a0 a1).bind fun v1 =>
 if(!v1.2)=true then
  some ([],false)
 else
  (idxO v1.1 a1).bind fun v3 =>
  some (v3,true)
def yfk1 (a0:Qp):Option Bool :=
 (ygm a0.1).bind fun v1 =>
 (if v1=true then
   (ygm a0.2).bind fun v2 =>
   if v2=true then
    (yhb a0.1 a0.2).bind fun v3 =>
    some (decide (v3<0))
   else
    some false
  else
   some false).bind fun w4 =>
 some w4
def yfe1 (a0:(List Qp)) (x1:Unit):Option Bool :=
 (yrm (a0.length:Int) 1 8).bind fun v2 =>
 some v2
def yge1 (a0:(List Qp)) (x3:Int):Option (Int ⊕ (Bool ⊕ Unit)) :=
 if(decide (x3<(a0.length:Int)))=true then
  (idxO a0 x3).bind fun v6 =>
  (yfk1 v6).bind fun v7 =>
  if(!v7)=true then
   some (.inr (.inl false))
  else
   some (.inl (w64 (x3+1)))
 else
  some (.inr (.inr ()))
def ygk1 (a0:(List Qp)):Option Bool :=
 (loopO (yge1 a0) 0).bind fun y4=>(Sum.elim (fun p=>some p) (fun p=>yfe1 a0 p)) y4
def yrr (a0:(List Qp)) (a1:(List Qp)):Option Bool :=
 (yxc a0).bind fun v1 =>
 (if v1=true then
   (ygk1 a1).bind fun v2 =>
   some v2
  else
   some false).bind fun w3 =>
 some w3
def yec1  (x5:(Int×Int×Int×Int)):Option (Qr×Qr×Bool) :=
 some ((x5.1,x5.2.1),x5.2.2,true)
def yau (x6:(Int×Int×Int×Int×Int)) (v9:Qr) (x10:Qr):Option ((Int×Int×Int×Int×Int) ⊕ (Int×Int×Int×Int)) :=
 (yhb (x6.2.2.1,x6.2.2.2.1) v9).bind fun v11 =>
 if(decide (v11<0))=true then
  some (.inl (x10.1,x10.2,v9.1,v9.2,(w64 (x6.2.2.2.2+1))))
 else
  some (.inl (x10.1,x10.2,x6.2.2.1,x6.2.2.2.1,(w64 (x6.2.2.2.2+1))))
def yfc1 (x4:(List Qr)) (x6:(Int×Int×Int×Int×Int)):Option ((Int×Int×Int×Int×Int) ⊕ (Int×Int×Int×Int)) :=
 if(decide (x6.2.2.2.2<(x4.length:Int)))=true then
  (idxO x4 x6.2.2.2.2).bind fun v9 =>
  (yhb v9 (x6.1,x6.2.1)).bind fun v13 =>
  if(decide (v13<0))=true then
   yau x6 v9 v9
  else
   yau x6 v9 (x6.1,x6.2.1)
 else
  some (.inr (x6.1,x6.2.1,x6.2.2.1,x6.2.2.2.1))
def ygc1 (v1:(Qr×Bool)) (x4:(List Qr)):Option (Qr×Qr×Bool) :=
 (loopO (yfc1 x4) (v1.1.1,v1.1.2,v1.1.1,v1.1.2,0)).bind fun y7=>yec1 y7
def yhc1 (a0:(List Qp)) (a1:Qr) (a2:Qr) (x15:((List Qr)×Int)):Option (((List Qr)×Int) ⊕ (List Qr)) :=
 if(decide (x15.2<(a0.length:Int)))=true then
  (idxO a0 x15.2).bind fun v18 =>
  (yhb a1 v18.1).bind fun v19 =>
  (if(decide (v19<0))=true then
    (yhb v18.1 a2).bind fun v20 =>
    some (decide (v20<0))
   else
    some false).bind fun w21 =>
  if w21=true then
   (guardO (x15.1.length+([v18.2]).length<=1099511627776)).bind fun u23 =>
   some (.inl ((x15.1++[v18.2]),(w64 (x15.2+1))))
  else
   some (.inl (x15.1,(w64 (x15.2+1))))
 else
  some (.inr x15.1)
def yuh1 (a0:(List Qp)) (a1:Qr) (a2:Qr):Option (Qr×Qr×Bool) :=
 (yoi a0 a1).bind fun v1 =>
 (yoi a0 a2).bind fun v2 =>
 if((!v1.2)||(!v2.2))=true then
  some ((0,0),(0,0),false)
 else
  (loopO (yhc1 a0 a1 a2) ([v2.1],0)).bind fun y16=>ygc1 v1 y16
def ygy (a0:(List Qp)) (a1:Qp) (a2:Qp):Option (Bool×Bool) :=
 (yuh1 a0 a1.1 a1.2).bind fun v1 =>
 if(!v1.2.2)=true then
  some (false,false)
 else
  (yhb v1.1 a2.1).bind fun v3 =>
  (if(decide (v3<=0))=true then
    (yhb a2.2 v1.2.1).bind fun v4 =>
    some (decide (v4<=0))
   else
    some false).bind fun w5 =>
  some (w5,true)
def yas (a0:Qr) (a1:Qr) (a2:Qr):Option Qp :=
 (ypk a1 a0).bind fun v1 =>
 (ydi a2 a0).bind fun v2 =>
 some (v1,v2)
def yrx (v2:(Qr×Bool)) (x4:(Int×Int×Int×Int)):Option (Qr×Qr×Bool) :=
 some ((x4.1,x4.2.1),x4.2.2,v2.2)
def ysx (a1:(List Qp)) (a2:Qr) (a3:Qr) (x5:(Int×Int×Int×Int×Int)):Option ((Int×Int×Int×Int×Int) ⊕ (Int×Int×Int×Int)) :=
 if(decide (x5.2.2.2.2<(a1.length:Int)))=true then
  (idxO a1 x5.2.2.2.2).bind fun v8 =>
  (yvd a2 v8.1).bind fun v9 =>
  (if v9=true then
    (yvd v8.1 a3).bind fun v10 =>
    some v10
   else
    some false).bind fun w11 =>
  if w11=true then
   (yas v8.2 (x5.1,x5.2.1) (x5.2.2.1,x5.2.2.2.1)).bind fun v13 =>
   some (.inl (v13.1.1,v13.1.2,v13.2.1,v13.2.2,(w64 (x5.2.2.2.2+1))))
  else
   some (.inl (x5.1,x5.2.1,x5.2.2.1,x5.2.2.2.1,(w64 (x5.2.2.2.2+1))))
 else
  some (.inr (x5.1,x5.2.1,x5.2.2.1,x5.2.2.2.1))
def yic1 (a0:Bool) (a1:(List Qp)) (a2:Qr) (a3:Qr):Option (Qr×Qr×Bool) :=
 (yya a0 a1 a2).bind fun v1 =>
 (yya v1.2 a1 a3).bind fun v2 =>
 (yas v2.1 v1.1 v1.1).bind fun v3 =>
 (loopO (ysx a1 a2 a3) (v3.1.1,v3.1.2,v3.2.1,v3.2.2,0)).bind fun y6=>yrx v2 y6
def yeb1 (a0:Bool) (a1:(List Qp)) (a2:Qp) (a3:Qp):Option (Bool×Bool) :=
 (yic1 a0 a1 a2.1 a2.2).bind fun v1 =>
 (yvd a3.1 v1.1).bind fun v2 =>
 (if(!v2)=true then
   (yvd v1.2.1 a3.2).bind fun v3 =>
   some (!v3)
  else
   some false).bind fun w4 =>
 some (w4,v1.2.2)
def ymf  (x1:Unit):Option Int :=
 some (-1)
def ynf (a0:(List Qp)) (a1:Qp->Option Bool) (x2:Int):Option (Int ⊕ (Int ⊕ Unit)) :=
 if(decide (x2<(a0.length:Int)))=true then
  (idxO a0 x2).bind fun v5 =>
  (a1 v5).bind fun v6 =>
  if v6=true then
   some (.inr (.inl x2))
  else
   some (.inl (w64 (x2+1)))
 else
  some (.inr (.inr ()))
def ykg (a0:(List Qp)) (a1:(Qp->Option Bool)):Option Int :=
 (loopO (ynf a0 a1) 0).bind fun y3=>(Sum.elim (fun p=>some p) (fun p=>ymf p)) y3
def yof (a0:(List Qp)) (a1:(Qp->Option Bool)):Option Bool :=
 (ykg a0 a1).bind fun v1 =>
 some (decide (v1>=0))
def yjc1 (a0:Qr):Option Bool :=
 (ydo a0).bind fun v1 =>
 some (!v1)
def yeg1 (a0:(List Qr)):Option Bool :=
 (yta a0 (fun x0=>yjc1 x0)).bind fun v1 =>
 some (!v1)
def ykc1 (a0:Qp):Option Bool :=
 (yeg1 ([a0.1,a0.2])).bind fun v1 =>
 (if v1=true then
   (yvd a0.1 a0.2).bind fun v2 =>
   some v2
  else
   some false).bind fun w3 =>
 some w3
def yfw (a0:Qp):Option Bool :=
 (ykc1 a0).bind fun v1 =>
 some (!v1)
def yyy (a0:(List Qp)):Option Bool :=
 (yli (a0.length:Int) 1 8).bind fun v1 =>
 (if v1=true then
   (yof a0 (fun x0=>yfw x0)).bind fun v2 =>
   some (!v2)
  else
   some false).bind fun w3 =>
 some w3
def yfg (a0:Cu):Option (Int×Cu) :=
 (yab a0 ([13,(-1)])).bind fun v1 =>
 (yab v1.2 ([0,1,2,3,4,6,12,v1.1])).bind fun v2 =>
 some v2
def ygg (a0:(List Int)):Option ((List Qp)×Int) :=
 (ylc (a0,0,0)).bind fun v1 =>
 (yfg v1.2).bind fun v2 =>
 some (v1.1,v2.1)
def ysl :Option (List Qp) :=
 (yke).bind fun v1 =>
 (yke).bind fun v2 =>
 (yoe).bind fun v3 =>
 (yoe).bind fun v4 =>
 some ([(v1,v2),(v3,v4)])
def ysb (a0:List Qr):Option (List Qr) :=
 (guardO (a0.length<=1048576/\∀ x∈a0,okR x=true)).bind fun u1 =>
 some (sortR a0)
def yvb (a0:List Qr):Option (List Qr) :=
 some (cpL a0)
def ykm (a0:(List Qr)):Option (List Qr) :=
 (ysb a0).bind fun v1 =>
 (yvb v1).bind fun v2 =>
 some v2
def yph  (x1:(Bool×(List Qr))):Option ((List Qr)×Bool) :=
 (ykm x1.2).bind fun v2 =>
 some (v2,x1.1)
def yqd (a1:(List Qp)) (a2:Qr) (x3:(Bool×(List Qr)×Int)) (v6:Qp) (x7:(List Qr)):Option ((Bool×(List Qr)×Int) ⊕ (Bool×(List Qr))) :=
 (if(decide (x3.2.2>0))=true then
   (idxO a1 (w64 (x3.2.2-1))).bind fun v8 =>
   (yac v8.2 a2).bind fun v9 =>
   (yac v6.2 a2).bind fun v10 =>
   some (decide ((w64 (v9*v10))<0))
  else
   some false).bind fun w11 =>
 if w11=true then
  (idxO a1 (w64 (x3.2.2-1))).bind fun v13 =>
  (yal x3.1 v13 v6 a2).bind fun v14 =>
  (guardO (x7.length+([v14.1]).length<=1099511627776)).bind fun u15 =>
  some (.inl (v14.2,(x7++[v14.1]),(w64 (x3.2.2+1))))
 else
  some (.inl (x3.1,x7,(w64 (x3.2.2+1))))
def ytl (a1:(List Qp)) (a2:Qr) (x3:(Bool×(List Qr)×Int)):Option ((Bool×(List Qr)×Int) ⊕ (Bool×(List Qr))) :=
 if(decide (x3.2.2<(a1.length:Int)))=true then
  (idxO a1 x3.2.2).bind fun v6 =>
  if((v6.2.1==a2.1)&&(v6.2.2==a2.2))=true then
   (guardO (x3.2.1.length+([v6.1]).length<=1099511627776)).bind fun u17 =>
   yqd a1 a2 x3 v6 (x3.2.1++[v6.1])
  else
   yqd a1 a2 x3 v6 x3.2.1
 else
  some (.inr (x3.1,x3.2.1))
def yge (a0:Bool) (a1:(List Qp)) (a2:Qr):Option ((List Qr)×Bool) :=
 (loopO (ytl a1 a2) (a0,[],0)).bind fun y4=>yph y4
def ypf (a0:Qr) (a1:Bool) (a2:(List Qp)) (a3:(List Qp)):Option (Qr×Bool) :=
 (yya a1 a3 a0).bind fun v1 =>
 (yya v1.2 a2 v1.1).bind fun v2 =>
 some v2
def yul (f g:(List Qp)) (v2:(List Qr)) (x3:((List Qp)×Int×Bool)):Option (((List Qp)×Int×Bool) ⊕ ((List Qp)×Bool)) :=
 if(decide (x3.2.1<(v2.length:Int)))=true then
  (idxO v2 x3.2.1).bind fun v6 =>
  (ypf v6 x3.2.2 f g).bind fun v7 =>
  (guardO (x3.1.length+([(v6,v7.1)]).length<=1099511627776)).bind fun u8 =>
  some (.inl ((x3.1++[(v6,v7.1)]),(w64 (x3.2.1+1)),v7.2))
 else
  some (.inr (x3.1,x3.2.2))
def yqp (a0:(List Qr)) (a1:Bool) (f g:(List Qp)):Option ((List Qp)×Bool) :=
 (ykm a0).bind fun v2 =>
 loopO (yul f g v2) ([],0,a1)
def yti (a0:Qp):Option Bool :=
 some ((decide (a0.1.2>100))||(decide (a0.2.2>100)))
def yzn (a0:(List Qp)) (x3:(List Qp)):Option (List Qp) :=
 (idxO a0 (w64 ((a0.length:Int)-1))).bind fun v4 =>
 (guardO (x3.length+([v4]).length<=1099511627776)).bind fun u5 =>
 some (x3++[v4])
def yui (a0:(List Qp)) (v1:(List Qr)) (x6:((List Qp)×Int)):Option (((List Qp)×Int) ⊕ (List Qp)) :=
 if(decide (x6.2<(w64 ((a0.length:Int)-1))))=true then
  (idxO v1 (w64 (x6.2-1))).bind fun v9 =>
  (idxO v1 x6.2).bind fun v10 =>
  if(!((v9.1==v10.1)&&(v9.2==v10.2)))=true then
   (idxO a0 x6.2).bind fun v12 =>
   (guardO (x6.1.length+([v12]).length<=1099511627776)).bind fun u13 =>
   some (.inl ((x6.1++[v12]),(w64 (x6.2+1))))
  else
   some (.inl (x6.1,(w64 (x6.2+1))))
 else
  some (.inr x6.1)
def ywq (a0:(List Qp)):Option (List Qp) :=
 (yqi a0).bind fun v1 =>
 (idxO a0 0).bind fun v2 =>
 (loopO (yui a0 v1) ([v2],1)).bind fun y7=>yzn a0 y7
def ymt (a0:(List Qp)):Option ((List Qp)×Bool) :=
 (yha a0 (fun x0=>yti x0)).bind fun v1 =>
 if v1=true then
  some ([],false)
 else
  (ywq a0).bind fun v3 =>
  (yed v3).bind fun v4 =>
  some (v3,v4)
def ywc (a0:Bool) (a1:(List Qp)):Option ((List Qp)×Bool×Bool) :=
 if a0=true then
  some ([],false,a0)
 else
  (ymt a1).bind fun v2 =>
  if(!v2.2)=true then
   some ([],false,a0)
  else
   some (v2.1,true,a0)
def yvl (a0:(List Qp)) (a1:(List Qp)) (x2:(Bool×(List Qr))):Option ((List Qp)×Bool) :=
 (yqp x2.2 x2.1 a0 a1).bind fun v3 =>
 (ywc v3.2 v3.1).bind fun v4 =>
 some (v4.1,v4.2.1)
def ywl (a0:(List Qp)) (a1:(List Qp)) (x5:(Bool×(List Qr)×Int)):Option ((Bool×(List Qr)×Int) ⊕ (Bool×(List Qr))) :=
 if(decide (x5.2.2<(a0.length:Int)))=true then
  (idxO a0 x5.2.2).bind fun v8 =>
  (yge x5.1 a1 v8.1).bind fun v9 =>
  (guardO (x5.2.1.length+v9.1.length<=1099511627776)).bind fun u10 =>
  some (.inl (v9.2,(x5.2.1++v9.1),(w64 (x5.2.2+1))))
 else
  some (.inr (x5.1,x5.2.1))
def ygi (a0:(List Qp)) (a1:(List Qp)):Option ((List Qp)×Bool) :=
 (ynp a1).bind fun v1 =>
 (loopO (ywl a0 a1) (false,v1,0)).bind fun y6=>yvl a0 a1 y6
def yvi  (x6:(List Qp)):Option ((List Qp)×Bool) :=
 some (x6,true)
def ykd (a0:(List Qp)) (a1:Int) (x7:((List Qp)×Int)):Option (((List Qp)×Int) ⊕ (((List Qp)×Bool) ⊕ (List Qp))) :=
 if(decide (x7.2<a1))=true then
  (ygi a0 x7.1).bind fun v10 =>
  if(!v10.2)=true then
   some (.inr (.inl ([],false)))
  else
   some (.inl (v10.1,(w64 (x7.2+1))))
 else
  some (.inr (.inr x7.1))
def yih (a0:(List Qp)) (a1:Int):Option ((List Qp)×Bool) :=
 (yed a0).bind fun v1 =>
 (if(!v1)=true then
   some true
  else
   (yli a1 0 6).bind fun v2 =>
   some (!v2)).bind fun w3 =>
 if w3=true then
  some ([],false)
 else
  (ysl).bind fun v5 =>
  (loopO (ykd a0 a1) (v5,0)).bind fun y8=>(Sum.elim (fun p=>some p) (fun p=>yvi p)) y8
def ynt :Option (List Qp) :=
 (yoa 0).bind fun v1 =>
 (yoa 0).bind fun v2 =>
 (yoa 1).bind fun v3 =>
 (yoa 1).bind fun v4 =>
 some ([(v1,v2),(v3,v4)])
def ysu  (x1:(List Qr)):Option (List Qr) :=
 some x1
def ylm (a0:(List Qp)) (x2:((List Qr)×Int)):Option (((List Qr)×Int) ⊕ (List Qr)) :=
 if(decide (x2.2<(a0.length:Int)))=true then
  (idxO a0 x2.2).bind fun v5 =>
  (guardO (x2.1.length+([v5.1]).length<=1099511627776)).bind fun u6 =>
  some (.inl ((x2.1++[v5.1]),(w64 (x2.2+1))))
 else
  some (.inr x2.1)
def ygw (a0:(List Qp)):Option (List Qr) :=
 (loopO (ylm a0) ([],0)).bind fun y3=>ysu y3
def yzo  (x1:(List Qr)):Option ((List Qr)×Bool) :=
 some (x1,true)
def yhg (a1:Qr) (x2:((List Qr)×Int)) (v5:Qp) (v6:Qp) (v7:Int) (v8:Int) (x10:(List Qr)):Option (((List Qr)×Int) ⊕ (((List Qr)×Bool) ⊕ (List Qr))) :=
 if(decide ((w64 (v7*v8))>=0))=true then
  some (.inl (x10,(w64 (x2.2+1))))
 else
  (ysq v5 v6 a1).bind fun v12 =>
  if(!v12.2)=true then
   some (.inr (.inl ([],false)))
  else
   (ybf x10 v12.1).bind fun v14 =>
   some (.inl (v14,(w64 (x2.2+1))))
def yig (a1:Qr) (x2:((List Qr)×Int)) (v5:Qp) (v6:Qp) (v7:Int) (v8:Int) (x9:(List Qr)):Option (((List Qr)×Int) ⊕ (((List Qr)×Bool) ⊕ (List Qr))) :=
 if(v8==0)=true then
  (ybf x9 v6.1).bind fun v16 =>
  yhg a1 x2 v5 v6 v7 v8 v16
 else
  yhg a1 x2 v5 v6 v7 v8 x9
def yap (a0:(List Qp)) (a1:Qr) (x2:((List Qr)×Int)):Option (((List Qr)×Int) ⊕ (((List Qr)×Bool) ⊕ (List Qr))) :=
 if(decide (x2.2<(a0.length:Int)))=true then
  (idxO a0 (w64 (x2.2-1))).bind fun v5 =>
  (idxO a0 x2.2).bind fun v6 =>
  (yhb v5.2 a1).bind fun v7 =>
  (yhb v6.2 a1).bind fun v8 =>
  if(v7==0)=true then
   (ybf x2.1 v5.1).bind fun v18 =>
   yig a1 x2 v5 v6 v7 v8 v18
  else
   yig a1 x2 v5 v6 v7 v8 x2.1
 else
  some (.inr (.inr x2.1))
def yhi (a0:(List Qp)) (a1:Qr):Option ((List Qr)×Bool) :=
 (loopO (yap a0 a1) ([],1)).bind fun y3=>(Sum.elim (fun p=>some p) (fun p=>yzo p)) y3
def ybp  (x2:(List Qp)):Option (List Qp) :=
 some x2
def yxs (a0:(List Qp)) (x3:((List Qp)×Int)):Option (((List Qp)×Int) ⊕ (List Qp)) :=
 if(decide (x3.2<(a0.length:Int)))=true then
  (if((w64 (x3.2+1))==(a0.length:Int))=true then
    some true
   else
    (idxO a0 (w64 (x3.2-1))).bind fun v6 =>
    (idxO a0 x3.2).bind fun v7 =>
    (yee v6 v7).bind fun v8 =>
    (idxO a0 (w64 (x3.2+1))).bind fun v9 =>
    (yee v7 v9).bind fun v10 =>
    some (!((v8.1==v10.1)&&(v8.2==v10.2)))).bind fun w11 =>
  if w11=true then
   (idxO a0 x3.2).bind fun v13 =>
   (guardO (x3.1.length+([v13]).length<=1099511627776)).bind fun u14 =>
   some (.inl ((x3.1++[v13]),(w64 (x3.2+1))))
  else
   some (.inl (x3.1,(w64 (x3.2+1))))
 else
  some (.inr x3.1)
def ynn (a0:(List Qp)):Option (List Qp) :=
 (idxO a0 0).bind fun v1 =>
 (loopO (yxs a0) ([v1],1)).bind fun y4=>ybp y4
def ysr (a0:(List Qp)) (x1:Unit):Option ((List Qp)×Bool) :=
 (ynn a0).bind fun v2 =>
 (yxc v2).bind fun v3 =>
 if(!v3)=true then
  some ([],false)
 else
  some (v2,true)
def ytr (a0:(List Qp)) (x5:Int):Option (Int ⊕ (((List Qp)×Bool) ⊕ Unit)) :=
 if(decide (x5<(a0.length:Int)))=true then
  (idxO a0 x5).bind fun v8 =>
  (yif v8.1).bind fun v9 =>
  (if(!v9)=true then
    some true
   else
    (yif v8.2).bind fun v10 =>
    some (!v10)).bind fun w11 =>
  if w11=true then
   some (.inr (.inl ([],false)))
  else
   some (.inl (w64 (x5+1)))
 else
  some (.inr (.inr ()))
def yur (a0:(List Qp)):Option ((List Qp)×Bool) :=
 (loopO (ytr a0) 0).bind fun y6=>(Sum.elim (fun p=>some p) (fun p=>ysr a0 p)) y6
def yte  (x3:(List Qp)):Option ((List Qp)×Bool) :=
 (yur x3).bind fun v4 =>
 some v4
def ypj (a0:(List Qp)) (a1:(List Qp)) (x2:(List Qr)) (x5:((List Qp)×Int)):Option (((List Qp)×Int) ⊕ (((List Qp)×Bool) ⊕ (List Qp))) :=
 if(decide (x5.2<(x2.length:Int)))=true then
  (idxO x2 x5.2).bind fun v8 =>
  (yoi a1 v8).bind fun v9 =>
  if(!v9.2)=true then
   some (.inr (.inl ([],false)))
  else
   (yoi a0 v9.1).bind fun v11 =>
   if(!v11.2)=true then
    some (.inr (.inl ([],false)))
   else
    (guardO (x5.1.length+([(v8,v11.1)]).length<=1099511627776)).bind fun u13 =>
    some (.inl ((x5.1++[(v8,v11.1)]),(w64 (x5.2+1))))
 else
  some (.inr (.inr x5.1))
def yue (a0:(List Qp)) (a1:(List Qp)) (x2:(List Qr)):Option ((List Qp)×Bool) :=
 (loopO (ypj a0 a1 x2) ([],0)).bind fun y6=>(Sum.elim (fun p=>some p) (fun p=>yte p)) y6
def ytn (x14:((List Qr)×Int)) (x17:(List Qr)):Option (((List Qr)×Int) ⊕ (((List Qp)×Bool) ⊕ (List Qr))) :=
 some (.inl (x17,(w64 (x14.2+1))))
def yqj (v19:((List Qr)×Bool)) (x21:((List Qr)×Int)):Option (((List Qr)×Int) ⊕ (List Qr)) :=
 if(decide (x21.2<(v19.1.length:Int)))=true then
  (idxO v19.1 x21.2).bind fun v24 =>
  (ybf x21.1 v24).bind fun v25 =>
  some (.inl (v25,(w64 (x21.2+1))))
 else
  some (.inr x21.1)
def yrj (a0:(List Qp)) (a1:(List Qp)) (x14:((List Qr)×Int)):Option (((List Qr)×Int) ⊕ (((List Qp)×Bool) ⊕ (List Qr))) :=
 if(decide (x14.2<(a0.length:Int)))=true then
  (idxO a0 x14.2).bind fun v18 =>
  (yhi a1 v18.1).bind fun v19 =>
  if(!v19.2)=true then
   some (.inr (.inl ([],false)))
  else
   (loopO (yqj v19) (x14.1,0)).bind fun y22=>ytn x14 y22
 else
  some (.inr (.inr x14.1))
def yxg (a0:(List Qp)) (a1:(List Qp)):Option ((List Qp)×Bool) :=
 (ygw a1).bind fun v1 =>
 (loopO (yrj a0 a1) (v1,0)).bind fun y15=>(Sum.elim (fun p=>some p) (fun p=>yue a0 a1 p)) y15
def yum  (x2:(List Qp)):Option ((List Qp)×Bool) :=
 some (x2,true)
def yqf (a0:(List Qp)) (x3:(Int×(List Qp))):Option ((Int×(List Qp)) ⊕ (((List Qp)×Bool) ⊕ (List Qp))) :=
 if(decide (x3.1>0))=true then
  (yxg a0 x3.2).bind fun v6 =>
  if(!v6.2)=true then
   some (.inr (.inl ([],false)))
  else
   some (.inl ((w64 (x3.1-1)),v6.1))
 else
  some (.inr (.inr x3.2))
def yvr (a0:(List Qp)) (a1:Int):Option ((List Qp)×Bool) :=
 (ynt).bind fun v1 =>
 (loopO (yqf a0) (a1,v1)).bind fun y4=>(Sum.elim (fun p=>some p) (fun p=>yum p)) y4
def yjh (a0:(List Qp)) (a1:Int):Option ((List Qp)×Bool) :=
 (yxc a0).bind fun v1 =>
 (if(!v1)=true then
   some true
  else
   (yrm a1 0 6).bind fun v2 =>
   some (!v2)).bind fun w3 =>
 if w3=true then
  some ([],false)
 else
  (yvr a0 a1).bind fun v5 =>
  some v5
def yfo (a0:(List Qp)):Option ((List (List Int))×Bool) :=
 (yed a0).bind fun v1 =>
 if(!v1)=true then
  some ([],false)
 else
  (yop a0).bind fun v3 =>
  some (v3,true)
def ygo (a0:(List Qp)):Option ((List (List Int))×Bool) :=
 (yxc a0).bind fun v1 =>
 if(!v1)=true then
  some ([],false)
 else
  (ymk a0).bind fun v3 =>
  some (v3,true)
def yhe (a0:(List Int)):Option (List Qp) :=
 (yjc (a0,0,0) 2).bind fun v1 =>
 if v1.1=true then
  (ywf v1.2).bind fun v3 =>
  some v3.1
 else
  (ylc v1.2).bind fun v4 =>
  some v4.1
def ysj (a0:(List Int)):Option (List Qp) :=
 (ylc (a0,0,0)).bind fun v1 =>
 some v1.1
def yff (a0:(List Int)):Option (List Qp) :=
 (ysj a0).bind fun v1 =>
 some v1
def laws_FnLapMaps_k2 (a1:(List Int)) (x14:Unit):Option Bool :=
 (yff a1).bind fun v15 =>
 (yij v15).bind fun v16 =>
 (yjj v15).bind fun v17 =>
 (ymg v15).bind fun v18 =>
 (yok v15).bind fun v19 =>
 some ((v16.2==v17.2)&&((v16.1==v17.1)&&((v18.2==v19.2)&&(v18.1==v19.1))))
def laws_FnLapMaps_k1 (a1:(List Int)) (x7:Unit):Option Bool :=
 (yhe a1).bind fun v8 =>
 (yag v8).bind fun v9 =>
 (yfc v8).bind fun v10 =>
 (yqk v8).bind fun v11 =>
 (ydf v8).bind fun v12 =>
 if((!(v9.2==v10.2))||((!((v9.1.1==v10.1.1)&&(v9.1.2==v10.1.2)))||((!(v11.2==v12.2))||((v11.1 != v12.1)||(v9.2&&(!v11.2))))))=true then
  some false
 else
  if v11.2=true then
   (yfo v8).bind fun v21 =>
   (ygo v8).bind fun v22 =>
   (if(!v21.2)=true then
     some true
    else
     if(!v22.2)=true then
      some true
     else
      (ytg v21.1 v22.1).bind fun v23 =>
      if(!v23)=true then
       some true
      else
       if(decide (v12.1<0))=true then
        some true
       else
        if(decide (v12.1>(v22.1.length:Int)))=true then
         some true
        else
         if v9.2=true then
          (yuq v10.1 (v12.1,1)).bind fun v24 =>
          some v24
         else
          some false).bind fun w25 =>
   if w25=true then
    some false
   else
    (ymg v8).bind fun v27 =>
    if(!v27.2)=true then
     some false
    else
     (yqb v8 1).bind fun v29 =>
     (yza v8 1).bind fun v30 =>
     if((!(v29.2==v30.2))||((!((v29.1.1==v30.1.1)&&(v29.1.2==v30.1.2)))||(v30.2&&((!v27.1)||(v9.2&&(!((v30.1.1==v10.1.1)&&(v30.1.2==v10.1.2))))))))=true then
      some false
     else
      laws_FnLapMaps_k2 a1 ()
  else
   laws_FnLapMaps_k2 a1 ()
def laws_FnLapMaps (a0:(List Int)) (a1:(List Int)):Option Bool :=
 (yee1 a0 a1).bind fun v1 =>
 if v1=true then
  some true
 else
  (ygg a0).bind fun v3 =>
  (yvg v3.1 v3.2).bind fun v4 =>
  (yld v3.1 v3.2).bind fun v5 =>
  if((!(v4.2==v5.2))||(v4.1 != v5.1))=true then
   some false
  else
   if(v4.2&&(decide (v3.2<=3)))=true then
    (yih v3.1 v3.2).bind fun v33 =>
    (yjh v3.1 v3.2).bind fun v34 =>
    (if(!(v33.2==v34.2))=true then
      some true
     else
      (yjn v33.1 v34.1).bind fun v35 =>
      some (!v35)).bind fun w36 =>
    if w36=true then
     some false
    else
     if v33.2=true then
      (yfo v33.1).bind fun v39 =>
      (ygo v34.1).bind fun v40 =>
      (if(!v39.2)=true then
        some true
       else
        if(!v40.2)=true then
         some true
        else
         (ytg v39.1 v40.1).bind fun v41 =>
         if(!v41)=true then
          some true
         else
          some ((v40.1.length:Int) != v5.1)).bind fun w42 =>
      if w42=true then
       some false
      else
       laws_FnLapMaps_k1 a1 ()
     else
      laws_FnLapMaps_k1 a1 ()
   else
    laws_FnLapMaps_k1 a1 ()
def yfb1  (x2:(List Qp)):Option (List Qp) :=
 some x2
def yxl (a0:(List Qp)) (x3:((List Qp)×Int)):Option (((List Qp)×Int) ⊕ (List Qp)) :=
 if(decide (x3.2<(a0.length:Int)))=true then
  (if((w64 (x3.2+1))==(a0.length:Int))=true then
    some true
   else
    (idxO a0 (w64 (x3.2-1))).bind fun v6 =>
    (idxO a0 x3.2).bind fun v7 =>
    (yee v6 v7).bind fun v8 =>
    (idxO a0 (w64 (x3.2+1))).bind fun v9 =>
    (yee v7 v9).bind fun v10 =>
    some (!((v8.1==v10.1)&&(v8.2==v10.2)))).bind fun w11 =>
  if w11=true then
   (idxO a0 x3.2).bind fun v13 =>
   (guardO (x3.1.length+([v13]).length<=1099511627776)).bind fun u14 =>
   some (.inl ((x3.1++[v13]),(w64 (x3.2+1))))
  else
   some (.inl (x3.1,(w64 (x3.2+1))))
 else
  some (.inr x3.1)
def yys (a0:(List Qp)):Option (List Qp) :=
 (idxO a0 0).bind fun v1 =>
 (loopO (yxl a0) ([v1],1)).bind fun y4=>yfb1 y4
def yhk1 (a0:(List Qp)) (a1:(List Qp)):Option Bool :=
 (yed a0).bind fun v1 =>
 (if v1=true then
   (yyy a1).bind fun v2 =>
   some v2
  else
   some false).bind fun w3 =>
 some w3
def yhw  (x3:(Bool×(List Int))):Option ((List Int)×Bool) :=
 if x3.1=true then
  some ([],false)
 else
  some (x3.2,true)
def yiw (a0:(List Qp)) (a1:(List Qp)) (x5:(Bool×(List Int)×Int)):Option ((Bool×(List Int)×Int) ⊕ (Bool×(List Int))) :=
 if(decide (x5.2.2<(a1.length:Int)))=true then
  (idxO a1 x5.2.2).bind fun v8 =>
  (guardO ((a1.length:Int)≠0)).bind fun u9 =>
  (idxO a1 (Int.tmod (w64 (x5.2.2+1)) (a1.length:Int))).bind fun v10 =>
  (yeb1 x5.1 a0 v8 v10).bind fun v11 =>
  if(!v11.1)=true then
   (guardO (x5.2.1.length+([x5.2.2]).length<=1099511627776)).bind fun u13 =>
   some (.inl (v11.2,(x5.2.1++[x5.2.2]),(w64 (x5.2.2+1))))
  else
   some (.inl (v11.2,x5.2.1,(w64 (x5.2.2+1))))
 else
  some (.inr (x5.1,x5.2.1))
def ycp (a0:(List Qp)) (a1:(List Qp)):Option ((List Int)×Bool) :=
 (yhk1 a0 a1).bind fun v1 =>
 if(!v1)=true then
  some ([],false)
 else
  (loopO (yiw a0 a1) (false,[],0)).bind fun y6=>yhw y6
def ytu (a0:(List Qp)) (a1:(List Qp)):Option (Bool×Bool) :=
 (ycp a0 a1).bind fun v1 =>
 (if v1.2=true then
   if((v1.1.length:Int)==0)=true then
    some true
   else
    (idxO v1.1 0).bind fun v2 =>
    some (v2==(w64 ((a1.length:Int)-1)))
  else
   some false).bind fun w3 =>
 some (w3,v1.2)
def yrh (a0:(List Qp)):Option (List Qp) :=
 (guardO (a0.length<=1099511627776)).bind fun u2 =>
 some a0
def ytx (a0:Qr) (c0:(Int×Int×Int×Int)):Option Bool :=
 some (((a0.1==c0.1)&&(a0.2==c0.2.1))||((a0.1==c0.2.2.1)&&(a0.2==c0.2.2.2)))
def yjw  (x4:Bool):Option (Qp×Bool) :=
 some (((0,0),(0,0)),true)
def ykw (a1:(List Qp)) (v3:(List Qr)) (x5:(Bool×Int)):Option ((Bool×Int) ⊕ ((Qp×Bool) ⊕ Bool)) :=
 if((decide (x5.2<(v3.length:Int)))&&(!x5.1))=true then
  (idxO v3 (w64 (x5.2-1))).bind fun v8 =>
  (yya x5.1 a1 v8).bind fun v9 =>
  (idxO v3 x5.2).bind fun v10 =>
  (yya v9.2 a1 v10).bind fun v11 =>
  if(!((v9.1.1==v11.1.1)&&(v9.1.2==v11.1.2)))=true then
   some (.inr (.inl ((v8,v10),v11.2)))
  else
   some (.inl (v11.2,(w64 (x5.2+1))))
 else
  some (.inr (.inr x5.1))
def ylw (a1:(List Qp)) (x2:(Bool×(List Qr))):Option (Qp×Bool) :=
 (ykm x2.2).bind fun v3 =>
 (loopO (ykw a1 v3) (x2.1,1)).bind fun y6=>(Sum.elim (fun p=>some p) (fun p=>yjw p)) y6
def ymw (a1:(List Qp)) (a2:Qp) (a3:Qp) (x13:(Bool×(List Qr)×Int)):Option ((Bool×(List Qr)×Int) ⊕ (Bool×(List Qr))) :=
 if(decide (x13.2.2<(([a2.1,a2.2]).length:Int)))=true then
  (idxO ([a2.1,a2.2]) x13.2.2).bind fun v16 =>
  (yya x13.1 a1 v16).bind fun v17 =>
  (ytx v17.1 (a3.1.1,a3.1.2,a3.2.1,a3.2.2)).bind fun v18 =>
  if v18=true then
   (guardO (x13.2.1.length+([v16]).length<=1099511627776)).bind fun u20 =>
   some (.inl (v17.2,(x13.2.1++[v16]),(w64 (x13.2.2+1))))
  else
   some (.inl (v17.2,x13.2.1,(w64 (x13.2.2+1))))
 else
  some (.inr (x13.1,x13.2.1))
def ynw (a1:(List Qp)) (a2:Qp) (a3:Qp) (x1:(Bool×(List Qr))):Option (Qp×Bool) :=
 (loopO (ymw a1 a2 a3) (x1.1,x1.2,0)).bind fun y14=>ylw a1 y14
def yow (a2:Qp) (v21:((List Qr)×Bool)) (v22:((List Qr)×Bool)) (x24:((List Qr)×Int)):Option (((List Qr)×Int) ⊕ (Bool×(List Qr))) :=
 if(decide (x24.2<((v21.1++v22.1).length:Int)))=true then
  (idxO (v21.1++v22.1) x24.2).bind fun v27 =>
  (yvd v27 a2.1).bind fun v28 =>
  (if(!v28)=true then
    (yvd a2.2 v27).bind fun v29 =>
    some (!v29)
   else
    some false).bind fun w30 =>
  if w30=true then
   (guardO (x24.1.length+([v27]).length<=1099511627776)).bind fun u32 =>
   some (.inl ((x24.1++[v27]),(w64 (x24.2+1))))
  else
   some (.inl (x24.1,(w64 (x24.2+1))))
 else
  some (.inr (v22.2,x24.1))
def ygb1 (a0:Bool) (a1:(List Qp)) (a2:Qp) (a3:Qp):Option (Qp×Bool) :=
 (yge a0 a1 a3.1).bind fun v21 =>
 (yge v21.2 a1 a3.2).bind fun v22 =>
 (guardO (v21.1.length+v22.1.length<=1099511627776)).bind fun u23 =>
 (loopO (yow a2 v21 v22) ([],0)).bind fun y25=>ynw a1 a2 a3 y25
def ypw  (x4:(Bool×(List Qp))):Option ((List Qp)×Bool) :=
 if x4.1=true then
  some ([],false)
 else
  some (x4.2,true)
def yqw (a0:(List Qp)) (a1:(List Qp)) (x6:(Bool×(List Qp)×Int)):Option ((Bool×(List Qp)×Int) ⊕ (Bool×(List Qp))) :=
 if((decide (x6.2.2>=0))&&(!x6.1))=true then
  (idxO a1 x6.2.2).bind fun v9 =>
  (idxO x6.2.1 (w64 (x6.2.2+1))).bind fun v10 =>
  (ygb1 x6.1 a0 v9 v10).bind fun v11 =>
  (idxO x6.2.1 x6.2.2).bind fun v12 =>
  some (.inl (v11.2,(x6.2.1.set (Int.toNat x6.2.2) v11.1),(w64 (x6.2.2-1))))
 else
  some (.inr (x6.1,x6.2.1))
def ydp (a0:(List Qp)) (a1:(List Qp)):Option ((List Qp)×Bool) :=
 (ytu a0 a1).bind fun v1 =>
 if((!v1.2)||(!v1.1))=true then
  some ([],false)
 else
  (yrh a1).bind fun v3 =>
  (loopO (yqw a0 a1) (false,v3,(w64 ((a1.length:Int)-2)))).bind fun y7=>ypw y7
def yhb1  (x1:(List Int)):Option ((List Int)×Bool) :=
 some (x1,true)
def yib1 (a0:(List Qp)) (a1:(List Qp)) (x2:((List Int)×Int)):Option (((List Int)×Int) ⊕ (((List Int)×Bool) ⊕ (List Int))) :=
 if(decide (x2.2<(a1.length:Int)))=true then
  (idxO a1 x2.2).bind fun v5 =>
  (guardO ((a1.length:Int)≠0)).bind fun u6 =>
  (idxO a1 (Int.tmod (w64 (x2.2+1)) (a1.length:Int))).bind fun v7 =>
  (ygy a0 v5 v7).bind fun v8 =>
  if(!v8.2)=true then
   some (.inr (.inl ([],false)))
  else
   if(!v8.1)=true then
    (guardO (x2.1.length+([x2.2]).length<=1099511627776)).bind fun u11 =>
    some (.inl ((x2.1++[x2.2]),(w64 (x2.2+1))))
   else
    some (.inl (x2.1,(w64 (x2.2+1))))
 else
  some (.inr (.inr x2.1))
def yrp (a0:(List Qp)) (a1:(List Qp)):Option ((List Int)×Bool) :=
 (loopO (yib1 a0 a1) ([],0)).bind fun y3=>(Sum.elim (fun p=>some p) (fun p=>yhb1 p)) y3
def yjb1  (x8:Unit):Option (Qp×Bool) :=
 some (((0,0),(0,0)),false)
def ykb1 (a0:(List Qp)) (x7:(List Qr)) (x9:Int):Option (Int ⊕ ((Qp×Bool) ⊕ Unit)) :=
 if(decide (x9<(x7.length:Int)))=true then
  (idxO x7 (w64 (x9-1))).bind fun v12 =>
  (yoi a0 v12).bind fun v13 =>
  (idxO x7 x9).bind fun v14 =>
  (yoi a0 v14).bind fun v15 =>
  if(!((v13.1.1==v15.1.1)&&(v13.1.2==v15.1.2)))=true then
   some (.inr (.inl ((v12,v14),true)))
  else
   some (.inl (w64 (x9+1)))
 else
  some (.inr (.inr ()))
def ylb1 (a0:(List Qp)) (x7:(List Qr)):Option (Qp×Bool) :=
 (loopO (ykb1 a0 x7) 1).bind fun y10=>(Sum.elim (fun p=>some p) (fun p=>yjb1 p)) y10
def ymb1 (a0:(List Qp)) (a1:Qp) (a2:Qp) (x17:((List Qr)×Int)):Option (((List Qr)×Int) ⊕ (List Qr)) :=
 if(decide (x17.2<(([a1.1,a1.2]).length:Int)))=true then
  (idxO ([a1.1,a1.2]) x17.2).bind fun v20 =>
  (yoi a0 v20).bind fun v21 =>
  if(((v21.1.1==a2.1.1)&&(v21.1.2==a2.1.2))||((v21.1.1==a2.2.1)&&(v21.1.2==a2.2.2)))=true then
   (ybf x17.1 v20).bind fun v23 =>
   some (.inl (v23,(w64 (x17.2+1))))
  else
   some (.inl (x17.1,(w64 (x17.2+1))))
 else
  some (.inr x17.1)
def ynb1 (a0:(List Qp)) (a1:Qp) (a2:Qp) (x6:(List Qr)):Option (Qp×Bool) :=
 (loopO (ymb1 a0 a1 a2) (x6,0)).bind fun y18=>ylb1 a0 y18
def yob1 (a1:Qp) (v3:((List Qr)×Bool)) (v4:((List Qr)×Bool)) (x25:((List Qr)×Int)):Option (((List Qr)×Int) ⊕ (List Qr)) :=
 if(decide (x25.2<((v3.1++v4.1).length:Int)))=true then
  (idxO (v3.1++v4.1) x25.2).bind fun v28 =>
  (yhb a1.1 v28).bind fun v29 =>
  (if(decide (v29<=0))=true then
    (yhb v28 a1.2).bind fun v30 =>
    some (decide (v30<=0))
   else
    some false).bind fun w31 =>
  if w31=true then
   (ybf x25.1 v28).bind fun v33 =>
   some (.inl (v33,(w64 (x25.2+1))))
  else
   some (.inl (x25.1,(w64 (x25.2+1))))
 else
  some (.inr x25.1)
def yfg1 (a0:(List Qp)) (a1:Qp) (a2:Qp):Option (Qp×Bool) :=
 (ygy a0 a1 a2).bind fun v1 =>
 if((!v1.2)||(!v1.1))=true then
  some (((0,0),(0,0)),false)
 else
  (yhi a0 a2.1).bind fun v3 =>
  (yhi a0 a2.2).bind fun v4 =>
  if((!v3.2)||(!v4.2))=true then
   some (((0,0),(0,0)),false)
  else
   (guardO (v3.1.length+v4.1.length<=1099511627776)).bind fun u24 =>
   (loopO (yob1 a1 v3 v4) ([],0)).bind fun y26=>ynb1 a0 a1 a2 y26
def yrw  (x8:(List Qp)):Option ((List Qp)×Bool) :=
 some (x8,true)
def ysw (a0:(List Qp)) (a1:(List Qp)) (x9:((List Qp)×Int)):Option (((List Qp)×Int) ⊕ (((List Qp)×Bool) ⊕ (List Qp))) :=
 if(decide (x9.2>=0))=true then
  (idxO a1 x9.2).bind fun v12 =>
  (idxO x9.1 (w64 (x9.2+1))).bind fun v13 =>
  (yfg1 a0 v12 v13).bind fun v14 =>
  if(!v14.2)=true then
   some (.inr (.inl ([],false)))
  else
   (idxO x9.1 x9.2).bind fun v16 =>
   some (.inl ((x9.1.set (Int.toNat x9.2) v14.1),(w64 (x9.2-1))))
 else
  some (.inr (.inr x9.1))
def yep (a0:(List Qp)) (a1:(List Qp)):Option ((List Qp)×Bool) :=
 (yrr a0 a1).bind fun v1 =>
 if(!v1)=true then
  some ([],false)
 else
  (yrp a0 a1).bind fun v3 =>
  (if(!v3.2)=true then
    some true
   else
    if(decide ((v3.1.length:Int)>0))=true then
     (idxO v3.1 0).bind fun v4 =>
     some (decide (v4<(w64 ((a1.length:Int)-1))))
    else
     some false).bind fun w5 =>
  if w5=true then
   some ([],false)
  else
   (guardO (a1.length<=1099511627776)).bind fun u7 =>
   (loopO (ysw a0 a1) (a1,(w64 ((a1.length:Int)-2)))).bind fun y10=>(Sum.elim (fun p=>some p) (fun p=>yrw p)) y10
def ypb1 (a0:(List Qp)) (a1:(List Qp)):Option (Bool×Bool) :=
 (yrr a0 a1).bind fun v1 =>
 if(!v1)=true then
  some (false,false)
 else
  (yrp a0 a1).bind fun v3 =>
  if(!v3.2)=true then
   some (false,false)
  else
   (if((v3.1.length:Int)==0)=true then
     some true
    else
     (idxO v3.1 0).bind fun v5 =>
     some (v5==(w64 ((a1.length:Int)-1)))).bind fun w6 =>
   some (w6,true)
def yhy (a0:(List Qp)) (a1:(List Qp)):Option (Bool×Bool) :=
 (ycp a0 a1).bind fun v1 =>
 some ((v1.2&&((v1.1.length:Int)==0)),v1.2)
def yik1 (a0:(List Qp)) (a1:(List Qp)):Option (Bool×Bool) :=
 (yrp a0 a1).bind fun v1 =>
 some ((v1.2&&((v1.1.length:Int)==0)),v1.2)
def yiy (a0:(List Qp)) (a1:(List Qp)):Option (Bool×Bool) :=
 (yrr a0 a1).bind fun v1 =>
 if(!v1)=true then
  some (false,false)
 else
  (yik1 a0 a1).bind fun v3 =>
  some v3
def yzs (a0:(List Qp)) (a1:(List Qp)):Option ((List Int)×Bool) :=
 (ycp a0 a1).bind fun v1 =>
 some v1
def yat (a0:(List Qp)) (a1:(List Qp)):Option ((List Int)×Bool) :=
 (yrr a0 a1).bind fun v1 =>
 if(!v1)=true then
  some ([],false)
 else
  (yrp a0 a1).bind fun v3 =>
  some v3
end
end Go.PV

/-
  Plain laws of what the functions answer.
  Conditions: none.
-/
import Derived.Test.YtigabkbbbpokbaaGreatPlAx
import Derived.Test.YtigabkbbbpokbaaGreatPvCx
/-
 Plain laws: states of fractions,walks of states,laps of Markov partitions,on both sides.
 Conditions: none.
-/
set_option linter.all false
namespace Go.PV
structure PC (xs:List Rt) (m:Nat) (c:Nat->Rt):Prop where
 e:xs=tab (m+1) c
 lo:1<=m
 hi:m<=8
 u:∀ i,i<=m->isUnit (c i)=true
 lt:∀ i j,i<j->j<=m->val (c i)<val (c j)
 c0:c 0=(0,1)
 cm:c m=(1,1)
theorem Prt.pc {xs:List Rt} (h:Prt xs):∃ m c,PC xs m c:=by
 have h2:=h.lo
 have h9:=h.hi
 obtain⟨m,hm⟩:∃ m,xs.length=m+1:=⟨xs.length-1,by omega⟩
 obtain⟨c,hc⟩:∃ c:Nat->Rt,∀ i,c i=xs.getD i default:=⟨_,fun _=>rfl⟩
 have e:xs=tab (m+1) c:=by
  have e:=yye1 xs;rw[hm] at e;exact e.trans (yzl fun i _=>(hc i).symm)
 have hg:∀ i (hi:i<xs.length),c i=xs[i]:=fun i hi=>by rw[hc,List.getD_eq_getElem?_getD,List.getElem?_eq_getElem hi];rfl
 have u:∀ i,i<=m->isUnit (c i)=true:=fun i hi=>h.unit _ (by rw[hg i (by omega)];exact List.getElem_mem _)
 refine⟨m,c,e,by omega,by omega,u,fun i j hij hj=>?_,?_,?_⟩
 ·have:=h.srt.get (i:=i) (j:=j) hij (by omega)
  rw[← hg i (by omega),← hg j (by omega)] at this;exact(yce (yyc (yad (u i (by omega)))) (yyc (yad (u j hj)))).1 this
 ·have:=h.fst
  rw[List.getElem?_eq_getElem (by omega),← hg 0 (by omega)] at this;exact Option.some.inj this
 have:=h.lst
 rw[List.getElem?_eq_getElem (by omega),← hg (xs.length-1) (by omega),show xs.length-1=m by omega] at this
 exact Option.some.inj this
theorem yda2 (m:Nat) (c:Nat->Rt):(tab (m+1) c).zip (tab (m+1) c).tail=tab m fun a=>(c a,c (a+1)):=by
 have hl:((tab (m+1) c).zip (tab (m+1) c).tail).length=m:=by rw[yaq1,yab];omega
 apply List.ext_getElem?
 intro i
 by_cases hi:i<m
 ·have hz:((tab (m+1) c).zip (tab (m+1) c).tail)[i]?=some (((tab (m+1) c).zip (tab (m+1) c).tail)[i]'(by omega)):=List.getElem?_eq_getElem (by omega)
  obtain⟨h1,e⟩:=yzp1 hz;rw[hz,e,yxr hi];have g:∀ j (hj:j<(tab (m+1) c).length),(tab (m+1) c)[j]=c j:=fun j hj=>by
   have h1:(tab (m+1) c)[j]?=some (tab (m+1) c)[j]:=List.getElem?_eq_getElem hj
   have h2:(tab (m+1) c)[j]?=some (c j):=yxr (by rw[yab] at hj;exact hj)
   rw[h1] at h2;exact Option.some.inj h2
  rw[g,g]
 rw[List.getElem?_eq_none (by omega),ynl (by omega)]
def inS (c:Nat->Rt) (x:Rt) (k:Nat):Bool:= !less x (c k) && !less (c (k+1)) x
def stL (c:Nat->Rt) (x:Rt) (m:Nat):List Int:=((List.range m).filter (inS c x)).map fun k:Nat=>(k:Int)
theorem yjq1 (c:Nat->Rt) (x:Rt) (m:Nat):stL c x (m+1)=if inS c x m=true then stL c x m++[(m:Int)] else stL c x m:=by
 unfold stL
 rw[List.range_succ,List.filter_append]
 by_cases h:inS c x m=true
 ·rw[if_pos h];simp[List.filter_cons,h]
 rw[if_neg h];simp[List.filter_cons,h]
theorem ykq1 (c:Nat->Rt) (x:Rt) (m:Nat):(stL c x m).length<=m:=by
 unfold stL
 rw[List.length_map]
 have:=List.length_filter_le (inS c x) (List.range m)
 rw[List.length_range] at this
 exact this
theorem stL_mem {c:Nat->Rt} {x:Rt} {m:Nat} {k:Int}:k∈stL c x m↔∃ j:Nat,j<m/\inS c x j=true/\k=(j:Int):=by
 unfold stL
 rw[List.mem_map]
 constructor
 ·rintro⟨j,hj,rfl⟩
  obtain⟨a,b⟩:=List.mem_filter.1 hj;exact⟨j,List.mem_range.1 a,b,rfl⟩
 rintro⟨j,a,b,rfl⟩
 exact⟨j,List.mem_filter.2 ⟨List.mem_range.2 a,b⟩,rfl⟩
section
variable {xs:List Rt} {m:Nat} {c:Nat->Rt} {x:Rt}
theorem PC.inS_iff (h:PC xs m c) (hx:isUnit x=true) {k:Nat} (hk:k<m):inS c x k=true↔val (c k)<=val x/\val x<=val (c (k+1)):=by
 unfold inS
 rw[Bool.and_eq_true,Bool.not_eq_true',Bool.not_eq_true',yie (yyc (yad hx)) (yyc (yad (h.u k (by omega)))),yie (yyc (yad (h.u (k+1) (by omega)))) (yyc (yad hx))]
theorem val01:val ((0:Int),(1:Int))=0/\val ((1:Int),(1:Int))=1:=⟨by show((0:Int):Rat) / ((1:Int):Rat)=0;grind,by show((1:Int):Rat) / ((1:Int):Rat)=1;grind⟩
theorem PC.has (h:PC xs m c) (hx:isUnit x=true):∃ k,k<m/\inS c x k=true:=by
 have hu:=(yqh (yad hx)).1 hx
 have key:∀ j,j<=m->val x<=val (c j)->∃ k,k<m/\inS c x k=true:=by
  intro j;induction j with
  | zero =>
   intro _ hj;refine⟨0,by have:=h.lo;omega,(h.inS_iff hx (by have:=h.lo;omega)).2 ⟨?_,?_⟩⟩
   ·rw[h.c0,val01.1];exact hu.1
   have:=h.lt 0 1 (by omega) h.lo;grind
  | succ j ih =>
   intro hjm hj;by_cases hle:val x<=val (c j)
   ·exact ih (by omega) hle
   exact⟨j,by omega,(h.inS_iff hx (by omega)).2 ⟨by grind,hj⟩⟩
 exact key m (Nat.le_refl m) (by rw[h.cm,val01.2];exact hu.2)
theorem PC.ne (h:PC xs m c) (hx:isUnit x=true):∃ v,(stL c x m)[0]?=some v:=by
 obtain⟨k,hk,hi⟩:=h.has hx
 have:(k:Int)∈stL c x m:=stL_mem.2 ⟨k,hk,hi,rfl⟩
 cases hs:stL c x m with
 | nil=>rw[hs] at this;cases this
 | cons v t=>exact⟨v,rfl⟩
theorem PC.impl_states (h:PC xs m c) (hx:isUnit x=true):ynm xs x=some (stL c x m):=by
 have h8:=h.hi
 have hl:xs.length=m+1:=by rw[h.e,yab]
 have tx:=yye (yad hx)
 unfold ynm
 rw[yky xs (by omega),Option.bind_some,h.e,yda2]
 have loop:=ydc (body:=ych x (tab m fun a=>(c a,c (a+1)))) m (fun i=>(stL c x i,(i:Int))) (stL c x m) (fun i hi=>by
  have hlen:=ykq1 c x i;simp only[ych,yab,show((i:Int)<(m:Int)) from by omega,decide_true,if_true,yua hi,Option.bind_some,yre x (c i) tx (yye (yad (h.u i (by omega)))),yre (c (i+1)) x (yye (yad (h.u (i+1) (by omega)))) tx,yta (show i<9223372036854775807 by omega)]
  rw[yjq1];unfold inS;cases less x (c i)
  ·cases less (c (i+1)) x
   ·simp only[Bool.not_false,if_true,Option.bind_some,Bool.and_self]
    rw[yea (by simp;omega)]
   simp
  ·simp) (by
  simp only[ych,yab,Int.lt_irrefl,decide_false,Bool.false_eq_true,if_false])
 have loop:loopO (ych x (tab m fun a=>(c a,c (a+1)))) ([],0)=_:=loop
 rw[loop];rfl
theorem PC.spec_states (h:PC xs m c) (hx:isUnit x=true):ysj xs x=some (stL c x m):=by
 have h8:=h.hi
 have hl:xs.length=m+1:=by rw[h.e,yab]
 have tx:=yye (yad hx)
 unfold ysj
 rw[h.e]
 have loop:=ydc (body:=ydh (tab (m+1) c) x) m (fun i=>(stL c x i,((i+1:Nat):Int))) (stL c x m) (fun i hi=>by
  have hlen:=ykq1 c x i;simp only[ydh,yab,show(((i+1:Nat):Int)<((m+1:Nat):Int)) from by omega,decide_true,if_true,yej (show 0<i+1 by omega) (show i+1<4611686018427387904 by omega),Nat.add_sub_cancel,yua (show i<m+1 by omega),yua (show i+1<m+1 by omega),Option.bind_some,yuf (c i) x (yye (yad (h.u i (by omega)))) tx,yuf x (c (i+1)) tx (yye (yad (h.u (i+1) (by omega)))),ysb2,yta (show i+1<9223372036854775807 by omega)]
  rw[yjq1];unfold inS;cases less x (c i)
  ·cases less (c (i+1)) x
   ·simp only[Bool.not_false,if_true,Option.bind_some,Bool.and_self]
    rw[yea (by simp;omega)]
   simp
  ·simp) (by
  simp only[ydh,yab,Int.lt_irrefl,decide_false,Bool.false_eq_true,if_false])
 have loop:loopO (ydh (tab (m+1) c) x) ([],1)=_:=loop
 rw[loop];rfl
end
noncomputable def swV (n:Nat) (p:Nat->Pt) (c:Nat->Rt) (m:Nat) (x:Rt) (i:Nat):Int:=((stL c (vv n p x i) m)[0]?).getD 0
theorem ymg1 (f:List Pt) (xs:List Rt) (x:Rt) (k:Int) (hf:f.length<=4611686018427387904) (hx:xs.length<=4611686018427387904) :
  ∃ r,ypn f xs x k=some r/\yqn f xs x k=some r/\(r.2=true->(r.1.length:Int)=k+1)/\r.1.length<=41:=by
 obtain⟨b,b1,b2,b3⟩:=yiy f hf
 obtain⟨d,d1,d2,d3⟩:=yfa1 xs hx
 unfold ypn yqn yqd
 rw[b1,b2,d1,d2,ywj,ywm,yqe,yxc]
 cases b
 ·exact⟨([],false),rfl,rfl,nof,by simp⟩
 cases d
 ·exact⟨([],false),rfl,rfl,nof,by simp⟩
 cases hu:isUnit x
 ·exact⟨([],false),rfl,rfl,nof,by simp⟩
 cases hk:inB 0 40 k
 ·exact⟨([],false),rfl,rfl,nof,by simp⟩
 obtain⟨n,p,rfl,h2,hn,hm⟩:=b3 rfl
 obtain⟨k0,k40⟩:=inB_iff.1 hk
 obtain⟨N,rfl⟩:=Int.eq_ofNat_of_zero_le k0
 have hc:=Curve.of_map hm h2 hn
 have hy:∀ i,i<n->coord (p i).2=true:=fun i hi=>(hm.1 i hi).2
 obtain⟨m,c,pc⟩:=(d3.1 rfl).pc
 obtain⟨L,st,eo⟩:=yvi1 hc hy hu N (by omega)
 have some_le:∀ i,i<=L->vQ n p x i=some (vv n p x i):=fun i hi=>by
  cases hv:vQ n p x i with
  | none=>have:=ysz1 hv hi;rw[st.some] at this;cases this
  | some y=>unfold vv;rw[hv];rfl
 have un:∀ i,i<=L->isUnit (vv n p x i)=true:=fun i hi=>yyp1 hc hy hu (some_le i hi)
 have g0:∀ i,i<=L->idxO (stL c (vv n p x i) m) 0=some (swV n p c m x i):=fun i hi=>by
  obtain⟨v,e⟩:=pc.ne (un i hi)
  have:idxO (stL c (vv n p x i) m) ((0:Nat):Int)=some (swV n p c m x i):=by rw[ydj,e];unfold swV;rw[e];rfl
  exact this
 have hl:=st.le
 have v0:vv n p x 0=x:=rfl
 have sp:∃ y,loopO (ynf (tab n p) xs) ((N:Int),x.1,x.2,[swV n p c m x 0])=some y/\((L=N/\y=.inr (tab (N+1) (swV n p c m x)))\/(L<N/\y=.inl ([],false))):=by
  obtain⟨y,h3,h4⟩:=yao (body:=ynf (tab n p) xs) (fun s=>∃ i:Nat,i<=L/\s=(((N-i:Nat):Int),(vv n p x i).1,(vv n p x i).2,tab (i+1) (swV n p c m x))) (fun s=>s.1.toNat)
   (fun y=>(L=N/\y=.inr (tab (N+1) (swV n p c m x)))\/(L<N/\y=.inl ([],false))) (fun s ⟨i,hi,e⟩=>by
    subst e;by_cases hlt:i<N
    ·simp only[ynf,show(((N-i:Nat):Int)>0) from by omega,decide_true,if_true]
     rw[show((vv n p x i).1,(vv n p x i).2)=vv n p x i from rfl,yti1 hc (un i hi),Option.bind_some];have e2:vQ n p x (i+1)=atQ n p (vv n p x i):=by simp[vQ,some_le i hi]
     cases ha:atQ n p (vv n p x i) with
     | none =>
      right
      refine⟨.inl ([],false),rfl,.inr ⟨?_,rfl⟩⟩
      refine Classical.byContradiction fun hno=>?_
      have:=some_le (i+1) (by omega)
      rw[e2,ha] at this;cases this
     | some z =>
      left
      have e3:vv n p x (i+1)=z:=by unfold vv;rw[e2,ha];rfl
      have hi1:i+1<=L:=by
       refine Classical.byContradiction fun hno=>?_
       have hLi:L=i:=by omega
       rcases st.stop with q | q
       ·omega
       rw[hLi,e2,ha] at q;cases q
      have hzu:=un (i+1) hi1
      have hg:=g0 (i+1) hi1
      rw[e3] at hzu hg
      refine⟨_,by
       simp only[unO,Bool.not_true,Bool.false_eq_true,if_false,pc.spec_states hzu,Option.bind_some,hg];rw[yea (by rw[yab];simp;omega),yqc1 (i+1)],⟨i+1,hi1,?_⟩,by
       rw[yec (by omega) (by omega)];omega⟩
      rw[e3,yec (by omega) (by omega)];congr 1
      omega
    have hiN:i=N:=by omega
    subst hiN;right
    have:L=i:=by omega
    exact⟨.inr (tab (i+1) (swV n p c m x)),by simp only[ynf,Nat.sub_self,Int.natCast_zero,show ¬ ((0:Int)>0) from by omega,decide_false,Bool.false_eq_true,if_false],.inl ⟨this,rfl⟩⟩) ((N:Int),x.1,x.2,[swV n p c m x 0]) ⟨0,by omega,rfl⟩
  exact⟨y,h3,h4⟩
 obtain⟨y,sy,hy'⟩:=sp
 have hg0:=g0 0 (by omega)
 rw[v0] at hg0
 have im:ybt (tab n p) x (N:Int)=some (tab (L+1) (vv n p x)):=eo
 simp only[Option.bind_some,Bool.not_true,Bool.false_eq_true,if_false,if_true,pc.spec_states hu,hg0]
 rw[sy,im,Option.bind_some,Option.bind_some,yab]
 rcases hy' with⟨rfl,rfl⟩ | ⟨hlt,rfl⟩
 ·refine⟨(tab (L+1) (swV n p c m x),true),?_,rfl,fun _=>by rw[yab];show((L+1:Nat):Int)=(L:Int)+1;omega,by rw[yab];have:(L:Int)<=40:=k40;omega⟩
  rw[if_neg (by simp;show(L:Int)<((L+1:Nat):Int);omega)]
  have loop:=yyz (body:=ymf xs (tab (L+1) (vv n p x))) (L+1) (fun l i=>(l,(i:Int))) (swV n p c m x) (tab (L+1) (swV n p c m x)) (fun i hi=>by
   simp only[ymf,yab,show((i:Int)<((L+1:Nat):Int)) from by omega,decide_true,if_true,yua hi,Option.bind_some,pc.impl_states (un i (by omega)),g0 i (by omega),yta (show i<9223372036854775807 by omega)]
   rw[yea (by simp;omega)]) (by
   simp only[ymf,yab,Int.lt_irrefl,decide_false,Bool.false_eq_true,if_false])
  have loop:loopO (ymf xs (tab (L+1) (vv n p x))) ([],0)=_:=loop
  rw[loop];rfl
 exact⟨([],false),by rw[if_pos (by simp;show((L+1:Nat):Int)<=(N:Int);omega)],rfl,nof,by simp⟩
end Go.PV

/-
 Plain laws: laps of linear Markov partitions on both sides.
 Conditions: none.
-/
set_option linter.all false
namespace Go.PV
theorem yat1 {n:Nat} {G:Nat->Nat->Int} (h1:1<=n) (h2:n<=8) (hG:∀ i j,i<n->j<n->0<=G i j/\G i j<=9) {k:Nat} (hk:k<=12) :
  ywh (mat n n G) (k:Int)=some ([],false)\/ywh (mat n n G) (k:Int)=some (mat n n (powN n G 1000000001 k),true):=by
 have hin:inB 0 12 (k:Int)=true:=inB_iff.2 ⟨by omega,by omega⟩
 have hg:=yad1 h1 h2 hG
 have hs:=yvb1 (G:=G) h2
 have rlen:∀ row∈mat n n (powN n G 1000000001 k),row.length=n:=fun row hr=>by
  obtain⟨i,hi,rfl⟩:=tab_mem.1 hr;exact yab _ _
 unfold ywh ycm yzq
 rw[yuo _ hs,hg]
 simp only[Option.bind_some,if_true,yxc,hin,Bool.not_true,Bool.false_eq_true,if_false,yup h2 k (by omega)]
 rw[yuz _ _ (fun row=>(yvh row).getD false) (fun row hr=>by
  obtain⟨x,hx,e⟩:=ynu1 row (by rw[rlen row hr];exact h1) (by rw[rlen row hr];omega)
  unfold yvh;rw[e];rfl) (by rw[ysg];omega),Option.bind_some]
 cases (mat n n (powN n G 1000000001 k)).any fun row=>(yvh row).getD false
 ·exact .inr rfl
 exact .inl rfl
theorem yow1 (xs:List Int) (v:Int) (hv:0<=v/\v<=1000000000000) (hx:∀ x∈xs,0<=x/\x<=1000000001) (hl:xs.length<=8) :
  loopO (ysd xs) (v,0)=some (.inr (v+xs.sum))\/(loopO (ysd xs) (v,0)=some (.inl (0,false))/\∃ x∈xs,1000000000<x):=by
 have hb:∀ i,i<=xs.length->0<=(xs.take i).sum/\(xs.take i).sum<=1000000001*i:=by
  intro i;induction i with
  | zero=>simp
  | succ i ih =>
   intro hi;have h1:=ih (by omega)
   have h2:=hx xs[i] (List.getElem_mem (by omega))
   rw[List.take_add_one,List.sum_append,List.getElem?_eq_getElem (by omega)];simp only[Option.toList_some,List.sum_cons,List.sum_nil];omega
 obtain⟨y,e1,e2⟩:=yao (body:=ysd xs) (fun s=>∃ i:Nat,i<=xs.length/\s=(v+(xs.take i).sum,(i:Int))) (fun s=>xs.length-s.2.toNat)
  (fun y=>y=.inr (v+xs.sum)\/(y=.inl (0,false)/\∃ x∈xs,1000000000<x)) (fun s ⟨i,hi,e⟩=>by
   subst e;by_cases hlt:i<xs.length
   ·simp only[ysd,show((i:Int)<(xs.length:Int)) from by omega,decide_true,if_true,ytf hlt,Option.bind_some,yta (show i<9223372036854775807 by omega)]
    have h1:=hb i (by omega)
    have h2:=hx xs[i] (List.getElem_mem hlt)
    by_cases hc:xs[i]>1000000000
    ·right
     exact⟨.inl (0,false),by rw[if_pos (decide_eq_true hc)],.inr ⟨rfl,_,List.getElem_mem hlt,hc⟩⟩
    left
    refine⟨_,by rw[if_neg (by simpa using hc)],⟨i+1,hlt,?_⟩,by simp only[Int.toNat_natCast];omega⟩
    rw[yec (by omega) (by omega),List.take_succ_eq_append_getElem hlt,List.sum_append];simp only[List.sum_cons,List.sum_nil];congr 1
    omega
   have:i=xs.length:=by omega
   subst this;right
   exact⟨.inr (v+xs.sum),by simp only[ysd,Int.lt_irrefl,decide_false,Bool.false_eq_true,if_false,List.take_length],.inl rfl⟩) (v,0) ⟨0,by omega,by simp⟩
 rcases e2 with rfl | ⟨rfl,e2⟩
 ·exact .inl e1
 exact .inr ⟨e1,e2⟩
theorem ypw1 {g:List (List Int)} (hx:∀ row∈g,row.length<=8/\∀ x∈row,0<=x/\x<=1000000001) {row:List Int} (hr:row∈g) {x:Int} (hm:x∈row):x<=total g:=by
 have s1:=yys1 (fun x hm=>((hx row hr).2 x hm).1) x hm
 have s2:=yys1 (xs:=g.map List.sum) (fun y hy=>by
  obtain⟨row',hr',rfl⟩:=List.mem_map.1 hy;exact(yrc1 (hx row' hr').2).1) row.sum (List.mem_map.2 ⟨row,hr,rfl⟩)
 unfold total
 omega
theorem ylq1 (g:List (List Int)) (hl:g.length<=8) (hx:∀ row∈g,row.length<=8/\∀ x∈row,0<=x/\x<=1000000001) :
  loopO (ytd g) (0,0)=some (.inr (total g))\/(loopO (ytd g) (0,0)=some (.inl (0,false))/\1000000000<total g):=by
 obtain⟨y,e1,e2⟩:=yao (body:=ytd g) (fun s=>∃ i:Nat,i<=g.length/\s=(total (g.take i),(i:Int))) (fun s=>g.length-s.2.toNat)
  (fun y=>y=.inr (total g)\/(y=.inl (0,false)/\1000000000<total g)) (fun s ⟨i,hi,e⟩=>by
   subst e;by_cases hlt:i<g.length
   ·have h1:=yhi1 hx i (by omega)
    have h2:=hx g[i] (List.getElem_mem hlt)
    simp only[ytd,show((i:Int)<(g.length:Int)) from by omega,decide_true,if_true,ytf hlt,Option.bind_some];rcases yow1 g[i] (total (g.take i)) ⟨h1.1,by omega⟩ h2.2 h2.1 with q | ⟨q,x,hm,hb⟩
    ·left
     rw[q];exact⟨_,rfl,⟨i+1,hlt,by simp only[yta (show i<9223372036854775807 by omega),yii1 hlt]⟩,by simp only[yta (show i<9223372036854775807 by omega),Int.toNat_natCast];omega⟩
    right
    rw[q];exact⟨.inl (0,false),rfl,.inr ⟨rfl,by have:=ypw1 hx (List.getElem_mem hlt) hm;omega⟩⟩
   have:i=g.length:=by omega
   subst this;right
   exact⟨.inr (total g),by simp only[ytd,Int.lt_irrefl,decide_false,Bool.false_eq_true,if_false,List.take_length],.inl rfl⟩) (0,0) ⟨0,by omega,rfl⟩
 rcases e2 with rfl | ⟨rfl,e2⟩
 ·exact .inl e1
 exact .inr ⟨e1,e2⟩
theorem ydc2 (σ:Nat->Nat) (i j:Nat):0<=gM σ i j/\gM σ i j<=9:=by unfold gM;split <;> omega
theorem yme1 (f:List Pt) (xs:List Rt) (k:Int) (hf:f.length<=4611686018427387904) (hx:xs.length<=4611686018427387904) :
  ∃ r,yal f xs k=some r/\ybl f xs k=some r/\(r.2=true->∃ g,ysc f xs=some (g,true)/\yyd f xs=some (g,true)/\sized g/\yki g k=some r):=by
 unfold yal ybl
 rcases yav f xs hf hx with⟨a,b,c,d⟩ | ⟨n,p,r,s,h,r1,s1,e1,e2,e3,e4,e5,e6⟩
 ·rw[b,d]
  exact⟨(0,false),rfl,rfl,nof⟩
 rw[e2,e4]
 simp only[Option.bind_some,Bool.not_true,Bool.false_eq_true,if_false]
 by_cases hh:s.1=true/\s.2=true
 ·rcases s1 with⟨_,rfl⟩ | ⟨_,_,s3⟩
  ·cases hh.1
  have hk:=s3.1 hh.1;have hkf:=hk.weak h.lo;rcases ybv f xs hf hx with⟨g1,_⟩ | ⟨n',p',m,c,σ,h',hg,g1,g2,g3⟩
  ·exfalso
   have hr:r.1=true/\r.2=true:=by
    rcases r1 with⟨q,rfl⟩ | ⟨_,r2,r3⟩
    ·exact absurd hkf.2.all q
    exact⟨r3.2 hkf,r2⟩
   obtain⟨m,c,σ,hg⟩:=h.mg hkf;have g2:=hg.impl (by rw[← h.ff];exact h.im)
   unfold ysc at g1;have h9:=h.prt.hi;rw[← h.ff] at g2;rw[e1,Option.bind_some] at g1;simp only[hr.1,hr.2,Bool.not_true,Bool.or_self,Bool.false_eq_true,if_false,yky xs (show xs.length<=1048576 by omega),Option.bind_some,hg.zip,g2] at g1
   exact absurd (congrArg (·.2) (Option.some.inj g1)) (by simp)
  have m1:=hg.lo;have m8:=hg.hi;have hG:∀ i j,i<m->j<m->0<=gM σ i j/\gM σ i j<=9:=fun i j _ _=>ydc2 σ i j
  have hs:=yvb1 (G:=gM σ) m8
  have hgr:=yad1 m1 m8 hG;have hn:(!s.2 || !s.1)=false:=by rw[hh.1,hh.2];rfl
  have hn':(!s.1 || !s.2)=false:=by rw[hh.1,hh.2];rfl
  have tw:=yvz (mat m m (gM σ)) k hs
  unfold yrl;rw[yqe];simp only[hn,Bool.false_eq_true,if_false,g1,Option.bind_some,Bool.not_true];cases hin:inB 0 12 k
  ·refine⟨(0,false),?_,by simp,nof⟩
   unfold ywh ycm
   rw[yuo _ hs,hgr];simp only[Option.bind_some,if_true,yxc,hin,Bool.not_false,ygh];rw[ybu];rfl
  obtain⟨k0,k12⟩:=inB_iff.1 hin;obtain⟨K,rfl⟩:=Int.eq_ofNat_of_zero_le k0;have rows:=ygk1 m8 fun i j hi hj=>yby hG (by decide) (by decide) (most:=1000000001) K i j hi hj
  have e:mat m m (powN m (fun i j=>((mat m m (gM σ)).getD i []).getD j 0) 1000000001 K)=mat m m (powN m (gM σ) 1000000001 K):=yqu fun i j _ hj=>ysc1 (fun i j hi hj=>ylp1 i j hi hj) K i j hj
  have tv:totalWalks (mat m m (gM σ)) (K:Int)=if total (mat m m (powN m (gM σ) 1000000001 K))>1000000000 then(0,false) else(total (mat m m (powN m (gM σ) 1000000001 K)),true):=by
   unfold totalWalks;rw[hgr,hin];simp only[Bool.and_self,if_true,ysg,Int.toNat_natCast,e]
  have hK:K<=12:=by omega
  refine⟨totalWalks (mat m m (gM σ)) (K:Int),?_,?_,fun _=>⟨mat m m (gM σ),rfl,g2,hs,tw⟩⟩
  ·rw[tv]
   have imp:loopO (ygh (mat m m (powN m (gM σ) 1000000001 K),true)) (0,0)=some (total (mat m m (powN m (gM σ) 1000000001 K))):=yji1 _ (by rw[ysg];exact m8) rows
   have no:loopO (ygh ([],false)) (0,0)=some 0:=by rw[ybu];rfl
   by_cases ht:total (mat m m (powN m (gM σ) 1000000001 K))>1000000000
   ·rw[if_pos ht]
    rcases yat1 m1 m8 hG hK with q | q
    ·rw[q,Option.bind_some,no];rfl
    rw[q,Option.bind_some,imp];simp only[Option.bind_some,yfh,Bool.not_true,Bool.false_or,decide_eq_true ht,if_true]
   rw[if_neg ht,(yzs1 m1 m8 hG hK (by omega)).1,Option.bind_some,imp];simp only[Option.bind_some,yfh,Bool.not_true,Bool.false_or,decide_eq_false ht,Bool.false_eq_true,if_false]
  rw[tv];simp only[Bool.not_true,Bool.false_eq_true,if_false,e6,Option.bind_some,hn',g3,yhw m8 K (by omega)];rcases ylq1 _ (by rw[ysg];exact m8) rows with q | ⟨q,hb⟩
  ·rw[q]
   simp only[Option.bind_some,Sum.elim_inr,yjk];by_cases ht:total (mat m m (powN m (gM σ) 1000000001 K))>1000000000
   ·rw[if_pos ht,if_pos (decide_eq_true ht)]
   rw[if_neg ht,if_neg (by simpa using ht)]
  rw[q,if_pos hb];rfl
 have hn:(!s.2 || !s.1)=true:=by cases h1:s.1 <;> cases h2:s.2 <;> simp_all
 have hn':(!s.1 || !s.2)=true:=by rw[Bool.or_comm];exact hn
 refine⟨(0,false),by rw[if_pos hn],?_,nof⟩
 unfold yrl
 rw[yqe]
 cases inB 0 12 k
 ·rfl
 simp only[Option.bind_some,Bool.not_true,Bool.false_eq_true,if_false,e6,hn',if_true]
end Go.PV

/-
 Plain laws: the yrw1 Markov partition on both sides;draws of partitions.
 Conditions: none.
-/
set_option linter.all false
namespace Go.PV
theorem ymq1 (a b:List Rt) (h1:1<=a.length) (ha:a.length<=1048576) (hb:b.length<=1048576):ywb [a,b]=some (a++b):=by
 have l1:loopO (yxa [a,b]) (0,0)=some ((a.length+b.length:Nat):Int):=by
  refine ydc (body:=yxa [a,b]) 2 (fun i=>(((if i=0 then 0 else if i=1 then a.length else a.length+b.length:Nat):Int),((i:Nat):Int))) (((a.length+b.length:Nat):Nat):Int) (fun i hi=>?_) (by simp[yxa])
  match i,hi with
  | 0,_ =>
   unfold yxa;have e:idxO [a,b] ((0:Nat):Int)=some a:=rfl
   have w1:w64 (((0:Nat):Int)+(a.length:Int))=(a.length:Int):=by rw[yec (by omega) (by omega)];omega
   rw[if_pos (by simp),e,Option.bind_some];simp only[if_true,w1];rw[if_neg (by simp),yta (show 0<9223372036854775807 by omega)];simp
  | 1,_ =>
   unfold yxa;have e:idxO [a,b] ((1:Nat):Int)=some b:=rfl
   have w1:w64 ((a.length:Int)+(b.length:Int))=((a.length+b.length:Nat):Int):=by rw[yec (by omega) (by omega)];omega
   rw[if_pos (by simp),e,Option.bind_some];simp only[show(1:Nat)≠0 by decide,if_false,if_true,w1];rw[if_neg (by simp;omega),yta (show 1<9223372036854775807 by omega)]
   simp
 have l2:loopO (ywa [a,b]) ([],0)=some (a++b):=by
  refine ydc (body:=ywa [a,b]) 2 (fun i=>(if i=0 then[] else if i=1 then a else a++b,((i:Nat):Int))) (a++b) (fun i hi=>?_) (by simp[ywa])
  match i,hi with
  | 0,_ =>
   unfold ywa;have e:idxO [a,b] ((0:Nat):Int)=some a:=rfl
   rw[if_pos (by simp),e,Option.bind_some,yea (by simp;omega),yta (show 0<9223372036854775807 by omega)]
   simp
  | 1,_ =>
   unfold ywa;have e:idxO [a,b] ((1:Nat):Int)=some b:=rfl
   rw[if_pos (by simp),e,Option.bind_some,yea (by simp;omega),yta (show 1<9223372036854775807 by omega)]
   simp
 unfold ywb
 rw[l1,Option.bind_some]
 unfold yic
 rw[yea (by omega),l2]
 rfl
section
variable {n:Nat} {p:Nat->Pt} {S:List Rt}
theorem yqw1 {l r:List Rt} (hl:Srt l) (hr:Srt r) (h1:Rats l) (h2:Rats r) (hs:∀ x∈l,x∈r) (he:r.length=l.length):∀ x∈r,x∈l:=by
 intro x hx
 refine Classical.byContradiction fun hno=>?_
 have:=ybj1 (x::l) r (List.nodup_cons.2 ⟨hno,ylg1 hl⟩) fun y hy=>by
  rcases List.mem_cons.1 hy with rfl | q
  ·exact hx
  exact hs y q
 simp only[List.length_cons] at this
 omega
theorem yng1 (h:Curve n p) (hy:∀ i,i<n->coord (p i).2=true) {l0:List Rt} (hw:Way n p S l0) (hl0:l0.length<=40) :
  Tot ((loopO (yeg (tab n p)) (l0,false)).bind fun y11=>(Sum.elim (fun p=>some p) (fun p=>ydg p)) y11) (RefOk n p S):=by
 refine Tot.bind (P:=fun y:(List Rt×Bool) ⊕ Unit=>match y with
  | .inl r=>RefOk n p S r
  | .inr _=>RefOk n p S ([],false)) ?_ fun y hy=>?_
 ·refine Tot.loop (fun x:List Rt×Bool=>Way n p S x.1/\x.1.length<=40/\x.2=false) (fun x=>60-x.1.length) (fun x ⟨hp,hl,hb⟩=>?_) _ ⟨hw,hl0,rfl⟩
  obtain⟨l,b⟩:=x;simp only at hp hl hb
  subst hb;unfold yeg;refine Tot.ite (fun q=>?_) fun q=>Tot.inr (hp.long (by have:=of_decide_eq_false q;simp only at this;omega))
  have q:(l.length:Int)<=9:=of_decide_eq_true q
  refine(yam1 h hp.part.unit (by omega)).bind fun v hv=>?_
  have h2:=hp.part.two;rw[ymq1 l v.1 (by omega) (by omega) (by rw[hv.len];omega),Option.bind_some]
  have hrats:Rats (l++v.1):=fun x hx=>by
   rcases List.mem_append.1 hx with q' | q'
   ·exact hp.part.rats x q'
   exact hv.rats x q'
  refine(yyl1 hrats (by rw[List.length_append,hv.len];omega)).bind fun r ⟨r1,r2,r3⟩=>?_
  rw[List.length_append,hv.len] at r3;refine Tot.ite (fun q'=>?_) fun q'=>?_
  ·refine Tot.inr (Classical.byContradiction fun hno=>hv.no q' fun x hx=>?_)
   cases ha:atQ n p x with
   | none=>exact absurd (hp.bad hx ha) hno
   | some y=>exact⟨y,rfl⟩
  obtain⟨a1,a2⟩:=hv.yes q'
  have hrr:Rats r:=fun x hx=>hrats x ((r2 x).1 hx)
  have hsub:∀ x∈l,x∈r:=fun x hx=>(r2 x).2 (List.mem_append.2 (.inl hx))
  refine Tot.ite (fun he=>?_) fun he=>?_
  ·have he:r.length=l.length:=by have:=of_decide_eq_true he;simp at this;omega
   refine Tot.inr (hp.done (by omega) fun x hx=>?_)
   obtain⟨y,e⟩:=a1 x hx;refine⟨y,e,?_⟩
   exact yqw1 hp.part.srt r1 hp.part.rats hrr hsub he y ((r2 y).2 (List.mem_append.2 (.inr ((a2 y).2 ⟨x,hx,e⟩))))
  have hlen:=ybj1 l r (ylg1 hp.part.srt) hsub
  have he:r.length≠l.length:=by
   intro e;rw[e] at he;simp at he
  have hpr:Part r:=⟨r1,fun x hx=>by
   rcases List.mem_append.1 ((r2 x).1 hx) with q2 | q2
   ·exact hp.part.unit x q2
   obtain⟨z,hz,e⟩:=(a2 x).1 q2
   exact yba1 h hy (hp.part.unit z hz) e,by omega⟩
  refine Tot.inl ⟨⟨hp.more hpr hsub fun y hy=>?_,by show r.length<=40;omega,q'⟩,by show 60-r.length<60-l.length;omega⟩
  rcases List.mem_append.1 ((r2 y).1 hy) with q2 | q2
  ·exact .inl q2
  exact .inr ((a2 y).1 q2)
 cases y with
 | inl r=>exact Tot.ret hy
 | inr u=>exact Tot.ret hy
theorem ybt1 (hm:isMapT n p) (h2:2<=n) (hn:n<=12) (b:Bool) (hi:yae (tab n p)=some true):Tot (yid (tab n p) b) (RefOk n p (stS n p b)):=by
 have h:=Curve.of_map hm h2 hn
 have hy:∀ i,i<n->coord (p i).2=true:=fun i hi=>(hm.1 i hi).2
 have hz:=Zig.of_map hm h2 hn
 obtain⟨t1,_,t3,t4⟩:=ykg1 hm h2 hn
 have key:∀ L:List Rt,(∀ x∈L,isUnit x=true)->L.length<=20->((0:Int),(1:Int))∈L->((1:Int),(1:Int))∈L->(∀ x∈stS n p b,x∈L)->(∀ x∈L,x=(0,1)\/x=(1,1)\/x∈stS n p b)->Tot (yed (tab n p) L) (RefOk n p (stS n p b)):=by
  intro L hu hl m0 m1 hs hsub;unfold yed;refine(yyl1 (fun x hx=>yxm (hu x hx)) (by omega)).bind fun r ⟨r1,r2,r3⟩=>?_
  have hw:Way n p (stS n p b) r:=by
   refine⟨⟨r1,fun x hx=>hu x ((r2 x).1 hx),?_⟩,(r2 _).2 m0,(r2 _).2 m1,fun x hx=>(r2 x).2 (hs x hx),fun z hz x hx=>?_⟩
   ·have:=ybj1 [((0:Int),(1:Int)),(1,1)] r (by simp) fun x hx=>by
     simp only[List.mem_cons,List.not_mem_nil,or_false] at hx;rcases hx with rfl | rfl
     ·exact(r2 _).2 m0
     exact(r2 _).2 m1
    simpa using this
   rcases hsub x ((r2 x).1 hx) with rfl | rfl | q
   ·exact hz.a
   ·exact hz.b
   exact hz.st x q
  exact yng1 h hy hw (by omega)
 unfold yid yil yem
 rw[hi]
 simp only[Option.bind_some,Bool.not_true,Bool.false_eq_true,if_false,t1]
 rw[yea (by simp;omega)]
 have u0:isUnit ((0:Int),(1:Int))=true:=by decide
 have u1:isUnit ((1:Int),(1:Int))=true:=by decide
 cases b
 ·rw[if_neg (by simp)]
  refine key _ (fun x hx=>?_) (by simp;omega) (by simp) (by simp) (fun x hx=>by simpa [stS] using Or.inr (Or.inr hx)) fun x hx=>by simpa [stS] using hx
  simp only[List.cons_append,List.nil_append,List.mem_cons] at hx;rcases hx with rfl | rfl | q
  ·exact u0
  ·exact u1
  exact t3 x q
 rw[if_pos rfl,ykw hz,Option.bind_some,yku1 _ (by have:=yvk1 (n:=n) (p:=p);unfold simX at this;rw[List.length_map] at this;omega),Option.bind_some]
 obtain⟨s1,s2⟩:=ylw1 hm h2 hn true
 have es:(simL n p).map (·.1)=stS n p true:=rfl
 rw[es]
 refine key _ s2 (by omega) ?_ ?_ (fun x hx=>hx) fun x hx=>.inr (.inr hx)
 ·rw[← es]
  exact simX_mem.2 ⟨0,by omega,by simp[kpS],h.fst⟩
 rw[← es]
 refine simX_mem.2 ⟨n-1,by omega,?_,h.lst⟩
 unfold kpS
 have:(n-1+1==n)=true:=by simp;omega
 rw[this];simp
end
theorem yzm1 (f:List Pt) (b:Bool) (hf:f.length<=4611686018427387904):∃ r,yid f b=some r/\yfg f b=some r/\(r.2=false->r.1=[]) /\
  (r.2=true->∃ n p,MkIn f r.1 n p/\Mk n p b r.1):=by
 obtain⟨c,c1,c2,c3⟩:=yiy f hf
 unfold yfg
 rw[c1]
 cases c
 ·refine⟨([],false),?_,rfl,fun _=>rfl,nof⟩
  unfold yid;rw[c2];rfl
 obtain⟨n,p,rfl,h2,hn,hm⟩:=c3 rfl
 obtain⟨r,e1,k1⟩:=yxs1 hm h2 hn b
 obtain⟨s,e2,k2⟩:=ybt1 hm h2 hn b c2
 obtain rfl:=k1.same k2
 refine⟨r,e2,by simp only[Option.bind_some,Bool.not_true,Bool.false_eq_true,if_false,e1],fun q=>?_,fun q=>?_⟩
 ·rcases k1 with⟨q',_⟩ | ⟨rfl,_⟩
  ·rw[q] at q';cases q'
  rfl
 rcases k1 with⟨_,k3,k4,k5,_⟩ | ⟨rfl,_⟩
 ·have pr:=yca2 (fun i hi=>(hm.1 i hi).2) k3 k4 k5
  obtain⟨d,d1,d2,d3⟩:=yfa1 r.1 (by omega)
  obtain rfl:=d3.2 pr
  exact⟨n,p,⟨rfl,h2,hn,hm,pr,c2,c1,d1,d2⟩,k5.st,k5.clo⟩
 cases q
theorem yea2 {B:Nat} (hB:B<=100000) {c:Cur} (hc:Ck B c):Tot (yzk c) fun r=>r.1.length<=100/\Ck (B+1000) r.2:=by
 have fin:∀ {B':Nat} (hB':B'<=200000) (x:List Int×Int×Int×List Rt),x.2.2.2.length<=62->1<=x.2.2.2.length->Ck B' (cur4 x)->Tot ((yla (x.1,x.2.1,x.2.2.1) 24).bind fun v8 =>
   if(v8.1==0)=true then
    (guardO (0<=1/\1<=(x.2.2.2.length:Int))).bind fun u10=>some ((x.2.2.2.drop (Int.toNat 1)),v8.2)
   else
    if(v8.1==1)=true then
     (yla v8.2 (x.2.2.2.length:Int)).bind fun v12=>(yub v12.2).bind fun v13=>(idxO x.2.2.2 v12.1).bind fun v14=>some ((x.2.2.2.set (Int.toNat v12.1) v13.1),v13.2)
    else some (x.2.2.2,v8.2)) fun r=>r.1.length<=100/\Ck (B'+30) r.2:=by
  intro B' hB' x hx1 hx2 hx
  refine(ykk hx (by omega) _).bind fun v8 ⟨_,h8⟩=>?_
  refine Tot.ite (fun _=>Tot.guard (by omega) (Tot.ret ⟨by show(List.drop _ _).length<=100;rw[List.length_drop];omega,Ck.mono (c:=v8.2) h8 (by omega)⟩)) fun _=>Tot.ite (fun _=>?_) fun _=>Tot.ret ⟨by show x.2.2.2.length<=100;omega,Ck.mono (c:=v8.2) h8 (by omega)⟩
  refine(ykk h8 (by omega) _).bind fun v12 ⟨⟨p1,p2⟩,h12⟩=>?_
  refine(ytv (by omega) h12).bind fun v13 h13=>?_
  exact Tot.idx p1 (p2 (by omega)) fun y _=>Tot.ret ⟨by show(List.set _ _ _).length<=100;rw[List.length_set];omega,Ck.mono (c:=v13.2) h13 (by omega)⟩
 have loop:∀ {B':Nat} (hB':B'<=200000) (body:List Int×Int×Int×List Rt×Int->Option ((List Int×Int×Int×List Rt×Int) ⊕ (List Int×Int×Int×List Rt))) (t:Int) (c:Cur),
   (∀ x,body x=if((decide ((x.2.2.2.1.length:Int)<t))&&(decide (x.2.2.2.2<60)))=true then
    (yoa (x.1,x.2.1,x.2.2.1) ([2,3,4,12])).bind fun v18=>(yib v18.2 v18.1).bind fun v19=>(ydd x.2.2.2.1 v19.1).bind fun v20=>some (.inl (v19.2.1,v19.2.2.1,v19.2.2.2,v20,(w64 (x.2.2.2.2+1))))
    else some (.inr (x.1,x.2.1,x.2.2.1,x.2.2.2.1)))->Ck B' c ->
   Tot (loopO body (c.1,c.2.1,c.2.2,[((0:Int),(1:Int)),(1,1)],0)) fun y=>(y.2.2.2.length<=62/\1<=y.2.2.2.length)/\Ck (B'+10*60) (cur4 y):=by
  intro B' hB' body t c hb hc
  refine Tot.loop (fun x:List Int×Int×Int×List Rt×Int=>∃ i:Nat,x.2.2.2.2=(i:Int)/\i<=60/\(x.2.2.2.1.length<=i+2/\1<=x.2.2.2.1.length)/\Ck (B'+10*i) (cur4 x)) (fun x=>60-x.2.2.2.2.toNat) (fun x ⟨i,e,hi,hl,hk⟩=>?_) _ ⟨0,rfl,by omega,by simp,hc.mono (by omega)⟩
  obtain⟨c1,c2,c3,l,i'⟩:=x;simp only[cur4] at e hl hk;subst e;rw[hb];refine Tot.ite (fun q=>?_) fun _=>Tot.inr ⟨by show l.length<=62/\1<=l.length;omega,hk.mono (by omega)⟩
  simp only[Bool.and_eq_true,decide_eq_true_iff] at q;have hi':i<60:=by have:=q.2;omega
  refine(ypi hk (by omega) _ (by simp)).bind fun v18 ⟨m18,h18⟩=>?_
  have hr:1<=v18.1/\v18.1<=100:=by
   simp only[List.mem_cons,List.not_mem_nil,or_false] at m18;omega
  refine(yuq (by omega) h18 hr.1 hr.2).bind fun v19 h19=>?_
  refine(ytp1 l v19.1 (by omega)).bind fun v20 ⟨m1,m2⟩=>?_
  have hw:w64 ((i:Int)+1)=((i+1:Nat):Int):=yta (by omega)
  simp only[hw];exact Tot.inl ⟨⟨i+1,rfl,by omega,⟨by show v20.length<=_;omega,by show 1<=v20.length;omega⟩,Ck.mono (c:=v19.2) h19.2 (by omega)⟩,by show 60-((i+1:Nat):Int).toNat<60-(i:Int).toNat;omega⟩
 unfold yzk ykb
 simp only[Option.bind_some]
 refine(ykk hc (by omega) _).bind fun v3 ⟨_,h3⟩=>?_
 refine(yhb1 h3 (by omega) _).bind fun v4 h4=>?_
 refine Tot.ite (fun _=>?_) fun _=>?_
 ·refine(ykk h4 (by omega) _).bind fun v6 ⟨_,h6⟩=>?_
  refine(loop (by omega) (yno v6) _ v6.2 (fun x=>rfl) h6).bind fun y ⟨⟨y1,y2⟩,y3⟩=>?_
  exact(fin (by omega) y y1 y2 y3).mono fun r ⟨r1,r2⟩=>⟨r1,r2.mono (by omega)⟩
 refine(loop (by omega) (ypo v3) _ v4.2 (fun x=>rfl) h4).bind fun y ⟨⟨y1,y2⟩,y3⟩=>?_
 exact(fin (by omega) y y1 y2 y3).mono fun r ⟨r1,r2⟩=>⟨r1,r2.mono (by omega)⟩
theorem ycm1 {c:Cur} (hc:Ck 0 c):Tot (ylf c) fun r=>(r.1.length<=13/\r.2.1.length<=100)/\Ck 5000 r.2.2:=by
 unfold ylf
 refine(yuc1 (by omega) hc).bind fun v1 ⟨l1,h1⟩=>?_
 obtain⟨g,g1,_,g3⟩:=yiy v1.1 (by omega)
 rw[g1,Option.bind_some]
 have k1:∀ {B:Nat} (hB:B<=2000) (x:Cur),Ck B x->Tot (yrd v1 x) fun r=>(r.1.length<=13/\r.2.1.length<=100)/\Ck 5000 r.2.2:=by
  intro B hB x hx;unfold yrd;exact(yea2 (by omega) hx).bind fun v3 ⟨l3,h3⟩=>Tot.ret ⟨⟨l1,l3⟩,Ck.mono (c:=v3.2) h3 (by omega)⟩
 refine Tot.bind (P:=fun w:List Int×Int×Int×Bool=>Ck 402 (cur4 w)/\(w.2.2.2=true->g=true)) ?_ fun w6 ⟨h6,hw⟩=>?_
 ·refine Tot.ite (fun q=>?_) fun _=>Tot.ret ⟨Ck.mono (c:=v1.2) h1 (by omega),fun q=>by cases q⟩
  exact(yhb1 h1 (by omega) _).bind fun v5 h5=>Tot.ret ⟨Ck.mono (c:=v5.2) h5 (by omega),fun _=>q⟩
 refine Tot.ite (fun q=>?_) fun _=>k1 (by omega) _ h6
 obtain⟨n,p,e,h2,hn,hm⟩:=g3 (hw q)
 refine(yhb1 h6 (by omega) _).bind fun v8 h8=>?_
 rw[e]
 refine(yle1 hm h2 hn v8.1).bind fun v9 h9=>?_
 rw[← e]
 exact Tot.ite (fun q'=>Tot.ret ⟨⟨l1,(h9 q').2⟩,Ck.mono (c:=v8.2) h8 (by omega)⟩) fun _=>k1 (by omega) _ h8
theorem yct1 {B:Nat} (hB:B<=100000) {c:Cur} (hc:Ck B c) (f:List Pt) (hf:f.length<=13):Tot (yei c f) fun r=>Ck (B+50) r.2:=by
 unfold yei
 refine(yhb1 hc (by omega) _).bind fun v1 h1=>?_
 refine Tot.ite (fun _=>?_) fun _=>?_
 ·exact(yzb2 (by omega) h1 f hf).bind fun v3 h3=>Tot.ret (Ck.mono (c:=v3.2) h3 (by omega))
 refine(ypi h1 (by omega) _ (by simp)).bind fun v5 ⟨m5,h5⟩=>?_
 have hr:1<=v5.1/\v5.1<=100:=by
  simp only[List.mem_cons,List.not_mem_nil,or_false] at m5;omega
 exact(yuq (by omega) h5 hr.1 hr.2).bind fun v6 h6=>Tot.ret (Ck.mono (c:=v6.2) h6.2 (by omega))
theorem ybd1 {l:List Int} (h:Bytes l):Tot (yeh l) fun r=>(r.1.length<=13/\r.2.1.length<=100) /\ -1<=r.2.2.2/\r.2.2.2<=41:=by
 unfold yeh
 refine(ycm1 (ck0 h)).bind fun v1 ⟨⟨l1,l2⟩,h1⟩=>?_
 refine(yct1 (by omega) h1 v1.1 l1).bind fun v2 h2=>?_
 refine(ypi h2 (by omega) _ (by simp)).bind fun v3 ⟨m3,h3⟩=>?_
 refine(ypi h3 (by omega) _ (by simp)).bind fun v4 ⟨m4,h4⟩=>Tot.ret ⟨⟨l1,l2⟩,?_⟩
 simp only[List.mem_cons,List.not_mem_nil,or_false] at m3 m4
 show -1<=v4.1/\v4.1<=41
 omega
theorem ylb1 {l:List Int} (h:Bytes l):Tot (ygg l) fun r=>r.1.length<=13/\r.2.1.length<=100:=by
 unfold ygg
 refine(ycm1 (ck0 h)).bind fun v1 ⟨l1,h1⟩=>?_
 exact(ywk1 (by omega) h1).bind fun v2 h2=>Tot.ret l1
theorem ycj1 {l:List Int} (h:Bytes l):Tot (ymd l) fun r=>r.1.length<=13:=by
 unfold ymd
 refine(yuc1 (by omega) (ck0 h)).bind fun v1 ⟨l1,h1⟩=>?_
 exact(yhb1 h1 (by omega) _).bind fun v2 h2=>Tot.ret l1
end Go.PV

/-
 Plain law: FnMarkov.
 Conditions: none.
-/
set_option linter.all false
namespace Go.PV
theorem yga1 (xs:List Int) (hl:xs.length<=4611686018427387904):ymj xs xs=some true:=by
 have hx:=ydc (body:=ywg xs xs) xs.length (fun i=>(i:Int)) (.inr ()) (fun i hi=>by
  simp only[ywg,show((i:Int)<(xs.length:Int)) from by omega,decide_true,if_true,ytf hi,Option.bind_some,bne_self_eq_false,Bool.false_eq_true,if_false,yta (show i<9223372036854775807 by omega)]) (by simp[ywg])
 unfold ymj
 have hx:loopO (ywg xs xs) 0=_:=hx
 rw[hx]
 simp[yhn]
theorem yhf1 (xs:List Rt) (hl:xs.length<=4611686018427387904):ygn xs xs=some true:=by
 have hx:=ydc (body:=ygf xs xs) xs.length (fun i=>(i:Int)) (.inr ()) (fun i hi=>by
  simp only[ygf,show((i:Int)<(xs.length:Int)) from by omega,decide_true,if_true,ytf hi,Option.bind_some,beq_self_eq_true,Bool.and_self,Bool.not_true,Bool.false_eq_true,if_false,yta (show i<9223372036854775807 by omega)]) (by simp[ygf])
 unfold ygn
 have hx:loopO (ygf xs xs) 0=_:=hx
 rw[hx]
 simp[yjl]
theorem ycd1 (g:List (List Int)) (hs:sized g):yuh g g=some true:=by
 have h1:=hs.1
 have hx:=ydc (body:=yhf g g) g.length (fun i=>(i:Int)) (.inr ()) (fun i hi=>by
  have h2:=hs.2 _ (List.getElem_mem hi)
  simp only[yhf,show((i:Int)<(g.length:Int)) from by omega,decide_true,if_true,ytf hi,Option.bind_some,yga1 _ (show g[i].length<=4611686018427387904 by omega),Bool.not_true,Bool.false_eq_true,if_false,yta (show i<9223372036854775807 by omega)]) (by simp[yhf])
 unfold yuh
 have hx:loopO (yhf g g) 0=_:=hx
 rw[hx]
 simp[ykl]
def midQ (a b:Rt):Option Rt:=lowQ (a.1*b.2+b.1*a.2) (2*a.2*b.2)
theorem yec2 {a b:Rt} (ha:isRat a=true) (hb:isRat b=true):yqp a b=some (unO (midQ a b)):=by
 obtain⟨m1,m2,m3,m4,ne,m5⟩:=rb ha hb
 obtain⟨a1,a2,a3,a4,_⟩:=isRat_iff.1 ha
 obtain⟨b1,b2,b3,b4,_⟩:=isRat_iff.1 hb
 have e2:2*a.2*b.2=2*(a.2*b.2):=Int.mul_assoc ..
 unfold yqp yny yxv midQ
 rw[yaq,yaq,ha,hb]
 simp only[Option.bind_some,if_true,Bool.not_true,Bool.false_eq_true,if_false]
 rw[yec (n:=a.1*b.2) (by omega) (by omega),yec (n:=b.1*a.2) (by omega) (by omega),yec (n:=a.1*b.2+b.1*a.2) (by omega) (by omega),yec (n:=2*a.2) (by omega) (by omega),e2,yec (n:=2*(a.2*b.2)) (by omega) (by omega),yee _ _ (by omega) (by omega) (by omega) (by omega) (by omega),Option.bind_some]
 rfl
theorem yfa2 {a b r:Rt} (ha:isRat a=true) (hb:isRat b=true) (h:midQ a b=some r):isRat r=true/\val r+val r=val a+val b:=by
 have pa:=yyc ha
 have pb:=yyc hb
 have hd:0<2*a.2*b.2:=Int.mul_pos (by omega) pb
 refine⟨ywz h,?_⟩
 have e:=yzz hd h
 have va:=ypg pa
 have vb:=ypg pb
 have ca:=yls pa
 have cb:=yls pb
 have e1:((2*a.2*b.2:Int):Rat)=2*(a.2:Rat)*(b.2:Rat):=by rw[Rat.intCast_mul,Rat.intCast_mul];rfl
 have e2:((a.1*b.2+b.1*a.2:Int):Rat)=(a.1:Rat)*(b.2:Rat)+(b.1:Rat)*(a.2:Rat):=by rw[Rat.intCast_add,Rat.intCast_mul,Rat.intCast_mul]
 rw[e1,e2,← va,← vb] at e
 have hz:(val r+val r-val a-val b)*((a.2:Rat)*(b.2:Rat))=0:=by grind
 rcases Rat.mul_eq_zero.1 hz with q | q
 ·grind
 have:=Rat.mul_pos ca cb
 rw[q] at this
 exact absurd this (by decide)
theorem yga2 (f:Nat->Int) (m:Nat) (hm:m<=8) (hf:∀ k,k<m->0<=f k/\f k<=1):∃ s,yez (tab m f)=some s/\(0<s->∃ k,k<m/\f k≠0):=by
 obtain⟨y,e1,e2⟩:=yao (body:=yqr (tab m f)) (fun x=>∃ i:Nat,x.2=(i:Int)/\i<=m/\0<=x.1/\x.1<=i/\(0<x.1->∃ k,k<m/\f k≠0)) (fun x=>m-x.2.toNat) (fun y=>0<y->∃ k,k<m/\f k≠0) (fun ⟨s,j⟩ ⟨i,ej,hi,h0,h1,h2⟩=>by
  simp only at ej h0 h1 h2
  subst ej;by_cases hlt:i<m
  ·left
   have hk:=hf i hlt;have hw:w64 (s+f i)=s+f i:=yec (by omega) (by omega)
   refine⟨(s+f i,((i+1:Nat):Int)),by simp only[yqr,yab,show((i:Int)<(m:Int)) from by omega,decide_true,if_true,yua hlt,Option.bind_some,hw,yta (show i<9223372036854775807 by omega)],⟨i+1,rfl,hlt,by show 0<=s+f i;omega,by show s+f i<=((i+1:Nat):Int);omega,fun hp=>?_⟩,by simp only[Int.toNat_natCast];omega⟩
   by_cases hs:0<s
   ·exact h2 hs
   exact⟨i,hlt,by have hp:0<s+f i:=hp;omega⟩
  right
  have:i=m:=by omega
  subst this;exact⟨s,by simp only[yqr,yab,Int.lt_irrefl,decide_false,Bool.false_eq_true,if_false],h2⟩) (0,0) ⟨0,rfl,by omega,by omega,by omega,fun h=>by simp at h⟩
 refine⟨y,?_,e2⟩
 unfold yez
 rw[e1];rfl
section
variable {n:Nat} {p:Nat->Pt} {xs:List Rt} {m:Nat} {c:Nat->Rt} {σ:Nat->Nat}
theorem MG.pc (h:MG n p xs m c σ):PC xs m c:=⟨h.e,h.lo,h.hi,h.u,h.lt,h.c0,h.cm⟩
theorem MG.arrow (h:MG n p xs m c σ) {i:Nat} (hi:i<m) {x v:Rt} (hx:isUnit x=true) (h1:val (c i)<=val x) (h2:val x<=val (c (i+1))) (hv:atQ n p x=some v) (hs:∃ k,k<m/\gM σ i k≠0) {k:Nat} (hk:k<m) (hin:inS c v k=true) (hone:∀ j,j<m->inS c v j=true->j=k):gM σ i k=1:=by
 obtain⟨a1,a2,_⟩:=h.at' i (by omega)
 obtain⟨b1,b2,_⟩:=h.at' (i+1) (by omega)
 have hlt:=h.lt i (i+1) (by omega) (by omega)
 have uv:=yba1 h.cur h.yc hx hv
 obtain⟨τ,ht,hup⟩:=yhq1 h.cur (h.u i (by omega)) (h.u (i+1) (by omega)) hlt (h.cut i hi)
 have q1:=hup _ _ _ _ (h.u i (by omega)) hx a1 hv Rat.le_refl h1 h2
 have q2:=hup _ _ _ _ hx (h.u (i+1) (by omega)) hv b1 h1 h2 Rat.le_refl
 obtain⟨k0,hk0,hg⟩:=hs
 have hlh:min (σ i) (σ (i+1))<max (σ i) (σ (i+1)):=by
  unfold gM at hg;split at hg
  ·omega
  exact absurd rfl hg
 have bd:val (c (min (σ i) (σ (i+1))))<=val v/\val v<=val (c (max (σ i) (σ (i+1)))):=by
  rcases Nat.le_total (σ i) (σ (i+1)) with q | q
  ·rw[Nat.min_eq_left q,Nat.max_eq_right q]
   have:=(h.le a2 b2).2 q
   rcases ht with rfl | rfl <;> constructor <;> grind
  rw[Nat.min_eq_right q,Nat.max_eq_left q];have:=(h.le b2 a2).2 q
  rcases ht with rfl | rfl <;> constructor <;> grind
 have is:=fun j (hj:j<m)=>h.pc.inS_iff uv hj
 obtain⟨k1,k2⟩:=(is k hk).1 hin
 unfold gM
 generalize hlo:min (σ i) (σ (i+1))=lo at *
 generalize hhi:max (σ i) (σ (i+1))=hi' at *
 have lm:lo<=m:=by omega
 have hm':hi'<=m:=by omega
 by_cases hq:lo<=k/\k<hi'
 ·rw[if_pos hq]
 exfalso
 by_cases hc:k<lo
 ·have hle:=(h.le (i:=k+1) (j:=lo) (by omega) lm).2 (by omega)
  have e:val (c (k+1))=val (c lo):=by grind
  have he:lo=k+1:=by
   have:=(h.le (i:=lo) (j:=k+1) lm (by omega)).1 (by grind)
   omega
  have hkm:k+1<m:=by omega
  have h3:=h.lt (k+1) (k+1+1) (by omega) (by omega)
  have:=hone (k+1) hkm ((is (k+1) hkm).2 ⟨by grind,by grind⟩)
  omega
 have hkh:hi'<=k:=by omega
 have hle:=(h.le (i:=hi') (j:=k) hm' (by omega)).2 hkh
 have he:k=hi':=by
  have:=(h.le (i:=k) (j:=hi') (by omega) hm').1 (by grind)
  omega
 have hk0':1<=k:=by omega
 have h3:=h.lt (k-1) k (by omega) (by omega)
 have hkk:k-1+1=k:=by omega
 have:=hone (k-1) (by omega) ((is (k-1) (by omega)).2 ⟨by grind,by rw[hkk];grind⟩)
 omega
theorem MG.mid_loop (h:MG n p xs m c σ) (hm:yle (tab n p)=some true) (hi:yrc xs=some true) (hs:ylm xs=some true) (b:Bool) :
  loopO (laws_FnMarkov_b1 (tab n p,b) (xs,true) (xs,true) (mat m m (gM σ),true)) 0=some (.inr ()):=by
 have h8:=h.hi
 refine ydc (body:=laws_FnMarkov_b1 (tab n p,b) (xs,true) (xs,true) (mat m m (gM σ),true)) m (fun i=>(i:Int)) (.inr ()) (fun i hlt=>?_) ?_
 ·have rc:∀ j,j<=m->isRat (c j)=true:=fun j hj=>yad (h.u j hj)
  have e1:idxO xs (i:Int)=some (c i):=by rw[h.e];exact yua (by omega)
  have e2:idxO xs ((i+1:Nat):Int)=some (c (i+1)):=by rw[h.e];exact yua (by omega)
  have hw:=yta (show i<9223372036854775807 by omega)
  have k2:laws_FnMarkov_k2 (i:Int) ()=some (.inl ((i+1:Nat):Int)):=by unfold laws_FnMarkov_k2;rw[hw]
  simp only[laws_FnMarkov_b1,ysg,show((i:Int)<(m:Int)) from by omega,decide_true,if_true,e1,hw,e2,Option.bind_some,yec2 (rc i (by omega)) (rc (i+1) (by omega))];cases hq:midQ (c i) (c (i+1)) with
  | none =>
   have hv:ywl (tab n p) (unO (none:Option Rt)).1=some ((0,0),false):=by
    unfold ywl;rw[hm,ywj];rfl
   rw[hv];simp only[unO,Option.bind_some,Bool.not_false,Bool.or_self,if_true,k2]
  | some x =>
   obtain⟨rx,vx⟩:=yfa2 (rc i (by omega)) (rc (i+1) (by omega)) hq
   have hl:=h.lt i (i+1) (by omega) (by omega)
   have b1:=(yqh (rc i (by omega))).1 (h.u i (by omega))
   have b2:=(yqh (rc (i+1) (by omega))).1 (h.u (i+1) (by omega))
   have ux:isUnit x=true:=(yqh rx).2 ⟨by grind,by grind⟩
   have hv:ywl (tab n p) x=some (unO (atQ n p x)):=by
    unfold ywl;rw[hm,ywj,ux];simp only[Option.bind_some,Bool.not_true,Bool.false_eq_true,if_false,yti1 h.cur ux]
   simp only[unO,hv,Option.bind_some];cases ha:atQ n p x with
   | none=>simp only[unO,Bool.not_true,Bool.not_false,Bool.or_true,if_true,k2]
   | some v =>
    have uv:=yba1 h.cur h.yc ux ha;have s1:yrp xs v=some (stL c v m,true):=by
     unfold yrp;rw[hi,ywm,uv];simp only[Option.bind_some,Bool.not_true,Bool.false_eq_true,if_false,h.pc.impl_states uv]
    have s2:ysp xs v=some (stL c v m,true):=by
     unfold ysp;rw[hs,ywj,uv];simp only[Option.bind_some,Bool.not_true,Bool.false_eq_true,if_false,h.pc.spec_states uv]
    have hlen:=ykq1 c v m;obtain⟨s,e5,e6⟩:=yga2 (gM σ i) m h8 (fun k _=>by unfold gM;split <;> omega)
    simp only[unO,Bool.not_true,Bool.or_self,Bool.false_eq_true,if_false,s1,s2,Option.bind_some,yga1 (stL c v m) (by omega),yjs hlt,e5];have loop:loopO (laws_FnMarkov_b2 (stL c v m,true) (tab m (gM σ i)) s) 0=some (.inr ()):=by
     refine ydc (body:=laws_FnMarkov_b2 (stL c v m,true) (tab m (gM σ i)) s) (stL c v m).length (fun j=>(j:Int)) (.inr ()) (fun j hj=>?_) (by simp only[laws_FnMarkov_b2,Int.lt_irrefl,decide_false,Bool.false_eq_true,if_false])
     obtain⟨k,hk,hin,ek⟩:=stL_mem.1 (List.getElem_mem hj)
     simp only[laws_FnMarkov_b2,show((j:Int)<((stL c v m).length:Int)) from by omega,decide_true,if_true,ytf hj,Option.bind_some,ek,yua hk,yta (show j<9223372036854775807 by omega)]
     have w:(if(decide (s>0))=true then if(((stL c v m).length:Int)==1)=true then some (gM σ i k != 1) else some false else some false)=some false:=by
      by_cases hs0:s>0
      ·rw[if_pos (decide_eq_true hs0)]
       by_cases h1:(stL c v m).length=1
       ·rw[if_pos (by simp[h1])]
        have hone:∀ j',j'<m->inS c v j'=true->j'=k:=fun j' hj' hin'=>by
         obtain⟨z,hz⟩:=List.length_eq_one_iff.1 h1;have m1:(j':Int)∈stL c v m:=stL_mem.2 ⟨j',hj',hin',rfl⟩
         have m2:(k:Int)∈stL c v m:=stL_mem.2 ⟨k,hk,hin,rfl⟩
         rw[hz] at m1 m2
         rw[List.mem_singleton] at m1 m2
         omega
        rw[h.arrow hlt ux (by grind) (by grind) ha (e6 hs0) hk hin hone];rfl
       rw[if_neg (by simp;omega)]
      rw[if_neg (by simpa using hs0)]
     rw[w,Option.bind_some];simp only[Bool.false_eq_true,if_false]
    rw[loop];simp only[Option.bind_some,Sum.elim_inr,k2]
 simp only[laws_FnMarkov_b1,ysg,Int.lt_irrefl,decide_false,Bool.false_eq_true,if_false]
end
theorem ydt1 (a1:List Int) (h:Bytes a1):laws_FnMarkov_k1 a1 ()=some true:=by
 unfold laws_FnMarkov_k1
 obtain⟨v,e,⟨l1,l2⟩,l3,l4⟩:=ybd1 h
 obtain⟨u,e',l5,l6⟩:=ylb1 h
 obtain⟨r,r1,r2,r3,r4⟩:=ymg1 v.1 v.2.1 v.2.2.1 v.2.2.2 (by omega) (by omega)
 obtain⟨s,s1,s2,s3⟩:=yme1 u.1 u.2.1 u.2.2 (by omega) (by omega)
 rw[e,Option.bind_some,r1,r2,Option.bind_some,Option.bind_some]
 simp only[beq_self_eq_true,Bool.not_true,Bool.false_eq_true,if_false,yga1 r.1 (by omega),Option.bind_some]
 have w:(if r.2=true then some ((r.1.length:Int) != (w64 (v.2.2.2+1))) else some false)=some false:=by
  cases hr:r.2
  ·rfl
  rw[r3 hr,yec (by omega) (by omega)];simp
 rw[w,Option.bind_some]
 simp only[Bool.false_eq_true,if_false]
 rw[e',Option.bind_some,s1,s2,Option.bind_some,Option.bind_some]
 simp only[beq_self_eq_true,Bool.not_true,bne_self_eq_false,Bool.or_self,Bool.false_eq_true,if_false]
 cases hs:s.2
 ·rfl
 obtain⟨g,g1,g2,g3,g4⟩:=s3 hs
 rw[g1,g2]
 simp only[if_true,Option.bind_some,g4,Bool.not_true,Bool.false_eq_true,if_false,ycd1 g g3,hs,bne_self_eq_false]
theorem laws_FnMarkov_eq (a0 a1:List Int) (h0:Bytes a0) (h1:Bytes a1):laws_FnMarkov a0 a1=some true:=by
 unfold laws_FnMarkov yqg1
 rw[Option.bind_some]
 by_cases hbig:(decide ((a0.length:Int)>1048576)||decide ((a1.length:Int)>w64 (1048576-(a0.length:Int))))=true
 ·rw[if_pos hbig]
 rw[if_neg hbig]
 have k1:=ydt1 a1 h1
 obtain⟨v,e,l1⟩:=ycj1 h0
 obtain⟨r,r1,r2,r3,r4⟩:=yzm1 v.1 v.2 (by omega)
 rw[e,Option.bind_some,r1,r2,Option.bind_some,Option.bind_some]
 cases hr:r.2
 ·have hn:=r3 hr
  simp only[hn,beq_self_eq_true,Bool.not_true,Bool.false_eq_true,if_false,yhf1 [] (by simp),Option.bind_some]
  exact k1
 obtain⟨n,p,hin,hmk⟩:=r4 hr
 have h9:=hin.prt.hi
 have hf:v.1.length<=4611686018427387904:=by omega
 have hw:=hmk.weak hin.lo
 obtain⟨a,a1',a2⟩:=hin.isMarkov
 obtain⟨d,d1,d2⟩:=hin.isLinear
 rcases yav v.1 r.1 hf (by omega) with⟨_,_,_,q⟩ | ⟨n',p',r',s,h',k1',k2',k3',k4',k5',k6',k7',k8'⟩
 ·unfold yqd at q
  rw[hin.sm,hin.sp] at q;cases q
 rw[a1'] at k3'
 obtain rfl:=Option.some.inj k3'
 rw[d1] at k4'
 obtain rfl:=Option.some.inj k4'
 have ha:a.1=true/\a.2=true:=by
  rcases a2 with⟨q,_⟩ | ⟨_,q2,q3⟩
  ·exact absurd hw.2.all q
  exact⟨q3.2 hw,q2⟩
 have hd:v.2=true->d.1=true:=fun hv=>by
  rcases d2 with⟨q,_⟩ | ⟨_,q2,q3⟩
  ·exact absurd hw.2.all q
  rw[hv] at hmk;exact q3.2 hmk
 rcases ybv v.1 r.1 hf (by omega) with⟨g1,_⟩ | ⟨n2,p2,m,c,σ,hin2,hg,g1,g2,_⟩
 ·exfalso
  obtain⟨m,c,σ,hg⟩:=hin.mg hw;have g2:=hg.impl (by rw[← hin.ff];exact hin.im)
  unfold ysc at g1;rw[← hin.ff] at g2;rw[a1',Option.bind_some] at g1;simp only[ha.1,ha.2,Bool.not_true,Bool.or_self,Bool.false_eq_true,if_false,yky r.1 (show r.1.length<=1048576 by omega),Option.bind_some,hg.zip,g2] at g1
  exact absurd (congrArg (·.2) (Option.some.inj g1)) (by simp)
 have hs:=yvb1 (G:=gM σ) hg.hi
 have hip:ybh r.1=some true:=by unfold ybh;rw[hin.ip];rfl
 have loop:=hg.mid_loop (by rw[← hin2.ff];exact hin.sm) hin.ip hin.sp v.2
 have er:r=(r.1,true):=Prod.ext rfl hr
 have ev:v=(tab n2 p2,v.2):=Prod.ext hin2.ff rfl
 rw[← er,← ev] at loop
 simp only[beq_self_eq_true,Bool.not_true,Bool.false_eq_true,if_false,yhf1 r.1 (by omega),Option.bind_some,if_true,a1',d1,k5',g1,g2,ha.1,ha.2,ycd1 _ hs,hip]
 have tail:(if v.2=true then(if(!d.1)=true then some true else some false) else some false)=some false:=by
  cases hv:v.2
  ·rfl
  rw[hd hv];rfl
 rw[tail,Option.bind_some]
 simp only[Bool.false_eq_true,if_false]
 rw[loop,Option.bind_some,Sum.elim_inr]
 exact k1
end Go.PV

/-
 What comes in as bytes is bytes.
 Conditions: none.
-/
set_option linter.all false
namespace Go.PV
theorem ynq1 {l:List Int} (h:(Ty.sl (.int .u8)).ok l):Bytes l:=by
 refine⟨Nat.le_trans h.1 (by decide),fun b hb=>?_⟩
 have h2:(Lit.int .u8 b).wf=true:=h.2 b hb
 simp only[Lit.wf,Bool.and_eq_true,decide_eq_true_eq] at h2
 have e1:IntKind.u8.min=0:=by decide
 have e2:IntKind.u8.max=255:=by decide
 omega
end Go.PV

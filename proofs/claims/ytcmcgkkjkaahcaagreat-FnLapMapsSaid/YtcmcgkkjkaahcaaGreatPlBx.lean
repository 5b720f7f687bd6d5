/-
  Plain laws of what the functions answer.
  Conditions: none.
-/
import Derived.Test.YtcmcgkkjkaahcaaGreatPlAx
import Derived.Test.YtcmcgkkjkaahcaaGreatPvCx
/-
 Plain laws: a composition's places and points,the program's side.
 Conditions: none.
-/
set_option linter.all false
namespace Go.PV
def PlcC (n:Nat) (p:Nat->Pt) (m:Nat) (q:Nat->Pt) (x:Rt):Prop:=(∃ i,i<m/\x=(q i).1)\/∃ i,i<n/\InB m q (p i).1 x
noncomputable def cpQ (n:Nat) (p:Nat->Pt) (m:Nat) (q:Nat->Pt) (x:Rt):Option Rt:=(atQ m q x).bind (atQ n p)
structure Xs (n:Nat) (p:Nat->Pt) (m:Nat) (q:Nat->Pt) (l:List Rt):Prop where
 srt:Srt l
 rats:Rats l
 mem:∀ x,x∈l↔PlcC n p m q x
 len:l.length<=2000
theorem Xs.same {n m:Nat} {p q:Nat->Pt} {l k:List Rt} (h1:Xs n p m q l) (h2:Xs n p m q k):l=k:=yds1 h1.srt h2.srt h1.rats h2.rats fun x=>by rw[h1.mem,h2.mem]
section
variable {n m:Nat} {p q:Nat->Pt}
theorem yiq1 (h:Curve n p) {x:Rt} (hx:isRat x=true):∃ i:Nat,i+1<n/\yck (tab n p) x=some (i:Int):=by
 have h1:=h.hi
 have h2:=h.lo
 have key:∀ k,k<=n->(∃ j,AtJ n p x j)\/∀ i,i<k->less (p i).1 x=true:=by
  intro k;induction k with
  | zero=>intro _;exact .inr fun i hi=>by omega
  | succ k ih =>
   intro hk;rcases ih (by omega) with h | h
   ·exact .inl h
   cases hl:less (p k).1 x with
   | true =>
    right
    intro i hi;rcases Nat.lt_or_ge i k with g | g
    ·exact h i g
    have:i=k:=by omega
    subst this;exact hl
   | false=>exact .inl ⟨k,by omega,fun i hi=>h i hi,hl⟩
 rcases key n (Nat.le_refl _) with⟨j,hj⟩ | hall
 ·have:=hj.lt
  exact⟨j-1,by omega,yzt h hx hj⟩
 refine⟨0,by omega,?_⟩
 have hx':=yuc (body:=yca (tab n p) (fun x0=>ywd x0 x)) n (fun i=>(i:Int)) (.inr ()) (fun i hi=>by
  have hf:ywd (p i) x=some (!less (p i).1 x):=by simp[ywd,ygf _ _ (yan (h.x i hi)) (ycc hx)]
  simp only[yca,yqa,yna hi,hf,hall i hi,Option.bind_some,show((i:Int)<(n:Int)) from by omega,decide_true,if_true,yva (show i<9223372036854775807 by omega)]
  simp) (by simp[yca,yqa])
 unfold yck yga
 have hx':loopO (yca (tab n p) fun x0=>ywd x0 x) 0=_:=hx'
 rw[hx']
 simp only[Option.bind_some,Sum.elim_inr,ypa]
 decide
theorem ybe1 (h:Curve n p) {x:Rt} (hx:isRat x=true) (bad:Bool):∃ v,yya bad (tab n p) x=some v/\isRat v.1=true/\(bad=true->v.2=true):=by
 have h1:=h.hi
 obtain⟨i,hi,e⟩:=yiq1 h hx
 obtain⟨u,v,hs⟩:=h.piece hi
 obtain⟨w,e1,e2⟩:=yta1 (q:=p i) (s:=slopeQ (p i) (p (i+1))) (x:=x) (yhc (h.x i (by omega))) (h.y i (by omega)).1 hs.rs hx bad
 refine⟨w,?_,e2.1,fun hb=>by subst hb;exact yuj1 e2⟩
 unfold yya
 rw[e]
 simp only[Option.bind_some,yva (show i<9223372036854775807 by omega),yna (show i<n by omega),yna hi,ybn (h.x i (by omega)) (h.y i (by omega)) (h.x (i+1) hi) (h.y (i+1) hi) hs bad,e1]
theorem yjq1 (hp:Curve n p) (hq:Curve m q) (hy:∀ i,i<m->coord (q i).2=true) {x:Rt} (hx:isRat x=true) (bad:Bool):∃ v,ypf x bad (tab n p) (tab m q)=some v/\isRat v.1=true/\(bad=true->v.2=true)/\(isUnit x=true->(∀ w,cpQ n p m q x=some w->v=(w,bad))/\(cpQ n p m q x=none->v.2=true)):=by
 by_cases hu:isUnit x=true
 ·obtain⟨v1,e1,c1⟩:=yuf1 hq hu bad
  cases hz:atQ m q x with
  | none =>
   rw[hz] at c1;have hb:v1.2=true:=c1.2
   obtain⟨v2,e2,r2,b2⟩:=ybe1 hp c1.1 v1.2;refine⟨v2,by unfold ypf;rw[e1,Option.bind_some,e2];rfl,r2,fun _=>b2 hb,fun _=>⟨fun w hw=>(by unfold cpQ at hw;rw[hz] at hw;cases hw),fun _=>b2 hb⟩⟩
  | some z =>
   rw[hz] at c1;have hv1:v1=(z,bad):=c1.2
   subst hv1;obtain⟨v2,e2,c2⟩:=yuf1 hp (ykx hq hy hu hz) bad
   refine⟨v2,by unfold ypf;rw[e1,Option.bind_some,e2];rfl,c2.1,fun hb=>by subst hb;exact yuj1 c2,fun _=>⟨fun w hw=>?_,fun hw=>?_⟩⟩
   ·unfold cpQ at hw
    rw[hz,Option.bind_some] at hw;rw[hw] at c2;exact c2.2
   unfold cpQ at hw;rw[hz,Option.bind_some] at hw;rw[hw] at c2;exact c2.2
 obtain⟨v1,e1,r1,b1⟩:=ybe1 hq hx bad
 obtain⟨v2,e2,r2,b2⟩:=ybe1 hp r1 v1.2
 exact⟨v2,by unfold ypf;rw[e1,Option.bind_some,e2];rfl,r2,fun hb=>b2 (b1 hb),fun h=>absurd h hu⟩
noncomputable def ptsOf (n:Nat) (p:Nat->Pt) (m:Nat) (q:Nat->Pt) (l:List Rt):List Pt:=l.map fun x=>(x,(cpQ n p m q x).getD default)
structure PtsOk (n:Nat) (p:Nat->Pt) (m:Nat) (q:Nat->Pt) (bad:Bool) (l:List Rt) (r:List Pt×Bool):Prop where
 len:r.1.length=l.length
 bad':bad=true->r.2=true
 yes:bad=false->(∀ x∈l,isUnit x=true)->(∀ x∈l,cpQ n p m q x≠none)->r=(ptsOf n p m q l,false)
 no:(∀ x∈l,isUnit x=true)->(∃ x∈l,cpQ n p m q x=none)->r.2=true
theorem ykq1 (hp:Curve n p) (hq:Curve m q) (hy:∀ i,i<m->coord (q i).2=true) {l:List Rt} (hl:Rats l) (hn:l.length<=100000) (bad:Bool):Tot (loopO (yul (tab n p) (tab m q) l) ([],0,bad)) (PtsOk n p m q bad l):=by
 refine Tot.loop (fun x:List Pt×Int×Bool=>∃ i:Nat,x.2.1=(i:Int)/\i<=l.length/\PtsOk n p m q bad (l.take i) (x.1,x.2.2)) (fun x=>l.length-x.2.1.toNat) (fun x ⟨i,e,hi,h⟩=>?_) ([],0,bad) ⟨0,rfl,by omega,⟨by simp,fun h=>h,fun h _ _=>by simp[ptsOf,h],fun _ ⟨x,hx,_⟩=>by simp at hx⟩⟩
 obtain⟨r,t,b⟩:=x
 simp only at e h
 subst e
 unfold yul
 rcases Nat.lt_or_ge i l.length with hlt | hge
 ·obtain⟨v,e1,e2,e3,e4⟩:=yjq1 hp hq hy (hl _ (List.getElem_mem hlt)) b
  have hlen:=h.len;rw[List.length_take] at hlen;simp only[show((i:Int)<(l.length:Int)) from by omega,decide_true,if_true,yno hlt,Option.bind_some,e1];refine Tot.guard (by simp;simp only at hlen;omega) (Tot.inl ⟨⟨i+1,yva (by omega),hlt,?_⟩,by rw[yva (show i<9223372036854775807 by omega)];show l.length-((i+1:Nat):Int).toNat<l.length-(i:Int).toNat;omega⟩)
  have ht:l.take (i+1)=l.take i++[l[i]]:=List.take_succ_eq_append_getElem hlt
  rw[ht];refine⟨?_,fun hb=>e3 (h.bad' hb),fun hb hu hc=>?_,fun hu hc=>?_⟩
  ·rw[List.length_append,List.length_append,h.len];rfl
  ·have hy:=h.yes hb (fun x hx=>hu x (List.mem_append_left _ hx)) (fun x hx=>hc x (List.mem_append_left _ hx))
   obtain⟨w,hw⟩:=Option.ne_none_iff_exists'.1 (hc l[i] (List.mem_append_right _ (List.mem_singleton.2 rfl)))
   have hv:=(e4 (hu l[i] (List.mem_append_right _ (List.mem_singleton.2 rfl)))).1 w hw
   simp only[Prod.mk.injEq] at hy;rw[hy.2] at hv;rw[hv,hy.1];simp only[ptsOf,List.map_append,List.map_cons,List.map_nil,hw,Option.getD_some]
  obtain⟨x,hx,hn'⟩:=hc;rcases List.mem_append.1 hx with hx | hx
  ·exact e3 (h.no (fun x hx=>hu x (List.mem_append_left _ hx)) ⟨x,hx,hn'⟩)
  rw[List.mem_singleton.1 hx] at hn'
  exact(e4 (hu l[i] (List.mem_append_right _ (List.mem_singleton.2 rfl)))).2 hn'
 have:i=l.length:=by omega
 subst this
 simp only[Int.lt_irrefl,decide_false,Bool.false_eq_true,if_false]
 rw[List.take_length] at h
 exact Tot.inr h
theorem ypu1 (f:List Pt) (hf:f.length<=1048576):ynp f=some (f.map (·.1)):=by
 unfold ynp
 have hx:=yuc (body:=yrg f) f.length (fun i=>((f.take i).map (·.1),(i:Int))) (f.map (·.1)) (fun i hi=>by
  simp only[yrg,show((i:Int)<(f.length:Int)) from by omega,decide_true,if_true,yno hi,Option.bind_some];rw[yea (by simp;omega),yva (show i<9223372036854775807 by omega),List.take_succ_eq_append_getElem hi,List.map_append]
  rfl) (by
  simp only[yrg,Int.lt_irrefl,decide_false,Bool.false_eq_true,if_false,List.take_length])
 have hx:loopO (yrg f) ([],0)=some (f.map (·.1)):=hx
 rw[hx];rfl
theorem yon1 (hp:Curve n p) (hq:Curve m q) {x:Rt} (h:PlcC n p m q x):isUnit x=true:=by
 rcases h with⟨i,hi,rfl⟩ | ⟨i,hi,h⟩
 ·exact(yne (hq.xr hi)).2 (ypq (hq.x i hi))
 exact(ydy1 hq (hp.xr hi) h).1
theorem ylq1 (hp:Curve n p) (hq:Curve m q):Tot (loopO (ywl (tab n p) (tab m q)) (false,(tab m q).map (·.1),0)) fun r=>r.2.length<=2000/\Rats r.2/\((∀ i,i<n->BefOk m q (p i).1)->r.1=false/\∀ x,x∈r.2↔PlcC n p m q x)/\(¬ (∀ i,i<n->BefOk m q (p i).1)->r.1=true):=by
 have h12:=hp.hi
 have m12:=hq.hi
 refine Tot.loop (fun x:Bool×List Rt×Int=>∃ i:Nat,x.2.2=(i:Int)/\i<=n/\x.2.1.length<=12+100*i/\Rats x.2.1/\((∀ j,j<i->BefOk m q (p j).1)->x.1=false/\∀ z,z∈x.2.1↔(∃ j,j<m/\z=(q j).1)\/∃ j,j<i/\InB m q (p j).1 z)/\(¬ (∀ j,j<i->BefOk m q (p j).1)->x.1=true)) (fun x=>n-x.2.2.toNat) (fun x ⟨i,e,hi,hl,hr,hy,hno⟩=>?_) _ ⟨0,rfl,by omega,by simp[yqa];omega,fun x hx=>?_,fun _=>⟨rfl,fun z=>?_⟩,fun h=>absurd (fun j hj=>by omega) h⟩
 ·obtain⟨b,l,t⟩:=x
  simp only at e hl hr hy hno
  subst e;unfold ywl;rw[yqa];rcases Nat.lt_or_ge i n with hlt | hge
  ·simp only[show((i:Int)<(n:Int)) from by omega,decide_true,if_true,yna hlt,Option.bind_some]
   refine(ybk1 hq (hp.xr hlt) b).bind fun v ⟨v1,v2,v3,v4,v5⟩=>?_
   refine Tot.guard (by omega) (Tot.inl ⟨⟨i+1,yva (by omega),hlt,by simp;omega,fun x hx=>?_,fun hall=>?_,fun hno'=>?_⟩,by rw[yva (show i<9223372036854775807 by omega)];show n-((i+1:Nat):Int).toNat<n-(i:Int).toNat;omega⟩)
   ·rcases List.mem_append.1 hx with hx | hx
    ·exact hr x hx
    exact v2 x hx
   ·obtain⟨g1,g2⟩:=hy fun j hj=>hall j (by omega)
    obtain⟨k1,k2⟩:=v5 (hall i (by omega))
    refine⟨by rw[k1];exact g1,fun z=>?_⟩
    show z∈l++v.1↔_
    rw[List.mem_append,g2,k2.mem];constructor
    ·rintro((h | ⟨j,hj,h⟩) | h)
     ·exact .inl h
     ·exact .inr ⟨j,by omega,h⟩
     exact .inr ⟨i,by omega,h⟩
    rintro(h | ⟨j,hj,h⟩)
    ·exact .inl (.inl h)
    rcases Nat.lt_or_ge j i with g | g
    ·exact .inl (.inr ⟨j,g,h⟩)
    have:j=i:=by omega
    subst this;exact .inr h
   by_cases hi':∀ j,j<i->BefOk m q (p j).1
   ·refine v4 fun hb=>hno' fun j hj=>?_
    rcases Nat.lt_or_ge j i with g | g
    ·exact hi' j g
    have:j=i:=by omega
    subst this;exact hb
   exact v3 (hno hi')
  have:i=n:=by omega
  subst this;simp only[Int.lt_irrefl,decide_false,Bool.false_eq_true,if_false];exact Tot.inr ⟨by show l.length<=2000;omega,hr,hy,hno⟩
 ·obtain⟨pt,hpt,rfl⟩:=List.mem_map.1 hx
  unfold tab at hpt;obtain⟨i,hi,rfl⟩:=List.mem_map.1 hpt;exact hq.xr (List.mem_range.1 hi)
 simp only[tab,List.map_map,List.mem_map,List.mem_range,Function.comp]
 constructor
 ·rintro⟨i,hi,rfl⟩;exact .inl ⟨i,hi,rfl⟩
 rintro(⟨i,hi,rfl⟩ | ⟨i,hi,_⟩)
 ·exact⟨i,hi,rfl⟩
 omega
end
end Go.PV

/-
 Plain laws: a composition's places and points,the reference's side.
 Conditions: none.
-/
set_option linter.all false
namespace Go.PV
section
variable {n m:Nat} {p q:Nat->Pt}
theorem ygy1 {l w:List Rt} {b:Bool} (hs:Srt l) (hl:Rats l) (hw:Rats w) (hn:l.length+w.length<=100000):Tot (loopO (yqj (w,b)) (l,0)) fun r=>Srt r/\Rats r/\(∀ x,x∈r↔x∈l\/x∈w)/\r.length<=l.length+w.length:=by
 refine Tot.loop (fun x:List Rt×Int=>∃ i:Nat,x.2=(i:Int)/\i<=w.length/\Srt x.1/\Rats x.1/\(∀ z,z∈x.1↔z∈l\/z∈w.take i)/\x.1.length<=l.length+i) (fun x=>w.length-x.2.toNat) (fun x ⟨i,e,hi,h1,h2,h3,h4⟩=>?_) (l,0) ⟨0,rfl,by omega,hs,hl,fun z=>by simp,by simp⟩
 obtain⟨r,t⟩:=x
 simp only at e h1 h2 h3 h4
 subst e
 unfold yqj
 rcases Nat.lt_or_ge i w.length with hlt | hge
 ·have hx:=hw _ (List.getElem_mem hlt)
  simp only[show((i:Int)<(w.length:Int)) from by omega,decide_true,if_true,yno hlt,Option.bind_some];refine(yin1 h1 h2 hx (by omega)).bind fun v hp=>Tot.inl ⟨⟨i+1,yva (by omega),hlt,hp.srt,hp.rats h2 hx,fun z=>?_,by have:=hp.len;show v.length<=_;omega⟩,by rw[yva (show i<9223372036854775807 by omega)];show w.length-((i+1:Nat):Int).toNat<w.length-(i:Int).toNat;omega⟩
  rw[hp.mem,h3,List.take_succ_eq_append_getElem hlt,List.mem_append,List.mem_singleton];constructor
  ·rintro(h | h | h)
   ·exact .inr (.inr h)
   ·exact .inl h
   exact .inr (.inl h)
  rintro(h | h | h)
  ·exact .inr (.inl h)
  ·exact .inr (.inr h)
  exact .inl h
 have:i=w.length:=by omega
 subst this
 simp only[Int.lt_irrefl,decide_false,Bool.false_eq_true,if_false]
 rw[List.take_length] at h3
 exact Tot.inr ⟨h1,h2,h3,h4⟩
theorem yra2 (hq:Curve m q):Srt ((tab m q).map (·.1)):=by
 have:(tab m q).map (·.1)=tab m fun i=>(q i).1:=by simp[tab]
 rw[this]
 refine yey1 (fun x hx=>?_) fun i hi=>?_
 ·unfold tab at hx
  obtain⟨i,hi,rfl⟩:=List.mem_map.1 hx;exact hq.xr (List.mem_range.1 hi)
 rw[yqa] at hi
 have:=hq.up (i+1) (by omega) hi
 simpa [tab] using this
theorem yqu1 (hp:Curve n p) (hq:Curve m q):Tot (loopO (yrj (tab n p) (tab m q)) ((tab m q).map (·.1),0)) fun r=>match r with
  | .inl z=>(¬ ∀ i,i<n->BefOk m q (p i).1)/\z=([],false)
  | .inr l=>(∀ i,i<n->BefOk m q (p i).1)/\Xs n p m q l:=by
 have h12:=hp.hi
 have m12:=hq.hi
 refine Tot.loop (fun x:List Rt×Int=>∃ i:Nat,x.2=(i:Int)/\i<=n/\Srt x.1/\Rats x.1/\x.1.length<=12+100*i/\(∀ j,j<i->BefOk m q (p j).1)/\∀ z,z∈x.1↔(∃ j,j<m/\z=(q j).1)\/∃ j,j<i/\InB m q (p j).1 z) (fun x=>n-x.2.toNat) (fun x ⟨i,e,hi,h1,h2,h3,h4,h5⟩=>?_) _ ⟨0,rfl,by omega,yra2 hq,fun x hx=>?_,by simp[yqa];omega,fun j hj=>by omega,fun z=>?_⟩
 ·obtain⟨l,t⟩:=x
  simp only at e h1 h2 h3 h4 h5
  subst e;unfold yrj;rw[yqa];rcases Nat.lt_or_ge i n with hlt | hge
  ·simp only[show((i:Int)<(n:Int)) from by omega,decide_true,if_true,yna hlt,Option.bind_some]
   refine(yak1 hq (hp.xr hlt)).bind fun v hv=>?_
   rcases hv with⟨v1,rfl⟩ | ⟨v1,v2,v3⟩
   ·exact Tot.inr ⟨fun hall=>v1 (hall i hlt),rfl⟩
   simp only[v2,Bool.not_true,Bool.false_eq_true,if_false];have hvl:=v3.len;refine(ygy1 (b:=v.2) h1 h2 v3.rats (by omega)).bind fun r ⟨r1,r2,r3,r4⟩=>Tot.inl ⟨⟨i+1,yva (by omega),hlt,r1,r2,by show r.length<=_;omega,fun j hj=>?_,fun z=>?_⟩,by rw[yva (show i<9223372036854775807 by omega)];show n-((i+1:Nat):Int).toNat<n-(i:Int).toNat;omega⟩
   ·rcases Nat.lt_or_ge j i with g | g
    ·exact h4 j g
    have:j=i:=by omega
    subst this;exact v1
   rw[r3,h5,v3.mem];constructor
   ·rintro((h | ⟨j,hj,h⟩) | h)
    ·exact .inl h
    ·exact .inr ⟨j,by omega,h⟩
    exact .inr ⟨i,by omega,h⟩
   rintro(h | ⟨j,hj,h⟩)
   ·exact .inl (.inl h)
   rcases Nat.lt_or_ge j i with g | g
   ·exact .inl (.inr ⟨j,g,h⟩)
   have:j=i:=by omega
   subst this;exact .inr h
  have:i=n:=by omega
  subst this;simp only[Int.lt_irrefl,decide_false,Bool.false_eq_true,if_false];exact Tot.inr ⟨h4,h1,h2,h5,by omega⟩
 ·obtain⟨pt,hpt,rfl⟩:=List.mem_map.1 hx
  unfold tab at hpt;obtain⟨i,hi,rfl⟩:=List.mem_map.1 hpt;exact hq.xr (List.mem_range.1 hi)
 simp only[tab,List.map_map,List.mem_map,List.mem_range,Function.comp]
 constructor
 ·rintro⟨i,hi,rfl⟩;exact .inl ⟨i,hi,rfl⟩
 rintro(⟨i,hi,rfl⟩ | ⟨i,hi,_⟩)
 ·exact⟨i,hi,rfl⟩
 omega
theorem yru1 (hp:Curve n p) (hq:Curve m q) (hy:∀ i,i<m->coord (q i).2=true) {l:List Rt} (hu:∀ x∈l,isUnit x=true) (hn:l.length<=100000):Tot (loopO (ypj (tab n p) (tab m q) l) ([],0)) fun r=>match r with
  | .inl z=>(∃ x∈l,cpQ n p m q x=none)/\z=([],false)
  | .inr P=>(∀ x∈l,cpQ n p m q x≠none)/\P=ptsOf n p m q l:=by
 refine Tot.loop (fun x:List Pt×Int=>∃ i:Nat,x.2=(i:Int)/\i<=l.length/\(∀ x∈l.take i,cpQ n p m q x≠none)/\x.1=ptsOf n p m q (l.take i)) (fun x=>l.length-x.2.toNat) (fun x ⟨i,e,hi,h1,h2⟩=>?_) ([],0) ⟨0,rfl,by omega,fun x hx=>by simp at hx,rfl⟩
 obtain⟨r,t⟩:=x
 simp only at e h1 h2
 subst e h2
 unfold ypj
 rcases Nat.lt_or_ge i l.length with hlt | hge
 ·have hxm:l[i]∈l:=List.getElem_mem hlt
  have hx:=hu _ hxm;simp only[show((i:Int)<(l.length:Int)) from by omega,decide_true,if_true,yno hlt,Option.bind_some,ytm1 hq hx];cases hz:atQ m q l[i] with
  | none =>
   exact Tot.inr ⟨⟨l[i],hxm,by unfold cpQ;rw[hz];rfl⟩,rfl⟩
  | some z =>
   have uz:=ykx hq hy hx hz;simp only[unO,Bool.not_true,Bool.false_eq_true,if_false,ytm1 hp uz,Option.bind_some];cases hw:atQ n p z with
   | none=>exact Tot.inr ⟨⟨l[i],hxm,by unfold cpQ;rw[hz,Option.bind_some,hw]⟩,rfl⟩
   | some w =>
    have hc:cpQ n p m q l[i]=some w:=by unfold cpQ;rw[hz,Option.bind_some,hw]
    have ht:l.take (i+1)=l.take i++[l[i]]:=List.take_succ_eq_append_getElem hlt
    simp only[Bool.not_true,Bool.false_eq_true,if_false];refine Tot.guard (by simp[ptsOf];omega) (Tot.inl ⟨⟨i+1,yva (by omega),hlt,fun x hx'=>?_,?_⟩,by rw[yva (show i<9223372036854775807 by omega)];show l.length-((i+1:Nat):Int).toNat<l.length-(i:Int).toNat;omega⟩)
    ·rw[ht] at hx'
     rcases List.mem_append.1 hx' with g | g
     ·exact h1 x g
     rw[List.mem_singleton.1 g,hc];simp
    rw[ht];simp only[ptsOf,List.map_append,List.map_cons,List.map_nil,hc,Option.getD_some]
 have:i=l.length:=by omega
 subst this
 simp only[Int.lt_irrefl,decide_false,Bool.false_eq_true,if_false]
 rw[List.take_length] at h1
 rw[List.take_length]
 exact Tot.inr ⟨h1,rfl⟩
end
section
variable {K:Nat} {P:Nat->Pt}
theorem yvy (h:Zig K P):ynn (tab K P)=some (simL K P):=by
 have e:ynn (tab K P)=yys (tab K P):=rfl
 rw[e,yuy h]
theorem yhy1 {Q:Nat->Prop}:∀ k,(∃ j,j<k/\Q j)->∃ j,j<k/\Q j/\∀ i,i<j->¬ Q i
 | 0,⟨j,hj,_⟩=>by omega
 | k+1,⟨j,hj,hq⟩=>by
  by_cases h:∃ j,j<k/\Q j
  ·obtain⟨j,h1,h2,h3⟩:=yhy1 k h
   exact⟨j,by omega,h2,h3⟩
  exact⟨j,hj,hq,fun i hi hq'=>h ⟨i,by omega,hq'⟩⟩
def Sml (K:Nat) (P:Nat->Pt):Prop:=∀ j,j<K->(P j).1.2<=100/\(P j).2.2<=100
theorem ysu1 (hn:K<=100000):∃ b,yha (tab K P) (fun x0=>yti x0)=some b/\(b=false↔Sml K P):=by
 by_cases hall:Sml K P
 ·refine⟨false,?_,by simp[hall]⟩
  have hx':=yuc (body:=yca (tab K P) (fun x0=>yti x0)) K (fun i=>(i:Int)) (.inr ()) (fun i hi=>by
   have hf:yti (P i)=some false:=by
    obtain⟨a,b⟩:=hall i hi;simp[yti]
    omega
   simp only[yca,yqa,yna hi,hf,Option.bind_some,show((i:Int)<(K:Int)) from by omega,decide_true,if_true,yva (show i<9223372036854775807 by omega)]
   simp) (by simp[yca,yqa])
  unfold yha yga
  have hx':loopO (yca (tab K P) fun x0=>yti x0) 0=_:=hx'
  rw[hx'];rfl
 refine⟨true,?_,by simp[hall]⟩
 obtain⟨j,h1,h2,h3⟩:=yhy1 (Q:=fun j=>(decide ((P j).1.2>100)||decide ((P j).2.2>100))=true) K (Classical.byContradiction fun hh=>hall fun j hj=>by
  have:¬ (decide ((P j).1.2>100)||decide ((P j).2.2>100))=true:=fun h=>hh ⟨j,hj,h⟩
  simp at this
  exact this)
 unfold yha
 rw[ysm1 (fun x0=>yti x0) (fun i=>decide ((P i).1.2>100)||decide ((P i).2.2>100)) (fun i hi=>rfl) j h1 (by omega) (fun k hk=>by have:=h3 k hk;simpa using this) h2]
 simp
theorem ymq1 (hu:∀ j,j<K->isUnit (P j).1=true/\isUnit (P j).2=true) (hn:K<=100000):Tot (loopO (ytr (tab K P)) 0) fun r=>match r with
  | .inl z=>¬ Sml K P/\z=([],false)
  | .inr _=>Sml K P:=by
 refine Tot.loop (fun x:Int=>∃ i:Nat,x=(i:Int)/\i<=K/\Sml i P) (fun x=>K-x.toNat) (fun x ⟨i,e,hi,h⟩=>?_) 0 ⟨0,rfl,by omega,fun j hj=>by omega⟩
 subst e
 unfold ytr
 rw[yqa]
 rcases Nat.lt_or_ge i K with hlt | hge
 ·obtain⟨u1,u2⟩:=hu i hlt
  have c1:yif (P i).1=some (decide ((P i).1.2<=100)):=by rw[yzp];unfold coord;rw[u1];simp
  have c2:yif (P i).2=some (decide ((P i).2.2<=100)):=by rw[yzp];unfold coord;rw[u2];simp
  simp only[show((i:Int)<(K:Int)) from by omega,decide_true,if_true,yna hlt,Option.bind_some,c1];by_cases d1:(P i).1.2<=100
  ·simp only[d1,decide_true,Bool.not_true,Bool.false_eq_true,if_false,c2,Option.bind_some]
   by_cases d2:(P i).2.2<=100
   ·simp only[d2,decide_true,Bool.not_true,Bool.false_eq_true,if_false]
    refine Tot.inl ⟨⟨i+1,yva (by omega),hlt,fun j hj=>?_⟩,by rw[yva (show i<9223372036854775807 by omega)];omega⟩
    rcases Nat.lt_or_ge j i with g | g
    ·exact h j g
    have:j=i:=by omega
    subst this;exact⟨d1,d2⟩
   simp only[d2,decide_false,Bool.not_false,if_true];exact Tot.inr ⟨fun hh=>d2 (hh i hlt).2,rfl⟩
  simp only[d1,decide_false,Bool.not_false,if_true,Option.bind_some];exact Tot.inr ⟨fun hh=>d1 (hh i hlt).1,rfl⟩
 have:i=K:=by omega
 subst this
 simp only[Int.lt_irrefl,decide_false,Bool.false_eq_true,if_false]
 exact Tot.inr h
theorem ysa2 (h2:2<=K) (hn:K<=100000) (hu:∀ j,j<K->isUnit (P j).1=true/\isUnit (P j).2=true) (hup:∀ i,0<i->i<K->less (P (i-1)).1 (P i).1=true) :
  ∃ r:List Pt×Bool,yur (tab K P)=some r/\ywc false (tab K P)=some (r.1,r.2,false)/\(r.2=false->r.1=[])/\(r.2=true->Zig K P/\r.1=simL K P/\yed r.1=some true):=by
 obtain⟨b,e1,e2⟩:=ysu1 (P:=P) hn
 obtain⟨t,f1,f2⟩:=ymq1 hu hn
 by_cases hs:Sml K P
 ·have hb:=e2.2 hs
  subst hb;have hZ:Zig K P:=⟨h2,hn,fun i hi=>by unfold coord;rw[(hu i hi).1];simp[(hs i hi).1],fun i hi=>by unfold coord;rw[(hu i hi).2];simp[(hs i hi).2],hup⟩
  have hsl:(simL K P).length<=100000:=by unfold simL;rw[List.length_map];have:=ycb1 K P K;omega
  obtain⟨c,c1,c2,_⟩:=ynq (simL K P) (by omega)
  have hm:ymt (tab K P)=some (simL K P,c):=by
   unfold ymt;rw[e1];simp only[Option.bind_some,Bool.false_eq_true,if_false,ycc1 hZ,c2]
  have hc:yur (tab K P)=some (if c=true then(simL K P,true) else([],false)):=by
   unfold yur;rw[f1];cases t with
   | inl z=>exact absurd hs f2.1
   | inr u =>
    simp only[Option.bind_some,Sum.elim_inr,ysr,yvy hZ,c1];cases c <;> rfl
  have hi:ywc false (tab K P)=some (if c=true then(simL K P,true,false) else([],false,false)):=by
   unfold ywc;rw[hm];cases c <;> rfl
  rw[hc,hi];cases c
  ·exact⟨([],false),rfl,rfl,fun _=>rfl,fun h=>by cases h⟩
  exact⟨(simL K P,true),rfl,rfl,fun h=>(by cases h),fun _=>⟨hZ,rfl,c2⟩⟩
 have hb:b=true:=by cases b with
  | true=>rfl
  | false=>exact absurd (e2.1 rfl) hs
 subst hb
 refine⟨([],false),?_,?_,fun _=>rfl,fun h=>by cases h⟩
 ·unfold yur
  rw[f1];cases t with
  | inl z=>rw[f2.2];rfl
  | inr u=>exact absurd f2 hs
 unfold ywc ymt
 rw[e1]
 rfl
end
end Go.PV

/-
 Plain laws: what is left when points between pieces of the same slope are left out has the same turning values.
 Conditions: none.
-/
set_option linter.all false
namespace Go.PV
theorem ypn1 (n:Nat) (p:Nat->Pt) (j:Nat):∀ d,∃ t,simI n p (j+d)=simI n p j++t
 | 0=>⟨[],by simp⟩
 | d+1=>by
  obtain⟨t,ht⟩:=ypn1 n p j d;rw[show j+(d+1)=j+d+1 from rfl,ywn];split
  ·exact⟨t++[j+d],by rw[ht];simp⟩
  exact⟨t,ht⟩
theorem yqn1 {n:Nat} {p:Nat->Pt} {j:Nat} (hj:j<n) (hk:kpS n p j=true):(simI n p n).getD (simI n p j).length 0=j/\(simI n p j).length<(simI n p n).length:=by
 obtain⟨t,ht⟩:=ypn1 n p (j+1) (n-(j+1))
 rw[show j+1+(n-(j+1))=n from by omega,ywn,if_pos hk] at ht
 rw[ht]
 simp[List.getD_eq_getElem?_getD]
theorem yjs1 {n:Nat} {p:Nat->Pt} (h:Curve n p) (hd:∀ m,m+1<n->val (p m).2≠val (p (m+1)).2):Ways n p:=by
 refine yxr1 h ?_
 unfold strictB slopesT
 rw[List.all_eq_true]
 intro s hs
 unfold tab at hs
 obtain⟨m,hm,rfl⟩:=List.mem_map.1 hs
 have hm:=List.mem_range.1 hm
 obtain⟨u,v,hp⟩:=h.piece (show m+1<n by omega)
 have v4:=yme (h.yr (show m+1<n by omega)) (h.yr (show m<n by omega)) hp.up
 have v6:=divQ_val hp.ru hp.rv hp.vp hp.div
 simp only[Bool.not_eq_true',beq_eq_false_iff_ne]
 intro h0
 have e:=yuf (yic hp.rs)
 rw[h0] at e
 have hz:val (slopeQ (p m) (p (m+1)))=0:=by
  have c2:=yir (yic hp.rs)
  have e':val (slopeQ (p m) (p (m+1)))*((slopeQ (p m) (p (m+1))).2:Rat)=0:=by simpa using e
  rcases Rat.mul_eq_zero.1 e' with h | h
  ·exact h
  rw[h] at c2;exact absurd c2 (by decide)
 rw[hz] at v6
 exact hd m (by omega) (by grind)
section
variable {K:Nat} {P:Nat->Pt}
theorem Zig.xr (h:Zig K P) {i:Nat} (hi:i<K):isRat (P i).1=true:=yhc (h.x i hi)
theorem Zig.yr (h:Zig K P) {i:Nat} (hi:i<K):isRat (P i).2=true:=yhc (h.y i hi)
theorem Zig.dir (h:Zig K P) {j:Nat} (h1:1<=j) (hj:j+1<K) (he:slopeQ (P (j-1)) (P j)=slopeQ (P j) (P (j+1))) {ρ:Rat} (hr:ρ=1\/ρ = -1) (hl:Lt ρ (P (j-1)).2 (P j).2):Lt ρ (P j).2 (P (j+1)).2:=by
 obtain⟨a,rfl⟩:∃ a,j=a+1:=⟨j-1,by omega⟩
 rw[Nat.add_sub_cancel] at he hl
 obtain⟨u,v,hs⟩:=h.piece (i:=a) (by omega)
 obtain⟨u',v',hs'⟩:=h.piece (i:=a+1) hj
 have a1:=yme (h.yr (by omega)) (h.yr (by omega)) hs.up
 have a2:=yme (h.xr (by omega)) (h.xr (by omega)) hs.far
 have a3:=divQ_val hs.ru hs.rv hs.vp hs.div
 have b1:=yme (h.yr hj) (h.yr (by omega)) hs'.up
 have b2:=yme (h.xr hj) (h.xr (by omega)) hs'.far
 have b3:=divQ_val hs'.ru hs'.rv hs'.vp hs'.div
 have x1:=(ytb (yic (h.xr (i:=a) (by omega))) (yic (h.xr (i:=a+1) (by omega)))).1 (h.up (a+1) (by omega) (by omega))
 have x2:=(ytb (yic (h.xr (i:=a+1) (by omega))) (yic (h.xr hj))).1 (h.up (a+1+1) (by omega) hj)
 rw[he] at a3
 unfold Lt at hl ⊢
 have p1:0<val v:=by rw[a2];grind
 have p2:0<val v':=by rw[b2];grind
 have e1:val (P (a+1)).2-val (P a).2=val (slopeQ (P (a+1)) (P (a+1+1)))*val v:=by rw[a3,a1]
 have e2:val (P (a+1+1)).2-val (P (a+1)).2=val (slopeQ (P (a+1)) (P (a+1+1)))*val v':=by rw[b3,b1]
 rw[e1] at hl
 rw[e2]
 generalize val (slopeQ (P (a+1)) (P (a+1+1)))=s at *
 have m2:∀ c d:Rat,0<=c->d<=0->d*c<=0:=fun c d h1 h2=>by have:=Rat.mul_nonneg (show 0 <= -d by grind) h1;grind
 rcases hr with rfl | rfl
 ·have hs0:0<s:=by
   rcases Rat.le_total (a:=s) (b:=0) with h1 | h1
   ·have:=m2 (val v) s (by grind) h1;grind
   rcases Classical.em (s=0) with h0 | h0
   ·rw[h0] at hl;grind
   grind
  have:=Rat.mul_pos hs0 p2
  grind
 have hs0:0 < -s:=by
  rcases Rat.le_total (a := -s) (b:=0) with h1 | h1
  ·have:=m2 (val v) (-s) (by grind) h1;grind
  rcases Classical.em (s=0) with h0 | h0
  ·rw[h0] at hl;grind
  grind
 have:=Rat.mul_pos hs0 p2
 grind
def simP (K:Nat) (P:Nat->Pt) (i:Nat):Pt:=P ((simI K P K).getD i 0)
theorem ytu1 (K:Nat) (P:Nat->Pt):simL K P=tab (simI K P K).length (simP K P):=by
 unfold simL simP
 generalize simI K P K=l
 apply List.ext_getElem?
 intro i
 simp only[tab,List.getElem?_map,List.getElem?_range',List.getElem?_range]
 by_cases hi:i<l.length
 ·simp[hi,List.getD_eq_getElem?_getD]
 simp[hi]
theorem Zig.tq (h:Zig K P) (hd:∀ j,j+1<K->val (P j).2≠val (P (j+1)).2):tq (fun i=>(P i).2) K=tq (fun i=>(simP K P i).2) (simI K P K).length/\∀ i,i+1<(simI K P K).length->val (simP K P i).2≠val (simP K P (i+1)).2:=by
 have h2:=h.lo
 have run:=yen1 (z:=fun i=>(P i).2) (b:=fun i=>(simP K P i).2) (K:=K) (fun j i=>i=(simI K P j).length/\(1<=j->1<=i/\∃ ρ:Rat,(ρ=1\/ρ = -1)/\Lt ρ (simP K P (i-1)).2 (P j).2/\Lt ρ (P (j-1)).2 (P j).2)) ⟨rfl,fun h=>by omega⟩ (fun j i hj ⟨r1,r2⟩=>by
  have hne:=hd j hj;by_cases hk:kpS K P j=true
  ·left
   obtain⟨g1,g2⟩:=yqn1 (show j<K by omega) hk
   have e:simP K P i=P j:=by unfold simP;rw[r1,g1]
   refine⟨by show(P j).2=(simP K P i).2;rw[e],by rw[ywn,if_pos hk,List.length_append,r1];rfl,fun _=>⟨by omega,?_⟩⟩
   obtain⟨ρ,hr,hl⟩:=ydn1 hne;exact⟨ρ,hr,by rw[Nat.add_sub_cancel,e];exact hl,by rw[Nat.add_sub_cancel];exact hl⟩
  right
  have hj0:1<=j:=by
   rcases Nat.eq_zero_or_pos j with h0 | h0
   ·subst h0;exact absurd (by simp[kpS]) hk
   exact h0
  have he:slopeQ (P (j-1)) (P j)=slopeQ (P j) (P (j+1)):=Classical.byContradiction fun hh=>hk (by unfold kpS;simp[hh])
  obtain⟨g1,ρ,hr,g2,g3⟩:=r2 hj0;have g4:=h.dir hj0 hj he hr g3;exact⟨g1,⟨by rw[ywn,if_neg hk];exact r1,fun _=>⟨g1,ρ,hr,g2.trans g4,by rw[Nat.add_sub_cancel];exact g4⟩⟩,ρ,hr,g2,g4⟩)
 constructor
 ·obtain⟨i,⟨r1,_⟩,e⟩:=run (K-1) (by omega)
  have hk:kpS K P (K-1)=true:=by
   unfold kpS;have:(K-1+1==K)=true:=by simp;omega
   rw[this];simp
  obtain⟨g1,g2⟩:=yqn1 (show K-1<K by omega) hk
  have hM:(simI K P K).length=i+1:=by
   have:=ywn K P (K-1)
   rw[if_pos hk,show K-1+1=K from by omega] at this;rw[this,List.length_append,r1];rfl
  rw[show K-1+1=K from by omega] at e;rw[e,hM];have:simP K P i=P (K-1):=by unfold simP;rw[r1,g1]
  rw[← this];rfl
 have all:∀ j,j<=K->∀ i,i+1<(simI K P j).length->val (simP K P i).2≠val (simP K P (i+1)).2:=by
  intro j;induction j with
  | zero=>intro _ i hi;simp[simI] at hi
  | succ j ih =>
   intro hj i hi;rw[ywn] at hi;by_cases hk:kpS K P j=true
   ·rw[if_pos hk,List.length_append,List.length_singleton] at hi
    rcases Nat.lt_or_ge (i+1) (simI K P j).length with hh | hh
    ·exact ih (by omega) i hh
    have hi1:i+1=(simI K P j).length:=by omega
    have hj0:1<=j:=by
     rcases Nat.eq_zero_or_pos j with h0 | h0
     ·subst h0;simp[simI] at hi1
     exact h0
    obtain⟨i',⟨r1,r2⟩,_⟩:=run j (by omega)
    obtain⟨g1,ρ,hr,g2,g3⟩:=r2 hj0;obtain⟨k1,k2⟩:=yqn1 (show j<K by omega) hk
    have e:simP K P (i+1)=P j:=by unfold simP;rw[hi1,k1]
    rw[e];have hii:i' - 1=i:=by omega
    rw[hii] at g2;intro hv;unfold Lt at g2;rw[hv] at g2;rcases hr with rfl | rfl <;> grind
   rw[if_neg hk] at hi;exact ih (by omega) i hi
 exact all K (Nat.le_refl _)
end
end Go.PV

/-
 Plain law: the product of a graph and a vector.
 Conditions: none.
-/
set_option linter.all false
namespace Go.PV
end Go.PV

/-
 Plain law: more steps give bounds that are no worse.
 Conditions: none.
-/
set_option linter.all false
namespace Go.PV
section
variable {n:Nat} {G:Nat->Nat->Int}
def lbd (G:Nat->Nat->Int) (n:Nat) (p q:Int) (v:Nat->Int):Prop:=∀ i,i<n->p*v i<=q*dotN (G i) v n
def ubd (G:Nat->Nat->Int) (n:Nat) (p q:Int) (v:Nat->Int):Prop:=∀ i,i<n->q*dotN (G i) v n<=p*v i
section
variable {v:Nat->Int}
end
end
end Go.PV

/-
 Plain laws: FnLaps.
 Conditions: none.
-/
set_option linter.all false
namespace Go.PV
theorem yuu1 {a b:Rt} (ha:isRat a=true) (hb:isRat b=true):yuq a b=some (less a b):=by
 obtain⟨a1,a2,a3,a4⟩:=ycc ha
 obtain⟨b1,b2,b3,b4⟩:=ycc hb
 have m1:=yxk a1 a2 b3 b4
 have m2:=yxk b1 b2 a3 a4
 unfold yuq less
 rw[yzb (n:=a.1*b.2) (by omega) (by omega),yzb (n:=b.1*a.2) (by omega) (by omega)]
section
variable {n:Nat} {p:Nat->Pt}
theorem yks1 {cuts:List Rt} {k m:Nat} {l:List Rt} (h:itO n p cuts m=some l) (hk:k<=m):itO n p cuts k=some (itL n p cuts k):=by
 cases hq:itO n p cuts k with
 | none=>rw[yya1 hq hk] at h;cases h
 | some y=>rw[ynu hq]
end
structure LapNo (f:List Pt) (m:Int):Prop where
 gr:yql f m=some ([],false)/\yef f m=some ([],false)
 nu:yld f m=some (0,false)/\yvg f m=some (0,false)
 en:yxd f m=some ([],false)/\yrl f m=some ([],false)
 va:yza f m=some ((0,0),false)/\yqb f m=some ((0,0),false)
 hl:yyc f m=some ((0,0),(0,0),false)/\ytd f m=some ((0,0),(0,0),false)
noncomputable def grT (n:Nat) (p:Nat->Pt) (k:Nat):Int:=w64 (((itL n p (cutsT n p) k).length:Int)-1)
structure LapYes (f:List Pt) (m:Int) (n:Nat) (p:Nat->Pt) (N:Nat) (l:List Rt):Prop where
 ff:f=tab n p
 lo:2<=n
 hi:n<=12
 mm:m=((N:Nat):Int)
 NN:N<=12
 map:isMapT n p
 cur:Curve n p
 y:∀ i,i<n->coord (p i).2=true
 cr:∀ x∈cutsT n p,isUnit x=true
 cl:(cutsT n p).length<=12
 laps:(cutsT n p).length+1=(lapsT n p).length
 ways:Ways n p
 it:itO n p (cutsT n p) N=some l
 st:ymg f=some (true,true)
 gr:yql f m=some (tab (N+1) (grT n p),true)/\yef f m=some (tab (N+1) (grT n p),true)
 nu:yld f m=some (w64 ((l.length:Int)-1),true)/\yvg f m=some (w64 ((l.length:Int)-1),true)
 en:yxd f m=some (l,true)/\yrl f m=some (l,true)
 va:∃ r,yza f m=some r/\yqb f m=some r
 hl:yyc f m=some (mxN (fun i=>l.getD i default) l.length,mnN (fun i=>l.getD i default) l.length,true)/\ytd f m=some (mxN (fun i=>l.getD i default) l.length,mnN (fun i=>l.getD i default) l.length,true)
theorem both_eq {α:Type} {a b:Option α} {x:α} (h:∃ r,a=some r/\b=some r) (e:a=some x):a=some x/\b=some x:=by
 obtain⟨r,h1,h2⟩:=h
 exact⟨e,by rw[h2,← h1,e]⟩
theorem yrn1 (f:List Pt) (m:Int) (hl:f.length<=4611686018427387904):∃ r,yql f m=some r/\yef f m=some r:=by
 obtain⟨r,_,h1,h2⟩:=yyd1 f m hl
 exact⟨r,h1,h2⟩
theorem ysn1 (f:List Pt) (m:Int) (hl:f.length<=4611686018427387904):∃ r,yxd f m=some r/\yrl f m=some r:=by
 obtain⟨r,ok,_,h1,h2⟩:=yzd1 f m hl
 exact⟨(r,ok),h1,h2⟩
theorem both_eq' {α:Type} {a b:Option α} {x:α} (h:∃ r,a=some r/\b=some r) (e:b=some x):a=some x/\b=some x:=by
 obtain⟨r,h1,h2⟩:=h
 exact⟨by rw[h1,← h2,e],e⟩
theorem ydj1 {f:List Pt} {m:Int} (h:yod f m=some ([],false)):yef f m=some ([],false):=by
 unfold yef
 rw[h,Option.bind_some,yuj]
 simp[ymb,yoj]
theorem yej1 (f:List Pt) (m:Int) (hl:f.length<=4611686018427387904):LapNo f m\/∃ n p N l,LapYes f m n p N l:=by
 rcases yhk f m hl with⟨h1,h2⟩ | ⟨n,p,cuts,N,e,h2,hn,hm,em,hN,h6,h7,h8,h9,ht,hask,h1,h3⟩
 ·left
  exact⟨both_eq' (yrn1 f m hl) (ydj1 h2),both_eq (ykr f m hl) (by unfold yld;rw[h1];rfl),both_eq (ysn1 f m hl) (by unfold yxd;rw[h1];rfl),both_eq (yie f m hl) (by unfold yza;rw[h1];rfl),both_eq (yxi f m hl) (by unfold yyc;rw[h1];rfl)⟩
 cases h:itO n p cuts N with
 | none =>
  left
  rw[h] at h1 h3
  exact⟨both_eq' (yrn1 f m hl) (ydj1 h3),both_eq (ykr f m hl) (by unfold yld;rw[hask,h1];rfl),both_eq (ysn1 f m hl) (by unfold yxd;rw[hask,h1];rfl),both_eq (yie f m hl) (by unfold yza;rw[hask,h1];rfl),both_eq (yxi f m hl) (by unfold yyc;rw[hask,h1];rfl)⟩
 | some l =>
  right
  subst e em
  obtain⟨rfl,hlaps⟩:=yeu1 hm h2 hn ht;have hb:=h;rw[h] at h1 h3
  have E:=yts h6 h7 h8 h9 h;have hlo:=E.lo;have hhi:=E.hi;have ur:∀ i,i<l.length->isRat (l.getD i default)=true:=fun i hi=>ymd (E.at hi)
  -- strict
  obtain⟨c,b,s1,s2,s3,s4⟩:=yit (tab n p) hl
  have hc:c=true:=by
   cases c
   ·unfold yjd at hask;rw[s1] at hask;simp at hask
   rfl
  subst hc;obtain⟨s5,_⟩:=s4 rfl;have hb':b=true:=by
   cases b
   ·unfold yjd at hask;rw[s1] at hask;simp[s5] at hask
   rfl
  subst hb'
  have hst:strictB n p=true:=by
   have:=yzr hm h2 hn
   rw[s5] at this;exact(Option.some.inj this).symm
  have hx:=yuc (body:=ymb (tab (N+1) (itL n p (cutsT n p)),true)) (N+1) (fun i=>(tab i (grT n p),(i:Int))) (tab (N+1) (grT n p)) (fun i hi=>by
   simp only[ymb,yqa,show((i:Int)<((N+1:Nat):Int)) from by omega,decide_true,if_true,yna hi,Option.bind_some];rw[yea (by simp;omega),yva (show i<9223372036854775807 by omega)]
   have:=yna1 i (grT n p)
   rw[← this];rfl) (by
   simp only[ymb,yqa,Int.lt_irrefl,decide_false,Bool.false_eq_true,if_false])
  have hx':loopO (ymb (tab (N+1) (itL n p (cutsT n p)),true)) ([],0)=some (tab (N+1) (grT n p)):=hx
  refine⟨n,p,N,l,rfl,h2,hn,rfl,hN,hm,h6,h7,h8,h9,hlaps,yxr1 h6 hst,h,?_,both_eq' (yrn1 _ _ hl) ?_,both_eq (ykr _ _ hl) ?_,both_eq (ysn1 _ _ hl) ?_,yie _ _ hl,both_eq' (yxi _ _ hl) ?_⟩
  ·unfold ymg
   rw[s2,s3];rfl
  ·unfold yef
   rw[h3,Option.bind_some,hx'];rfl
  ·unfold yld;rw[hask,h1];rfl
  ·unfold yxd;rw[hask,h1];rfl
  unfold ytd;rw[h3];simp only[Option.bind_some,Bool.not_true,Bool.false_eq_true,if_false,yna (show N<N+1 by omega),ynu h];have a:=ywf1 (n:=l.length) (r:=fun i=>l.getD i default) (by omega) (by omega) ur
  have b:=yvf1 (n:=l.length) (r:=fun i=>l.getD i default) (by omega) (by omega) ur
  rw[← ymu l] at a b
  rw[a,b];rfl
end Go.PV

/-
 Plain laws: the variation of a map,as a sum of rationals;its full laps;what its turning points tell.
 Conditions: none.
-/
set_option linter.all false
namespace Go.PV
def ds (a b:Rt):Rat:=if val a<val b then val b-val a else val a-val b
theorem ynq1 (a b:Rt):0<=ds a b:=by unfold ds;split <;> grind
theorem yta2 (a b c:Rt):ds a c<=ds a b+ds b c:=by unfold ds;split <;> split <;> split <;> grind
theorem yoq1 {a b d:Rt} (ha:isRat a=true) (hb:isRat b=true) (h:distQ a b=some d):val d=ds a b:=by
 unfold distQ at h
 unfold ds
 by_cases hl:less a b=true
 ·rw[if_pos hl] at h
  rw[if_pos ((ytb (yic ha) (yic hb)).1 hl)];exact yme hb ha h
 have hl':less a b=false:=by cases hq:less a b <;> simp_all
 rw[if_neg hl] at h
 have:=(yvf (yic ha) (yic hb)).1 hl'
 rw[if_neg (by grind)]
 exact yme ha hb h
def vS (r:Nat->Rt):Nat->Rat
 | 0=>0
 | k+1=>vS r k+ds (r k) (r (k+1))
theorem yce1 {r:Nat->Rt}:∀ {k:Nat} {s:Rt},(∀ i,i<=k->isRat (r i)=true)->sumD r k=some s->val s=vS r k
 | 0,s,hr,h=>by
  obtain rfl:=Option.some.inj h
  exact ypm 0
 | k+1,s,hr,h=>by
  simp only[sumD] at h;obtain⟨s',h1,h2⟩:=Option.bind_eq_some_iff.1 h;obtain⟨d,h3,h4⟩:=Option.bind_eq_some_iff.1 h2;have e1:=yce1 (fun i hi=>hr i (by omega)) h1
  have e2:=yoq1 (hr k (by omega)) (hr (k+1) (Nat.le_refl _)) h3
  have e3:=yva1 (yra1 _ _ h1) (ypi1 h3) h4
  rw[e3,e1,e2];rfl
def lS (r:Nat->Rt):List Trip->Rat
 | []=>0
 | t::l=>ds (r t.1) (r t.2.1)+lS r l
theorem ytn1 (r:Nat->Rt):∀ (l m:List Trip),lS r (l++m)=lS r l+lS r m
 | [],m=>by simp[lS];grind
 | t::l,m=>by simp only[List.cons_append,lS,ytn1 r l m];grind
theorem ycb2 (r:Nat->Rt) (σ:Nat->Int):∀ i,lS r (lapsN σ i)<=vS r i/\∀ L t,lapsN σ i=L++[t]->t.2.1=i
 | 0=>⟨by simp[lapsN,lS,vS],fun L t h=>by simp[lapsN] at h⟩
 | i+1=>by
  obtain⟨h1,h2⟩:=ycb2 r σ i;rcases yaw (lapsN σ i) with h | ⟨l,t,h⟩
  ·have e:lapsN σ (i+1)=[(i,i+1,σ i)]:=by simp only[lapsN,h,yjt]
   rw[e];rw[h] at h1;refine⟨?_,fun L t ht=>?_⟩
   ·simp only[lS,vS] at h1 ⊢
    grind
   have:=congrArg List.getLast? ht
   simp at this
   rw[← this]
  have e:lapsN σ (i+1)=if t.2.2=σ i then l++[(t.1,i+1,σ i)] else l++[t]++[(i,i+1,σ i)]:=by simp only[lapsN,h,yoq]
  have ht:=h2 l t h;rw[h,ytn1] at h1;rw[e];by_cases hs:t.2.2=σ i
  ·rw[if_pos hs]
   refine⟨?_,fun L t' ht'=>?_⟩
   ·rw[ytn1]
    simp only[lS,vS] at h1 ⊢;rw[ht] at h1;have:=yta2 (r t.1) (r i) (r (i+1))
    grind
   have:=congrArg List.getLast? ht'
   simp at this
   rw[← this]
  rw[if_neg hs];refine⟨?_,fun L t' ht'=>?_⟩
  ·rw[ytn1,ytn1]
   simp only[lS,vS] at h1 ⊢;grind
  have:=congrArg List.getLast? ht'
  simp at this
  rw[← this]
theorem yiy1 {a b:Rt} (h:fullB a b=true):ds a b=1:=by
 unfold fullB at h
 have v0:val ((0,1):Rt)=0:=ypm 0
 have v1:val ((1,1):Rt)=1:=ypm 1
 rcases Bool.or_eq_true_iff.1 h with h | h <;> rw[Bool.and_eq_true,beq_iff_eq,beq_iff_eq] at h <;> obtain⟨rfl,rfl⟩:=h <;> unfold ds <;> rw[v0,v1] <;> split <;> grind
theorem yls1 (p:Nat->Pt):∀ l:List Trip,((fullN p l:Nat):Rat)<=lS (fun i=>(p i).2) l
 | []=>by simp[fullN,lS]
 | t::l=>by
  have ih:=yls1 p l;unfold fullN at ih ⊢
  simp only[lS];by_cases h:fullB (p t.1).2 (p t.2.1).2=true
  ·rw[List.filter_cons_of_pos (by simpa using h),List.length_cons]
   have:=yiy1 h
   push_cast
   rw[this];grind
  rw[List.filter_cons_of_neg (by simpa using h)];have:=ynq1 (p t.1).2 (p t.2.1).2
  grind
theorem yjy1 (p:Nat->Pt) (σ:Nat->Int) (i:Nat):((fullN p (lapsN σ i):Nat):Rat)<=vS (fun i=>(p i).2) i:=by
 have h1:=yls1 p (lapsN σ i)
 have h2:=(ycb2 (fun i=>(p i).2) σ i).1
 grind
def lV:List Rt->Rat
 | []=>0
 | a::l=>(match l with | []=>0 | b::_=>ds a b)+lV l
theorem ybg1 (b c:Rt):∀ L:List Rt,lV (L++[b,c])=lV (L++[b])+ds b c
 | []=>by simp[lV];grind
 | a::L=>by
  have ih:=ybg1 b c L;cases L with
  | nil=>simp[lV];grind
  | cons x L =>
   simp only[List.cons_append,lV] at ih ⊢;grind
theorem ydb2 (L:List Rt):∀ k,k<L.length->lV (L.take (k+1))=vS (fun i=>L.getD i default) k
 | 0,h=>by
  cases L with
  | nil=>simp at h
  | cons a L=>simp[lV,vS];grind
 | k+1,h=>by
  have ih:=ydb2 L k (by omega)
  have e1:L.take (k+1)=L.take k++[L.getD k default]:=by
   rw[List.take_add_one,List.getD_eq_getElem?_getD,List.getElem?_eq_getElem (by omega)];rfl
  have e2:L.take (k+1+1)=L.take k++[L.getD k default,L.getD (k+1) default]:=by
   rw[List.take_add_one,e1,List.getD_eq_getElem?_getD (i:=k+1),List.getElem?_eq_getElem h];simp
  rw[e2,ybg1,← e1,ih];rfl
theorem yua2 {ρ:Rat} (hr:ρ=1\/ρ = -1) {a b c:Rt} (h1:0<=ρ*(val b-val a)) (h2:0<ρ*(val c-val b)):ds a c=ds a b+ds b c:=by
 unfold ds
 rcases hr with rfl | rfl <;> split <;> split <;> split <;> grind
def tnA (σ:Nat->Int) (i:Nat):List Nat:=0::tnL σ i++[i+1]
theorem yfj1 {n:Nat} {p:Nat->Pt} (hw:Ways n p):∀ i,i+2<=n->∃ W a,0::tnL (wayOf p) i=W++[a]/\a<=i/\lV ((W++[a,i+1]).map fun m=>(p m).2)=vS (fun m=>(p m).2) (i+1)/\0<((wayOf p i:Int):Rat)*(val (p (i+1)).2-val (p a).2)
 | 0,h=>by
  refine⟨[],0,rfl,Nat.le_refl _,?_,yab1 hw (by omega)⟩
  simp[lV,vS]
  grind
 | i+1,h=>by
  obtain⟨W,a,h1,h2,h3,h4⟩:=yfj1 hw i (by omega)
  have hs:=yqh1 (wayOf p) i
  have h5:=yab1 hw (m:=i+1) (by omega)
  unfold dy at h5;by_cases ht:(wayOf p i != wayOf p (i+1))=true
  ·rw[if_pos ht] at hs
   refine⟨W++[a],i+1,by rw[hs,← h1];simp,Nat.le_refl _,?_,h5⟩
   have e:(W++[a]++[i+1,i+1+1]).map (fun m=>(p m).2)=(W++[a]).map (fun m=>(p m).2)++[(p (i+1)).2,(p (i+1+1)).2]:=by simp
   have e':(W++[a,i+1]).map (fun m=>(p m).2)=(W++[a]).map (fun m=>(p m).2)++[(p (i+1)).2]:=by simp
   rw[e,ybg1,← e',h3];rfl
  rw[if_neg ht,List.append_nil] at hs;have hq:wayOf p i=wayOf p (i+1):=by simpa using ht
  rw[hq] at h4;refine⟨W,a,by rw[hs,h1],by omega,?_,?_⟩
  ·have e:(W++[a,i+1+1]).map (fun m=>(p m).2)=W.map (fun m=>(p m).2)++[(p a).2,(p (i+1+1)).2]:=by simp
   have e':(W++[a,i+1]).map (fun m=>(p m).2)=W.map (fun m=>(p m).2)++[(p a).2,(p (i+1)).2]:=by simp
   rw[e',ybg1] at h3;rw[e,ybg1];have hρ:((wayOf p (i+1):Int):Rat)=1\/((wayOf p (i+1):Int):Rat) = -1:=by
    rcases hw (i+1) (by omega) with h | h
    ·left;rw[h.1];rfl
    right;rw[h.1];rfl
   have:=yua2 hρ (a:=(p a).2) (b:=(p (i+1)).2) (c:=(p (i+1+1)).2) (by grind) h5
   simp only[vS] at h3 ⊢;rw[this];grind
  grind
end Go.PV

/-
 Plain laws: FnLapMaps,its second and third part.
 Conditions: none.
-/
set_option linter.all false
namespace Go.PV
theorem ydk1 (xs:List Int) (hl:xs.length<=4611686018427387904):ykn xs xs=some true:=by
 have hx:=yuc (body:=yyf xs xs) xs.length (fun i=>(i:Int)) (.inr ()) (fun i hi=>by
  simp only[yyf,show((i:Int)<(xs.length:Int)) from by omega,decide_true,if_true,yno hi,Option.bind_some,bne_self_eq_false,Bool.false_eq_true,if_false,yva (show i<9223372036854775807 by omega)]) (by simp[yyf])
 unfold ykn
 have hx:loopO (yyf xs xs) 0=_:=hx
 rw[hx]
 simp[yil]
theorem ysh1 (g:List (List Int)) (h1:g.length<=4611686018427387904) (h2:∀ x∈g,x.length<=4611686018427387904):ytg g g=some true:=by
 have hx:=yuc (body:=yqe g g) g.length (fun i=>(i:Int)) (.inr ()) (fun i hi=>by
  have h2:=h2 _ (List.getElem_mem hi)
  simp only[yqe,show((i:Int)<(g.length:Int)) from by omega,decide_true,if_true,yno hi,Option.bind_some,ydk1 _ h2,Bool.not_true,Bool.false_eq_true,if_false,yva (show i<9223372036854775807 by omega)]) (by simp[yqe])
 unfold ytg
 have hx:loopO (yqe g g) 0=_:=hx
 rw[hx]
 simp[ymj]
theorem yms1 (l:List Trip) (hl:l.length<=1048576):ytg (l.map encT) (l.map encT)=some true:=ysh1 _ (by rw[List.length_map];omega) fun x hx=>by
 obtain⟨t,_,rfl⟩:=List.mem_map.1 hx
 show(3:Nat)<=_
 omega
theorem ycg1 (xs:List Pt) (hl:xs.length<=4611686018427387904):yjn xs xs=some true:=by
 have hx:=yuc (body:=yxf xs xs) xs.length (fun i=>(i:Int)) (.inr ()) (fun i hi=>by
  simp only[yxf,show((i:Int)<(xs.length:Int)) from by omega,decide_true,if_true,yno hi,Option.bind_some,beq_self_eq_true,Bool.and_self,Bool.not_true,Bool.false_eq_true,if_false,yva (show i<9223372036854775807 by omega)]) (by simp[yxf])
 unfold yjn
 have hx:loopO (yxf xs xs) 0=_:=hx
 rw[hx]
 simp[yhl]
theorem ypx {l:List Int} (h:Bytes l):Tot (yhe l) fun r=>r.length<=13:=by
 unfold yhe
 refine(yag1 (ck0 h) (by omega) _).bind fun v1 h1=>?_
 refine Tot.ite (fun _=>?_) (fun _=>?_)
 ·exact(ykn1 (by omega) h1).bind fun w hw=>Tot.ret hw.1
 exact(ypu (by omega) h1).bind fun w hw=>Tot.ret hw.1
theorem ywy {l:List Int} (h:Bytes l):Tot (yff l) fun r=>r.length<=13:=by
 unfold yff ysj
 refine Tot.bind (P:=fun r=>r.length<=13) ((ypu (by omega) (ck0 h)).bind fun w hw=>Tot.ret hw.1) fun w hw=>Tot.ret hw
theorem ydg1 (a1:List Int) (h1:Bytes a1):laws_FnLapMaps_k2 a1 ()=some true:=by
 unfold laws_FnLapMaps_k2
 obtain⟨v,e,hv⟩:=ywy h1
 obtain⟨r,a1,a2⟩:=ybc1 v (by omega)
 obtain⟨s,b1,b2⟩:=ydy v (by omega)
 rw[e]
 simp only[Option.bind_some,a1,a2,b1,b2,beq_self_eq_true,Bool.and_self]
section
variable {n:Nat} {p:Nat->Pt}
theorem yns1 (hm:isMapT n p) (h2:2<=n) (hn:n<=12):yfc (tab n p)=some (unO (sumD (fun i=>(p i).2) (n-1)))/\yag (tab n p)=some (unO (sumD (fun i=>(p i).2) (n-1))):=by
 have e:yfc (tab n p)=some (unO (sumD (fun i=>(p i).2) (n-1))):=by
  obtain⟨c,h3,h4⟩:=ydj n p h2 hn;have hc:=h4.2 hm;unfold yfc;rw[h3,hc];simp only[Option.bind_some,Bool.not_true,Bool.false_eq_true,if_false,yur1 n p (by omega),ycf,ylp n (fun i=>(p i).2) (by omega) (by omega) fun i hi=>yhc (hm.1 i hi).2]
 exact both_eq (yss _ (by rw[yqa];omega)) e
theorem yun1 (hm:isMapT n p) (h2:2<=n) (hn:n<=12):ydf (tab n p)=some ((fullN p (lapsT n p):Int),true)/\yqk (tab n p)=some ((fullN p (lapsT n p):Int),true):=by
 refine both_eq (yey _ (by rw[yqa];omega)) ?_
 obtain⟨c,h3,h4⟩:=ydj n p h2 hn
 have hc:=h4.2 hm
 have hy:=yuc (body:=ynd (tab n p) ((lapsT n p).map encT)) (lapsT n p).length (fun i=>((fullN p ((lapsT n p).take i):Int),(i:Int))) (fullN p (lapsT n p):Int) (fun i hi=>(yud1 hm hn h2 hi).2) (by simp[ynd])
 have e0:((fullN p ((lapsT n p).take 0):Int),((0:Nat):Int))=(0,0):=by simp[fullN]
 rw[e0] at hy
 unfold ydf
 rw[h3,hc]
 simp only[Option.bind_some,Bool.not_true,Bool.false_eq_true,if_false,yfh hm h2 hn,hy]
 rfl
theorem yde1 (hm:isMapT n p) (h2:2<=n) (hn:n<=12):ygo (tab n p)=some ((lapsT n p).map encT,true)/\yfo (tab n p)=some ((lapsT n p).map encT,true):=by
 constructor
 ·obtain⟨c,h3,h4⟩:=ydj n p h2 hn
  have hc:=h4.2 hm;unfold ygo;rw[h3,hc];simp only[Option.bind_some,Bool.not_true,Bool.false_eq_true,if_false,yfh hm h2 hn]
 obtain⟨c,h3,h4⟩:=yvn n p h2 hn
 have hc:=h4.2 hm
 unfold yfo
 rw[h3,hc]
 simp only[Option.bind_some,Bool.not_true,Bool.false_eq_true,if_false,ymp hm h2 hn]
theorem yuc1 (h:Curve n p):∀ (ms:List Nat) (acc:List Rt),(∀ m∈ms,m<n)->valsO n p (some acc) (ms.map fun m=>(p m).1)=some (acc++ms.map fun m=>(p m).2)
 | [],acc,_=>by simp[valsO]
 | m::ms,acc,hm=>by
  rw[List.map_cons,show(p m).1::ms.map (fun m=>(p m).1)=[(p m).1]++ms.map (fun m=>(p m).1) from rfl,yqm,yjr,yae1 h (hm m (by simp))]
  simp only[Option.bind_some,Option.map_some];rw[yuc1 h ms _ fun x hx=>hm x (by simp[hx])]
  simp
theorem yva2 (h:Curve n p) {l:List Rt} (e:itO n p (cutsT n p) 1=some l):l=(0::tnL (wayOf p) (n-2)++[n-1]).map fun m=>(p m).2:=by
 have h2:=h.lo
 have hb:btw (cutsT n p) (0,1) (1,1)=cutsT n p:=by
  unfold btw;have:less ((1,1):Rt) (0,1)=false:=by decide
  rw[this];simp only[Bool.false_eq_true,if_false];refine List.filter_eq_self.2 fun x hx=>?_
  obtain⟨m,hm,rfl⟩:=List.mem_map.1 hx;obtain⟨m1,m2,_⟩:=tnL_mem.1 hm;have a:=h.xlt (i:=0) (j:=m) (by omega) (by omega)
  have b:=h.xlt (i:=m) (j:=n-1) (by omega) (by omega)
  rw[h.fst] at a;rw[h.lst] at b;have hp:=yic (h.xr (i:=m) (by omega))
  rw[Bool.and_eq_true];exact⟨(ytb (by decide) hp).2 a,(ytb hp (by decide)).2 b⟩
 have hw:wayN (cutsT n p) (fun i=>([(0,1),(1,1)]:List Rt).getD i default) 1=(0::tnL (wayOf p) (n-2)++[n-1]).map fun m=>(p m).1:=by
  show[((0,1):Rt)]++btw (cutsT n p) (0,1) (1,1)++[(1,1)]=_
  rw[hb];simp only[List.map_append,List.map_cons,List.map_nil,h.fst,h.lst];rfl
 have e':nextO n p (cutsT n p) 2 (fun i=>([(0,1),(1,1)]:List Rt).getD i default)=some l:=e
 unfold nextO at e'
 split at e'
 ·rw[show 2-1=1 from rfl,hw,yuc1 h _ [] fun m hm=>?_] at e'
  ·exact(Option.some.inj e').symm.trans (by simp)
  rcases List.mem_append.1 hm with hm | hm
  ·rcases List.mem_cons.1 hm with rfl | hm
   ·omega
   have:=tnL_mem.1 hm;omega
  simp at hm;omega
 cases e'
theorem yky1 (h:Curve n p) (hw:Ways n p) {l:List Rt} (e:itO n p (cutsT n p) 1=some l):1<=l.length/\vS (fun i=>l.getD i default) (l.length-1)=vS (fun m=>(p m).2) (n-1):=by
 have h2:=h.lo
 have el:=yva2 h e
 obtain⟨W,a,t1,t2,t3,_⟩:=yfj1 hw (n-2) (by omega)
 have e2:(W++[a,n-2+1]).map (fun m=>(p m).2)=l:=by
  rw[el,t1,show n-2+1=n-1 from by omega];simp
 have hl:1<=l.length:=by rw[el];simp
 refine⟨hl,?_⟩
 rw[← ydb2 l (l.length-1) (by omega),show l.length-1+1=l.length from by omega,List.take_length,← e2,t3,show n-2+1=n-1 from by omega]
end
theorem yvn1 (a1:List Int) (h1:Bytes a1):laws_FnLapMaps_k1 a1 ()=some true:=by
 unfold laws_FnLapMaps_k1
 obtain⟨f,e,hv⟩:=ypx h1
 rw[e,Option.bind_some]
 obtain⟨c,c1,c2,c3⟩:=ynq f (by omega)
 cases c
 ·have a1':yfc f=some ((0,0),false):=by unfold yfc;rw[c1];rfl
  have b1':ydf f=some (0,false):=by unfold ydf;rw[c1];rfl
  obtain⟨_,a2⟩:=both_eq (yss f (by omega)) a1'
  obtain⟨_,b2⟩:=both_eq (yey f (by omega)) b1'
  rw[a2,a1',b1',b2];simp only[Option.bind_some];simp[ydg1 a1 h1]
 obtain⟨n,p,rfl,h2,hn,hm⟩:=c3 rfl
 have hC:=Curve.of_map hm h2 hn
 have hlen:=ybw (n:=n) (p:=p) h2
 have hfl:=yym1 (p:=p) (lapsT n p)
 have yr:∀ i,i<n->isRat (p i).2=true:=fun i hi=>yhc (hm.1 i hi).2
 rw[(yns1 hm h2 hn).1,(yns1 hm h2 hn).2,(yun1 hm h2 hn).1,(yun1 hm h2 hn).2,(yde1 hm h2 hn).1,(yde1 hm h2 hn).2]
 simp only[Option.bind_some]
 have g1:((!((unO (sumD (fun i=>(p i).2) (n-1))).2==(unO (sumD (fun i=>(p i).2) (n-1))).2))||((!(((unO (sumD (fun i=>(p i).2) (n-1))).1.1==(unO (sumD (fun i=>(p i).2) (n-1))).1.1)&&((unO (sumD (fun i=>(p i).2) (n-1))).1.2==(unO (sumD (fun i=>(p i).2) (n-1))).1.2)))||((!(true==true))||(((fullN p (lapsT n p):Int) != (fullN p (lapsT n p):Int))||((unO (sumD (fun i=>(p i).2) (n-1))).2&&(!true))))))=false:=by simp
 rw[if_neg (by rw[g1];decide)]
 simp only[if_true,Bool.not_true,Bool.false_eq_true,if_false,yms1 (lapsT n p) (by omega),Option.bind_some,show ¬ ((fullN p (lapsT n p):Int)<0) from by omega,decide_false,List.length_map,show ¬ ((fullN p (lapsT n p):Int)>((lapsT n p).length:Int)) from by omega]
 have g2:(if(unO (sumD (fun i=>(p i).2) (n-1))).2=true then(yuq (unO (sumD (fun i=>(p i).2) (n-1))).1 ((fullN p (lapsT n p):Int),1)).bind fun v24=>some v24 else some false)=some false:=by
  cases hs:sumD (fun i=>(p i).2) (n-1) with
  | none=>rfl
  | some s =>
   have hr:=yra1 _ _ hs;have hval:=yce1 (fun i hi=>yr i (by omega)) hs
   have hf:=yjy1 p (wayOf p) (n-1)
   have hq:isRat ((fullN p (lapsT n p):Int),1)=true:=isRat_iff.2 ⟨by omega,by omega,by omega,by omega,by simp⟩
   simp only[unO,if_true];rw[yuu1 hr hq];have:less s ((fullN p (lapsT n p):Int),1)=false:=(yvf (yic hr) (yic hq)).2 (by
    rw[hval,ypm];exact_mod_cast hf)
   rw[this];rfl
 rw[g2]
 simp only[Option.bind_some,Bool.false_eq_true,if_false]
 obtain⟨s,s1,s2⟩:=ydy (tab n p) (by omega)
 have hs2:s.2=true:=by
  unfold yok at s1;rw[c1] at s1;simp only[Option.bind_some,Bool.not_true,Bool.false_eq_true,if_false] at s1;cases hq:yye (tab n p) with
  | none=>rw[hq] at s1;cases s1
  | some b=>rw[hq] at s1;obtain rfl:=Option.some.inj s1;rfl
 rw[s2]
 simp only[Option.bind_some,hs2,Bool.not_true,Bool.false_eq_true,if_false]
 obtain⟨r,r1,r2⟩:=yie (tab n p) 1 (by omega)
 rw[r1,r2]
 simp only[Option.bind_some,beq_self_eq_true,Bool.and_self,Bool.not_true,Bool.false_or,ydg1 a1 h1]
 rw[if_neg]
 intro hbad
 rw[Bool.and_eq_true] at hbad
 obtain⟨hr2,hbad⟩:=hbad
 rcases yej1 (tab n p) 1 (by omega) with hN | ⟨n',p',N,l,hY⟩
 ·have:=hN.va.1
  rw[r1] at this;rw[Option.some.inj this] at hr2;cases hr2
 have hst:=hY.st
 rw[s2] at hst
 obtain rfl:=Option.some.inj hst
 simp only[Bool.not_true,Bool.false_or,Bool.and_eq_true] at hbad
 obtain⟨hv,hne⟩:=hbad
 cases hs:sumD (fun i=>(p i).2) (n-1) with
 | none=>rw[hs] at hv;cases hv
 | some q =>
  rw[hs] at hne;have hN1:N=1:=by have:=hY.mm;omega
  subst hN1;have hff:=hY.ff;have hE:=hY.en.1;rw[hff] at r1;rw[hff] at hE;unfold yxd at hE;unfold yza at r1;cases hA:yjd (tab n' p') 1 with
  | none=>rw[hA] at hE;cases hE
  | some bA =>
   rw[hA] at hE r1
   cases bA with
   | false=>simp at hE
   | true =>
    simp only[Option.bind_some,Bool.not_true,Bool.false_eq_true,if_false] at hE r1;cases hEn:yhh (tab n' p') 1 with
    | none=>rw[hEn] at hE;cases hE
    | some en =>
     rw[hEn] at hE r1
     obtain rfl:=Option.some.inj hE
     simp only[Option.bind_some,Bool.not_true,Bool.false_eq_true,if_false] at r1;have E:=yts hY.cur hY.y hY.cr hY.cl hY.it;have elo:=E.lo;have ehi:=E.hi;have ur:∀ i,i<l.length->isRat (l.getD i default)=true:=fun i hi=>ymd (E.at hi)
     have hsum:=ylp l.length (fun i=>l.getD i default) (by omega) (by omega) ur
     rw[← ymu l] at hsum;rw[hsum] at r1;cases hq:sumD (fun i=>l.getD i default) (l.length-1) with
     | none=>rw[hq] at r1;simp only[unO,Option.bind_some,Option.some.injEq] at r1;rw[← r1] at hr2;cases hr2
     | some q' =>
      rw[hq] at r1;simp only[unO,Option.bind_some,Option.some.injEq] at r1;rw[← r1] at hne;have v1:=yce1 (fun i hi=>ur i (by omega)) hq
      have v2:=yce1 (fun i hi=>yr i (by omega)) hs
      have hnn:n'=n:=by have:=congrArg List.length hff;rw[yqa,yqa] at this;exact this.symm
      subst hnn;have hpp:∀ i,i<n'->p i=p' i:=fun i hi=>by
       have:=congrArg (fun l=>l[i]?) hff
       simpa [tab,hi] using this
      have v3:=(yky1 hY.cur hY.ways hY.it).2
      have v4:∀ k,k<n'->vS (fun i=>(p i).2) k=vS (fun i=>(p' i).2) k:=fun k=>by
       induction k with
       | zero=>intro _;rfl
       | succ k ih=>intro hk;simp only[vS];rw[ih (by omega),hpp k (by omega),hpp (k+1) hk]
      have hqq:q'=q:=yvi1 (yra1 _ _ hq) (yra1 _ _ hs) (by rw[v1,v2,v3,v4 _ (by omega)])
      subst hqq;simp[unO] at hne
end Go.PV

/-
 Plain laws: from one power to the next.
 Conditions: none.
-/
set_option linter.all false
namespace Go.PV
theorem Val2.vals {n:Nat} {p:Nat->Pt} {l m:List Rt} (h:Val2 n p l m):valsO n p (some []) l.reverse=some m.reverse:=by
 induction h with
 | nil=>rfl
 | cons hx _ ih =>
  rw[List.reverse_cons,List.reverse_cons,yqm,ih,yjr,Option.bind_some,hx];rfl
structure PInv (n:Nat) (p:Nat->Pt) (m:Nat) (q:Nat->Pt) (l:List Rt):Prop where
 map:isMapT m q
 lo:2<=m
 hi:m<=12
 ways:Ways m q
 tq:tq (fun i=>(q i).2) m=l.reverse
theorem PInv.laps {n m:Nat} {p q:Nat->Pt} {l:List Rt} (h:PInv n p m q l):(lapsT m q).length+1=l.length:=by
 rw[← yma2 h.ways h.lo,h.tq,List.length_reverse]
section
variable {n m K:Nat} {p q:Nat->Pt} {X z y:Nat->Rt} {k:Nat} {l l':List Rt}
theorem PInv.step (h:PInv n p m q l) (hF:Fine n p m q K X z y) (hcr:∀ x∈cutsT n p,isUnit x=true) (hZ:Zig K fun j=>(X j,y j)) (hl:itO n p (cutsT n p) k=some l) (hl2:1<=l.length) (hl':itO n p (cutsT n p) (k+1)=some l')
  (hm:isMapT (simI K (fun j=>(X j,y j)) K).length (simP K fun j=>(X j,y j))) (h2:2<=(simI K (fun j=>(X j,y j)) K).length) (h12:(simI K (fun j=>(X j,y j)) K).length<=12) :
  PInv n p (simI K (fun j=>(X j,y j)) K).length (simP K fun j=>(X j,y j)) l':=by
 have hk:=hF.k2
 have hseg:∀ i,i+1<=K-1->Seg (cutsT n p) (z i) (z (i+1)):=fun i hi=>hF.seg (by omega)
 have hne:∀ j,j+1<K->val (y j)≠val (y (j+1)):=fun j hj=>yla2 hF.cp hF.wp (hF.uz j (by omega)) (hF.uz (j+1) hj) (hF.vy j (by omega)) (hF.vy (j+1) hj) (hF.seg hj)
 obtain⟨t1,t2⟩:=hZ.tq hne
 have hs:=yvx1 hF.cp
 obtain⟨E',S',e1,e2,e3,_⟩:=yas1 hF.cp hF.wp (z:=z) (y:=y) (K-1) (fun i hi=>hF.uz i (by omega)) (fun i hi=>hF.vy i (by omega)) hseg
 obtain⟨w1,_,_⟩:=yxx1 hcr hs (z:=z) (K-1) (fun i hi=>hF.uz i (by omega)) hseg
 rw[show K-1+1=K from by omega] at e1 e2 w1
 have hv2:Val2 n p (esT (cutsT n p) z K) (Go.PV.tq y K):=by
  rw[e1,e2];exact .cons (hF.vy (K-1) (by omega)) e3
 have hw:=yzx1 (cutsT n p) (fun i=>l.getD i default) (l.length-1)
 rw[yzr1 l (l.length-1) (by omega),show l.length-1+1=l.length from by omega,List.take_length] at hw
 rw[hF.tq,h.tq] at w1
 rw[← w1] at hw
 have hnx:nextO n p (cutsT n p) l.length (fun i=>l.getD i default)=some l':=by
  have e:itO n p (cutsT n p) (k+1)=(itO n p (cutsT n p) k).bind fun l=>nextO n p (cutsT n p) l.length (fun i=>l.getD i default):=rfl
  rw[e,hl] at hl'
  exact hl'
 unfold nextO at hnx
 split at hnx
 ·rw[hw,hv2.vals] at hnx
  have hll:=Option.some.inj hnx;refine⟨hm,h2,h12,yjs1 (Curve.of_map hm h2 h12) t2,?_⟩
  rw[← t1,← hll,List.reverse_reverse]
 cases hnx
theorem PInv.base {n:Nat} {p q:Nat->Pt} (h0:q 0=((0,1),(0,1))) (h1:q 1=((1,1),(1,1))):PInv n p 2 q [(0,1),(1,1)]:=by
 have hm:isMapT 2 q:=by
  refine⟨fun i hi=>?_,fun i h0' hi=>?_,by rw[h0],by show(q 1).1=_;rw[h1]⟩
  ·match i,hi with
   | 0,_=>rw[h0];decide
   | 1,_=>rw[h1];decide
  have:i=1:=by omega
  subst this;rw[show 1-1=0 from rfl,h0,h1];decide
 refine⟨hm,by omega,by omega,yjs1 (Curve.of_map hm (by omega) (by omega)) fun m hm'=>?_,?_⟩
 ·have:m=0:=by omega
  subst this;rw[h0,h1];show val (0,1)≠val (1,1)
  rw[show val ((0,1):Rt)=0 from ypm 0,show val ((1,1):Rt)=1 from ypm 1];decide
 show push (push [] (q 0).2) (q 1).2=_
 rw[h0,h1]
 rfl
end
end Go.PV

/-
 Plain laws: a composition on both sides;its places are fine.
 Conditions: none.
-/
set_option linter.all false
namespace Go.PV
section
variable {n m:Nat} {p q:Nat->Pt}
noncomputable def cX (l:List Rt) (j:Nat):Rt:=l.getD j default
noncomputable def cZ (m:Nat) (q:Nat->Pt) (l:List Rt) (j:Nat):Rt:=(atQ m q (cX l j)).getD default
noncomputable def cY (n:Nat) (p:Nat->Pt) (m:Nat) (q:Nat->Pt) (l:List Rt) (j:Nat):Rt:=(cpQ n p m q (cX l j)).getD default
theorem ypq1 {l:List Rt} {j:Nat} (h:j<l.length):cX l j∈l:=by
 unfold cX
 rw[List.getD_eq_getElem?_getD,List.getElem?_eq_getElem h]
 exact List.getElem_mem h
theorem yly1 {l:List Rt} {x:Rt} (h:x∈l):∃ j,j<l.length/\cX l j=x:=by
 obtain⟨j,hj,e⟩:=List.getElem_of_mem h
 exact⟨j,hj,by unfold cX;rw[List.getD_eq_getElem?_getD,List.getElem?_eq_getElem hj];exact e⟩
theorem yeb2 {l:List Rt} (hs:Srt l) {i j:Nat} (hij:i<j) (hj:j<l.length):less (cX l i) (cX l j)=true:=by
 have:=hs.get hij hj
 unfold cX
 rw[List.getD_eq_getElem?_getD,List.getD_eq_getElem?_getD,List.getElem?_eq_getElem hj,List.getElem?_eq_getElem (show i<l.length by omega)]
 exact this
theorem ymy1 (l:List Rt):ptsOf n p m q l=tab l.length fun j=>(cX l j,cY n p m q l j):=by
 unfold ptsOf
 apply List.ext_getElem?
 intro i
 by_cases hi:i<l.length
 ·simp[tab,hi,cX,cY,List.getD_eq_getElem?_getD]
 simp[tab,hi]
theorem yny1 (hp:Curve n p) (hq:Curve m q) {l:List Rt} (h:Xs n p m q l):2<=l.length:=by
 have h2:=hq.lo
 have a:=yly1 ((h.mem _).2 (.inl ⟨0,by omega,rfl⟩))
 have b:=yly1 ((h.mem _).2 (.inl ⟨m-1,by omega,rfl⟩))
 obtain⟨i,hi,e1⟩:=a
 obtain⟨j,hj,e2⟩:=b
 have:i≠j:=fun e=>by
  subst e;rw[e1] at e2;rw[hq.fst,hq.lst] at e2;exact absurd e2 (by decide)
 omega
theorem yoy1 (hm:isMapT n p) (h2:2<=n) (h12:n<=12) (hqm:isMapT m q) (m2:2<=m) (m12:m<=12) {l:List Rt} (h:Xs n p m q l) (hb:∀ i,i<n->BefOk m q (p i).1) (hc:∀ x∈l,cpQ n p m q x≠none) (wp:Ways n p) (wq:Ways m q) :
  Fine n p m q l.length (cX l) (cZ m q l) (cY n p m q l):=by
 have hp:=Curve.of_map hm h2 h12
 have hq:=Curve.of_map hqm m2 m12
 have hu:∀ j,j<l.length->isUnit (cX l j)=true:=fun j hj=>yon1 hp hq ((h.mem _).1 (ypq1 hj))
 have rX:∀ j,j<l.length->0<(cX l j).2:=fun j hj=>yic (ymd (hu j hj))
 have hlt:∀ i j,i<j->j<l.length->val (cX l i)<val (cX l j):=fun i j hij hj=>(ytb (rX i (by omega)) (rX j hj)).1 (yeb2 h.srt hij hj)
 have vz:∀ j,j<l.length->atQ m q (cX l j)=some (cZ m q l j)/\atQ n p (cZ m q l j)=some (cY n p m q l j):=fun j hj=>by
  obtain⟨w,hw⟩:=Option.ne_none_iff_exists'.1 (hc _ (ypq1 hj))
  have hw':=hw
  unfold cpQ at hw'
  obtain⟨z,hz,hy⟩:=Option.bind_eq_some_iff.1 hw'
  have e1:cZ m q l j=z:=by unfold cZ;rw[hz];rfl
  have e2:cY n p m q l j=w:=by unfold cY;rw[hw];rfl
  rw[e1,e2];exact⟨hz,hy⟩
 have hK:=yny1 hp hq h
 refine⟨hp,wp,hq,wq,hK,fun j hj=>hlt j (j+1) (by omega) hj,hu,fun j hj x hx=>?_,?_,?_,hb,fun j hj=>(vz j hj).1,fun j hj=>ykx hq (fun i hi=>(hqm.1 i hi).2) (hu j hj) (vz j hj).1,fun j hj=>(vz j hj).2⟩
 ·obtain⟨t,ht,rfl⟩:=yly1 ((h.mem x).2 hx)
  rcases Nat.lt_or_ge j t with g | g
  ·right
   rcases Nat.lt_or_ge (j+1) t with g' | g'
   ·have:=hlt _ _ g' ht;grind
   have:t=j+1:=by omega
   subst this;exact Rat.le_refl
  left
  rcases Nat.lt_or_ge t j with g' | g'
  ·have:=hlt _ _ g' (by omega);grind
  have:t=j:=by omega
  subst this;exact Rat.le_refl
 ·obtain⟨t,ht,e⟩:=yly1 ((h.mem _).2 (.inl ⟨0,by omega,rfl⟩))
  have hv:val (cX l t)=0:=by rw[e,hq.fst];exact ypm 0
  have u0:=(yne (ymd (hu 0 (by omega)))).1 (hu 0 (by omega))
  rcases Nat.eq_zero_or_pos t with h0 | h0
  ·subst h0;exact hv
  have:=hlt 0 t h0 ht;grind
 obtain⟨t,ht,e⟩:=yly1 ((h.mem _).2 (.inl ⟨m-1,by omega,rfl⟩))
 have hv:val (cX l t)=1:=by rw[e,hq.lst];exact ypm 1
 have u0:=(yne (ymd (hu (l.length-1) (by omega)))).1 (hu (l.length-1) (by omega))
 rcases Nat.lt_or_ge t (l.length-1) with h0 | h0
 ·have:=hlt t (l.length-1) h0 (by omega);grind
 have:t=l.length-1:=by omega
 rw[← this];exact hv
structure CompOk (n:Nat) (p:Nat->Pt) (m:Nat) (q:Nat->Pt) (r:List Pt) (l:List Rt):Prop where
 fine:Ways n p->Ways m q->Fine n p m q l.length (cX l) (cZ m q l) (cY n p m q l)
 zig:Zig l.length fun j=>(cX l j,cY n p m q l j)
 eq:r=simL l.length fun j=>(cX l j,cY n p m q l j)
 map:yed r=some true
theorem yqq1 (hm:isMapT n p) (h2:2<=n) (h12:n<=12) (hqm:isMapT m q) (m2:2<=m) (m12:m<=12):∃ r:List Pt×Bool,ygi (tab n p) (tab m q)=some r/\yxg (tab n p) (tab m q)=some r/\(r.2=false->r.1=[])/\(r.2=true->∃ l,CompOk n p m q r.1 l):=by
 have hp:=Curve.of_map hm h2 h12
 have hq:=Curve.of_map hqm m2 m12
 have hyq:∀ i,i<m->coord (q i).2=true:=fun i hi=>(hqm.1 i hi).2
 obtain⟨s,es,s1,s2,s3,s4⟩:=ylq1 hp hq
 obtain⟨l,el,l1,l2,l3⟩:=ybj1 s2 (by omega)
 have lr:Rats l:=fun x hx=>s2 x ((l2 x).1 hx)
 obtain⟨t,et,ht⟩:=ykq1 hp hq hyq lr (by omega) s.1
 have eI:ygi (tab n p) (tab m q)=(ywc t.2 t.1).bind fun v4=>some (v4.1,v4.2.1):=by
  unfold ygi;rw[ypu1 _ (by rw[yqa];omega),Option.bind_some,es,Option.bind_some]
  unfold yvl yqp
  rw[el,Option.bind_some,et,Option.bind_some]
 have bad:t.2=true->ygi (tab n p) (tab m q)=some ([],false):=fun h=>by
  rw[eI,h];rfl
 obtain⟨u,eu,hu⟩:=yqu1 hp hq
 have eS:yxg (tab n p) (tab m q)=Sum.elim (fun p=>some p) (fun v=>yue (tab n p) (tab m q) v) u:=by
  unfold yxg;rw[you1 _ (by rw[yqa];omega),Option.bind_some,eu,Option.bind_some]
 by_cases hall:∀ i,i<n->BefOk m q (p i).1
 ·obtain⟨g1,g2⟩:=s3 hall
  have hX:Xs n p m q l:=⟨l1,lr,fun x=>by rw[l2,g2],by omega⟩
  cases u with
  | inl z=>exact absurd hall hu.1
  | inr k =>
   have hk:k=l:=hu.2.same hX
   subst hk;have units:∀ x∈k,isUnit x=true:=fun x hx=>yon1 hp hq ((hX.mem x).1 hx)
   obtain⟨w,ew,hw⟩:=yru1 hp hq hyq units (by have:=hX.len;omega)
   have eS2:yxg (tab n p) (tab m q)=Sum.elim (fun p=>some p) (fun v=>yte v) w:=by
    rw[eS];show yue (tab n p) (tab m q) k=_
    unfold yue;rw[ew,Option.bind_some]
   by_cases hc:∀ x∈k,cpQ n p m q x≠none
   ·have ht':=ht.yes g1 units hc
    subst ht'
    cases w with
    | inl z=>exact absurd (hw.1) (fun ⟨x,hx,hn⟩=>hc x hx hn)
    | inr P =>
     rw[hw.2] at eS2;have hK:=yny1 hp hq hX;have hKn:k.length<=100000:=by have:=hX.len;omega
     have vals:∀ j,j<k.length->isUnit (cX k j)=true/\isUnit (cY n p m q k j)=true:=fun j hj=>by
      have u1:=units _ (ypq1 hj)
      refine⟨u1,?_⟩
      obtain⟨w,hw⟩:=Option.ne_none_iff_exists'.1 (hc _ (ypq1 hj))
      have hw':=hw
      unfold cpQ at hw'
      obtain⟨z,hz,hy⟩:=Option.bind_eq_some_iff.1 hw'
      have e2:cY n p m q k j=w:=by unfold cY;rw[hw];rfl
      rw[e2];exact ykx hp (fun i hi=>(hm.1 i hi).2) (ykx hq hyq u1 hz) hy
     obtain⟨r,r1,r2,r3,r4⟩:=ysa2 (K:=k.length) (P:=fun j=>(cX k j,cY n p m q k j)) hK hKn vals (fun i h0 hi=>yeb2 hX.srt (by omega) hi)
     rw[← ymy1] at r1 r2
     refine⟨r,?_,?_,r3,fun h=>?_⟩
     ·rw[eI]
      show(ywc false (ptsOf n p m q k)).bind _=_
      rw[r2];rfl
     ·rw[eS2]
      show yte (ptsOf n p m q k)=_
      unfold yte;rw[r1];rfl
     obtain⟨z1,z2,z3⟩:=r4 h;exact⟨k,fun wp wq=>yoy1 hm h2 h12 hqm m2 m12 hX hall hc wp wq,z1,z2,z3⟩
   have hex:∃ x∈k,cpQ n p m q x=none:=Classical.byContradiction fun hh=>hc fun x hx hn=>hh ⟨x,hx,hn⟩
   have hb:=ht.no units hex;refine⟨([],false),bad hb,?_,fun _=>rfl,fun h=>by cases h⟩
   rw[eS2];cases w with
   | inl z=>rw[hw.2];rfl
   | inr P=>exact absurd hw.1 hc
 have hb:=ht.bad' (s4 hall)
 refine⟨([],false),bad hb,?_,fun _=>rfl,fun h=>by cases h⟩
 rw[eS]
 cases u with
 | inl z=>rw[hu.2];rfl
 | inr k=>exact absurd hu.1 hall
end
end Go.PV

/-
 Plain laws: FnLapMaps.
 Conditions: none.
-/
set_option linter.all false
namespace Go.PV
section
variable {n:Nat} {p:Nat->Pt}
theorem ywn1 (hm:isMapT n p) (h2:2<=n) (h12:n<=12) (hw:Ways n p) (hcr:∀ x∈cutsT n p,isUnit x=true) (hcl:(cutsT n p).length<=12) {N:Nat} (hN:N<=6) {L:List Rt} (hL:itO n p (cutsT n p) N=some L) :
  ∀ d k m (q:Nat->Pt),k+d=N->PInv n p m q (itL n p (cutsT n p) k)->∃ y,loopO (ykd (tab n p) (N:Int)) (tab m q,(k:Int))=some y/\loopO (yqf (tab n p)) ((d:Int),tab m q)=some y/\(match y with
   | .inl z=>z=([],false)
   | .inr h=>∃ m' q',h=tab m' q'/\PInv n p m' q' L)
 | 0,k,m,q,hk,hI=>by
  have:k=N:=by omega
  subst this;refine⟨.inr (tab m q),?_,?_,m,q,rfl,?_⟩
  ·rw[yuj]
   simp[ykd]
  ·rw[yuj]
   simp[yqf]
  rw[ynu hL] at hI;exact hI
 | d+1,k,m,q,hk,hI=>by
  have hC:=Curve.of_map hm h2 h12;have hy:∀ i,i<n->coord (p i).2=true:=fun i hi=>(hm.1 i hi).2
  obtain⟨r,r1,r2,r3,r4⟩:=yqq1 hm h2 h12 hI.map hI.lo hI.hi;have wk:w64 ((k:Int)+1)=((k+1:Nat):Int):=yva (by omega)
  have wd:w64 (((d+1:Nat):Int)-1)=(d:Int):=by rw[yzb (by omega) (by omega)];omega
  cases hr:r.2 with
  | false =>
   refine⟨.inl ([],false),?_,?_,rfl⟩
   ·rw[yuj]
    simp only[ykd,show((k:Int)<(N:Int)) from by omega,decide_true,if_true,r1,Option.bind_some,hr,Bool.not_false]
   rw[yuj];simp only[yqf,show(((d+1:Nat):Int)>0) from by omega,decide_true,if_true,r2,Option.bind_some,hr,Bool.not_false]
  | true =>
   obtain⟨l,hc⟩:=r4 hr;have e:=hc.eq;rw[ytu1] at e;have hlen:(simI l.length (fun j=>(cX l j,cY n p m q l j)) l.length).length<=100000:=by
    have:=ycb1 l.length (fun j=>(cX l j,cY n p m q l j)) l.length
    have:=hc.zig.hi
    omega
   obtain⟨c,c1,c2,c3⟩:=ynq r.1 (by rw[e,yqa];omega)
   rw[hc.map] at c2;obtain rfl:=Option.some.inj c2
   obtain⟨n',p',e',n2,n12,_⟩:=c3 rfl;have hM:(simI l.length (fun j=>(cX l j,cY n p m q l j)) l.length).length=n':=by
    have:=congrArg List.length (e.symm.trans e')
    rwa [yqa,yqa] at this
   obtain⟨c,d1,d2⟩:=yvn (simI l.length (fun j=>(cX l j,cY n p m q l j)) l.length).length (simP l.length fun j=>(cX l j,cY n p m q l j)) (by omega) (by omega)
   rw[← e,hc.map] at d1;obtain rfl:=Option.some.inj d1
   have i1:=yks1 hL (show k<=N by omega)
   have i2:=yks1 hL (show k+1<=N by omega)
   have E1:=yts hC hy hcr hcl i1;have elo:=E1.lo;have hI':=hI.step (hc.fine hw hI.ways) hcr hc.zig i1 (by omega) i2 (d2.1 rfl) (by omega) (by omega)
   obtain⟨y,y1,y2,y3⟩:=ywn1 hm h2 h12 hw hcr hcl hN hL d (k+1) _ _ (by omega) hI'
   rw[← e] at y1 y2
   refine⟨y,?_,?_,y3⟩
   ·rw[yuj]
    simp only[ykd,show((k:Int)<(N:Int)) from by omega,decide_true,if_true,r1,Option.bind_some,hr,Bool.not_true,Bool.false_eq_true,if_false,wk];exact y1
   rw[yuj];simp only[yqf,show(((d+1:Nat):Int)>0) from by omega,decide_true,if_true,r2,Option.bind_some,hr,Bool.not_true,Bool.false_eq_true,if_false,wd];exact y2
theorem yxn1 (hm:isMapT n p) (h2:2<=n) (h12:n<=12) (hw:Ways n p) (hcr:∀ x∈cutsT n p,isUnit x=true) (hcl:(cutsT n p).length<=12) {N:Nat} (hN:N<=6) {L:List Rt} (hL:itO n p (cutsT n p) N=some L) :
  ∃ r:List Pt×Bool,yih (tab n p) (N:Int)=some r/\yjh (tab n p) (N:Int)=some r/\((r.1=[]/\r.2=false)\/(r.2=true/\∃ m' q',r.1=tab m' q'/\PInv n p m' q' L)):=by
 let q0:Nat->Pt:=fun i=>if i=0 then((0,1),(0,1)) else((1,1),(1,1))
 have hq0:tab 2 q0=[((0,1),(0,1)),((1,1),(1,1))]:=rfl
 have hb:PInv n p 2 q0 (itL n p (cutsT n p) 0):=by
  rw[ynu (n:=n) (p:=p) (k:=0) (l:=[(0,1),(1,1)]) rfl]
  exact PInv.base rfl rfl
 obtain⟨y,y1,y2,y3⟩:=ywn1 hm h2 h12 hw hcr hcl hN hL N 0 2 q0 (by omega) hb
 obtain⟨c,c1,c2⟩:=yvn n p h2 h12
 have hc:=c2.2 hm
 subst hc
 obtain⟨c',c1',c2'⟩:=ydj n p h2 h12
 have hc':=c2'.2 hm
 subst hc'
 have hin:inB 0 6 (N:Int)=true:=inB_iff.2 ⟨by omega,by omega⟩
 have eI:yih (tab n p) (N:Int)=Sum.elim (fun p=>some p) (fun p=>yvi p) y:=by
  unfold yih;rw[c1];simp only[Option.bind_some,Bool.not_true,Bool.false_eq_true,if_false,ywk,hin];unfold ysl yke yoe
  simp only[Option.bind_some];have y1':loopO (ykd (tab n p) (N:Int)) ([((0,1),(0,1)),((1,1),(1,1))],0)=some y:=y1
  rw[y1'];rfl
 have eS:yjh (tab n p) (N:Int)=Sum.elim (fun p=>some p) (fun p=>yum p) y:=by
  unfold yjh;rw[c1'];simp only[Option.bind_some,Bool.not_true,Bool.false_eq_true,if_false,ydm,hin];unfold yvr ynt yoa
  simp only[Option.bind_some];have y2':loopO (yqf (tab n p)) ((N:Int),[((0,1),(0,1)),((1,1),(1,1))])=some y:=y2
  rw[y2',Option.bind_some];cases y <;> rfl
 rw[eI,eS]
 cases y with
 | inl z =>
  have hz:z=([],false):=y3
  subst hz;exact⟨([],false),rfl,rfl,.inl ⟨rfl,rfl⟩⟩
 | inr h =>
  obtain⟨m',q',e,hP⟩:=y3;exact⟨(h,true),rfl,rfl,.inr ⟨rfl,m',q',e,hP⟩⟩
end
theorem laws_FnLapMaps_eq (a0 a1:List Int) (h0:Bytes a0) (h1:Bytes a1):laws_FnLapMaps a0 a1=some true:=by
 have k1:=yvn1 a1 h1
 unfold laws_FnLapMaps yee1
 rw[Option.bind_some]
 split
 ·rfl
 obtain⟨v,e,hv,_⟩:=ybb1 h0
 rw[e,Option.bind_some]
 rcases yej1 v.1 v.2 (by omega) with hN | ⟨n,p,N,l,h⟩
 ·rw[hN.nu.1,hN.nu.2]
  simp[k1]
 rw[h.nu.1,h.nu.2]
 simp only[Option.bind_some,beq_self_eq_true,Bool.not_true,bne_self_eq_false,Bool.or_self,Bool.false_eq_true,if_false,Bool.true_and]
 by_cases h3:v.2<=3
 ·have hN3:N<=3:=by have:=h.mm;omega
  obtain⟨r,r1,r2,r3⟩:=yxn1 h.map h.lo h.hi h.ways h.cr h.cl (show N<=6 by omega) h.it
  rw[h.mm,h.ff] at *
  simp only[h3,decide_true,if_true,r1,r2,Option.bind_some,beq_self_eq_true,Bool.not_true,Bool.false_eq_true,if_false];rcases r3 with⟨e1,e2⟩ | ⟨e2,m',q',e1,hP⟩
  ·rw[e1,e2,ycg1 [] (by simp)]
   simp[k1]
  have hi':=hP.hi
  have hlp:=hP.laps;have hll:=ybw (n:=m') (p:=q') hP.lo
  have E:=yts h.cur h.y h.cr h.cl h.it;have elo:=E.lo;have ehi:=E.hi;rw[e1,e2,ycg1 (tab m' q') (by rw[yqa];omega),(yde1 hP.map hP.lo hP.hi).1,(yde1 hP.map hP.lo hP.hi).2]
  have hcount:((((lapsT m' q').map encT).length:Int) != w64 ((l.length:Int)-1))=false:=by
   rw[List.length_map,yzb (by omega) (by omega)];simp
   omega
  simp only[Option.bind_some,Bool.not_true,Bool.false_eq_true,if_false,if_true,yms1 (lapsT m' q') (by omega),hcount,k1]
 simp only[h3,decide_false,Bool.false_eq_true,if_false,k1]
end Go.PV

/-
 What comes in as bytes is bytes.
 Conditions: none.
-/
set_option linter.all false
namespace Go.PV
theorem yyn1 {l:List Int} (h:(Ty.sl (.int .u8)).ok l):Bytes l:=by
 refine⟨Nat.le_trans h.1 (by decide),fun b hb=>?_⟩
 have h2:(Lit.int .u8 b).wf=true:=h.2 b hb
 simp only[Lit.wf,Bool.and_eq_true,decide_eq_true_eq] at h2
 have e1:IntKind.u8.min=0:=by decide
 have e2:IntKind.u8.max=255:=by decide
 omega
end Go.PV

/-
  A walk over pure values: what stands for what, and that each operation keeps it.
  Conditions: none.
-/
import Derived.Lib.AppendStr
import Derived.Orders
import Derived.Test.YtcmcgkkjkaahcaaGreatPvAx
set_option linter.all false
/-
 A walk over pure values: calls to which something is lent are sound,joined.
 Conditions: none.
-/
namespace Go.PV
variable {P:Program} {N:Nat} {w0:World} {A:Nat->Prop} {I:Bor}
theorem yue1 {x y:SV} (h:lendSame x y=true):isRoot y=true/\isBox y=isBox x:=by
 cases x <;> cases y <;> first | exact⟨rfl,rfl⟩ | (simp[lendSame] at h)
theorem yxq1 {σ:St} {a:Act} {w:World} {L:Lab} (hR:Rel P N N w0 A I σ a w L) {fn x0:Operand} {rest:List Operand} {f:FuncId} {axs:List Arg} {vals:List RV} {sv sv':SV} {r:Nat} {q:Option Path}
    (hf:sOp.fnOf (evS σ fn)=some (f,[])) {rt:Nat->SV} (hrt:∀ r,rt r=σ r\/rt r=.u) (hl:lendOf σ (evS σ x0)=some (r,q,sv)) (ha:toArgs rt (rest.map (evS σ))=some axs) (hp:sOp.noPtr axs=true)
    (hrR:r∉(rest.map (evS σ)).flatMap rootOf) (hm:MeetsB P f sv axs vals sv') (hsm:lendSame sv sv'=true) {fz:Bool} (hfz:fz=true\/(vals.all simpleR&&wnS sv')=true) :
    a.eval fn=.func (.func f) #[] #[]/\Calls P f ((x0::rest).toArray.map a.eval) w fun e w'=>∃ v L1,e=.returned v /\
      Rel P N (N+1) w0 A I (lendBack (if fz then frzAll ((rest.map (evS σ)).flatMap rootOf) σ else σ) r q sv') a w' L1 /\
      RelS P (Zof w0 A L1 w') L1 w' (tmOf a) (lendBack (if fz then frzAll ((rest.map (evS σ)).flatMap rootOf) σ else σ) r q sv') N v (resSV vals):=by
  obtain⟨hargs,hnt⟩:=ydz (R:=(rest.map (evS σ)).flatMap rootOf) hR hrt rest axs ha hp (fun r h=>h)
  have hx0:noTup (evS σ x0)=true:=by cases h:evS σ x0 <;> simp_all [noTup,lendOf]
  obtain⟨hown,hlent,hcase⟩:=yvq1 hR (ysh hR 0 x0 hx0) hl
  obtain⟨vs,hfv,hvs⟩:=yrk1 (R:=(rest.map (evS σ)).flatMap rootOf) hR hf
  have hvs0:vs=#[]:=by
    cases hl:vs.toList with
    | nil=>simpa using hl
    | cons y l=>rw[hl] at hvs;exact hvs.elim
  subst hvs0;refine⟨hfv,?_⟩
  have hrN:r<N:=by
    rcases Nat.lt_or_ge r N with h | h
    · exact h
    · rw[hR.out r h] at hown;cases hown
  have hlow:∀ b,Reads w0 A L w ((rest.map (evS σ)).flatMap rootOf) b->b<w.heap.size/\lendL L r q b=none:=by
    rintro b (h | ⟨s,hs,p,_,h⟩)
    · exact⟨h.2.1,yse1 h.1⟩
    · exact⟨(hR.lab b _ h).1,yft h (fun e=>hrR (e▸hs))⟩
  have hc:=hm.2 w (Reads w0 A L w ((rest.map (evS σ)).flatMap rootOf)) (lendL L r q) (a.eval x0) (rest.map a.eval) ⟨hlow,(ytw hR).mono fun b h=>⟨.inl h,rfl⟩⟩
    (fun b l h=>by obtain⟨p,t,h1,_,rfl⟩:=yth h;exact⟨(hR.lab b _ h1).1,rfl⟩)
    (fun b b' l h h'=>by
      obtain⟨p,t,h1,h2,rfl⟩:=yth h;obtain⟨p',t',h1',h2',e⟩:=yth h'
      simp at e
      subst e;have:=(ygp h2).symm.trans (ygp h2')
      simp at this
      subst this;exact hR.inj _ _ _ h1 h1')
    (hlent.keep (fun b hb=>⟨.inl hb,rfl⟩) fun b q hb=>⟨hb,rfl⟩) hargs.rep
  rw[show((x0::rest).toArray.map a.eval)=(a.eval x0::rest.map a.eval).toArray from by simp];refine hc.mono ?_
  rintro e w' ⟨v,Lr,rfl,hpost⟩
  have hst:∃ Lf,Rel P N N w0 A I (if fz then frzAll ((rest.map (evS σ)).flatMap rootOf) σ else σ) a w Lf/\(fz=true->∀ b,Reads w0 A L w ((rest.map (evS σ)).flatMap rootOf) b->Zof w0 A Lf w b) /\
      (∀ b l,Lf b=some l->L b=some l)/\(∀ b p,L b=some (r,p)->Lf b=some (r,p)):=by
    cases fz with
    | false=>exact⟨L,hR,fun h=>(by cases h),fun _ _ h=>h,fun _ _ h=>h⟩
    | true =>
      obtain⟨L',h1,h2,h3,h4,h5⟩:=ycz hR _ hnt;refine⟨L',h1,fun _ b hb=>?_,h5,fun b p h=>h4 r hrR b p h⟩
      rcases hb with h | ⟨s,hs,p,hp,h⟩
      · exact h2 b h
      · exact h3 s hs p b hp h
  obtain⟨Lf,hRf,hzf,hfL,hrL⟩:=hst;have hσr:(if fz then frzAll ((rest.map (evS σ)).flatMap rootOf) σ else σ) r=σ r:=by
    cases fz with
    | false=>rfl
    | true=>exact ywq1 hrR hown
  generalize (if fz then frzAll ((rest.map (evS σ)).flatMap rootOf) σ else σ)=σ1 at hRf hσr ⊢
  have hsz:=hR.ev.size;have hsz':=hpost.ev.size
  -- what is lent or new
  have hX:∀ b,lentB L w r q b=true↔(lendL L r q b≠none\/w.heap.size<=b):=fun b=>by
    simp[lentB,Option.isSome_iff_ne_none]
  have hXf:∀ b,lentB L w r q b=false->lendL L r q b=none/\b<w.heap.size:=fun b h=>by
    have h1:¬ (lendL L r q b≠none\/w.heap.size<=b):=fun h2=>by rw[(hX b).2 h2] at h;cases h
    refine⟨Classical.byContradiction fun h2=>h1 (.inl h2),by omega⟩
  have hfX:∀ b,lendL L r q b=none->b<w.heap.size->lentB L w r q b=false:=fun b h1 h2=>by
    cases h:lentB L w r q b with
    | false=>rfl
    | true => rcases (hX b).1 h with h3 | h3
              · exact absurd h1 h3
              · omega
  have hheap:∀ b,lentB L w r q b=false->w'.heap[b]?=w.heap[b]?:=fun b h=>hpost.ev.block b (hXf b h).2 fun h2=>h2 (hXf b h).1
  have hback:∀ b,lentB L w r q b=false->lendF L Lf Lr w N r q b=Lf b:=fun b h=>by simp[lendF,h]
  have hcome:∀ b,lentB L w r q b=true->lendF L Lf Lr w N r q b=lendR N r q Lr b:=fun b h=>by simp[lendF,h]
  have hLr:∀ b l,Lr b=some l->b<w'.heap.size/\lentB L w r q b=true:=fun b l h=>by
    have:=hpost.lab b l h
    refine⟨this.1,(hX b).2 ?_⟩
    rcases this.2 with h | h
    · exact .inr h
    · exact .inl h
  have hpos:∀ b,lentB L w r q b=true->w0.heap.size<=b\/b∈I:=fun b h=>by
    rcases(hX b).1 h with h1 | h1
    · cases hl:lendL L r q b with
      | none=>exact absurd hl h1
      | some l =>
        obtain⟨p,t,h2,_,_⟩:=yth hl;exact(hR.lab b _ h2).2.1
    · exact .inl (by omega)
  have hother:∀ b s p,s≠r->Lf b=some (s,p)->lentB L w r q b=false:=fun b s p hs h =>
    hfX b (yft (hfL b _ h) hs) (hRf.lab b _ h).1
  have hz:∀ b,Zof w0 A Lf w b->Zof w0 A (lendF L Lf Lr w N r q) w' b/\w'.heap[b]?=w.heap[b]?:=fun b ⟨h1,h2,h3⟩=>by
    have h4:lentB L w r q b=false:=hfX b (by
      cases hl:lendL L r q b with
      | none=>rfl
      | some l =>
        obtain⟨p,t,h5,_,_⟩:=yth hl;rw[hrL b p h5] at h1;cases h1) h2
    exact⟨⟨by rw[hback b h4];exact h1,by omega,h3⟩,hheap b h4⟩
  have hlabk:∀ s,s≠r->∀ b p,Lf b=some (s,p)->lendF L Lf Lr w N r q b=some (s,p)/\w'.heap[b]?=w.heap[b]?:=fun s hs b p h=>by
    have h4:=hother b s p hs h;exact⟨by rw[hback b h4];exact h,hheap b h4⟩
  -- what is handed back,as the caller sees it
  have hZZ:fz=true->∀ b,(Lr b=none/\b<w'.heap.size/\((Reads w0 A L w ((rest.map (evS σ)).flatMap rootOf) b\/lendL L r q b≠none)\/w.heap.size<=b))->Zof w0 A (lendF L Lf Lr w N r q) w' b:=by
    rintro hfz b ⟨h1,h2,h3⟩
    cases hlb:lentB L w r q b with
    | true =>
      refine⟨by rw[hcome b hlb];simp[lendR,h1],h2,?_⟩
      rcases hpos b hlb with h | h
      · exact .inr h
      · exact .inl (hR.hA.2 b h)
    | false =>
      have h4:=hXf b hlb;rcases h3 with(h3 | h3) | h3
      · have:=hzf hfz b h3
        exact⟨by rw[hback b hlb];exact this.1,h2,this.2.2⟩
      · exact absurd h4.1 h3
      · omega
  have hret0:∀ b p x,unstripQ q p=some x->Lr b=some (0,p)->lendF L Lf Lr w N r q b=some (r,x):=fun b p x h1 h2=>by
    rw[hcome b (hLr b _ h2).2];simp[lendR,h2,h1]
  have hret1:∀ b p,Lr b=some (1,p)->lendF L Lf Lr w N r q b=some (N,p):=fun b p h2=>by
    rw[hcome b (hLr b _ h2).2];simp[lendR,h2]
  have hfzo:wnS sv'=true\/fz=true:=by
    rcases hfz with h | h
    · exact .inr h
    · simp only[Bool.and_eq_true] at h;exact .inl h.2
  have hback_r:lendBack σ1 r q sv' r=lendVal (σ r) q sv':=by simp only[lendBack,if_true,hσr]
  have hroot:∀ tm' σ',RelS P (Zof w0 A (lendF L Lf Lr w N r q) w') (lendF L Lf Lr w N r q) w' tm' σ' r (tmOf a r) (lendBack σ1 r q sv' r)/\isRoot (lendBack σ1 r q sv' r)=true/\isBox (lendBack σ1 r q sv' r)=isBox (σ r):=by
    intro tm' σ'
    rw[hback_r];rcases hcase with⟨rfl,hsv,htv⟩ | ⟨q1,q0,i,o,b0,arr,e,c,cs,g0,rfl,rfl,hcell⟩
    · simp only[lendVal]
      refine⟨?_,?_⟩
      · have h1:=hpost.out
        rw[htv] at h1;refine(h1.move ?_ fun b p hb=>hret0 b p p rfl hb).rel
        rcases hfzo with h | h
        · exact .inl h
        · exact .inr (hZZ h)
      · rw[hsv]
        exact yue1 hsm
    · cases sv' with
      | ov g' cs' =>
        simp only[lendSame,Bool.and_eq_true,beq_iff_eq,List.length_cons,List.length_nil] at hsm;obtain⟨⟨hgg,hlen⟩,hnb⟩:=hsm;subst hgg;obtain⟨c',rfl⟩:∃ c',cs'=[c']:=by
          match cs',hlen with
          | [c'],_=>exact⟨c',rfl⟩
        simp only[lendVal];refine⟨?_,yyu hown⟩
        have hq1:=hcell.path;subst hq1;have hund:∀ p,¬ under q0 i o 1 p->stripQ (some (q0++[(i,o)])) p=none:=fun p hp=>by
          simp only[stripQ,Option.map_eq_none_iff];cases hd:dropP (q0++[(i,o)]) p with
          | none=>rfl
          | some t =>
            exfalso
            refine hp ⟨0,t,by omega,?_⟩
            rw[dropP_iff.1 hd];simp
        have hout:∀ b p,Lf b=some (r,p)->¬ under q0 i o 1 p->lentB L w r (some (q0++[(i,o)])) b=false:=fun b p h1 h2 =>
          hfX b (ybi1 (hfL b _ h1) (hund p h2)) (hRf.lab b _ h1).1
        have S:SetUp P (Zof w0 A Lf w) Lf w (Zof w0 A (lendF L Lf Lr w N r (some (q0++[(i,o)]))) w') (lendF L Lf Lr w N r (some (q0++[(i,o)]))) w' r q0 i o [c'] (fun _=>(a.eval x0).cells.getD 0 undef):=by
          refine⟨hz,fun b p h1 h2=>?_,fun b p h1 h2 _=>hheap b (hout b p h1 h2),fun j c2 hj=>?_⟩
          · rw[hback b (hout b p h1 h2)];exact h1
          · cases j with
            | succ j=>simp at hj
            | zero =>
              simp at hj
              subst hj;have h1:=hpost.out.2 0 c' rfl
              have hlab':∀ b t,Lr b=some (0,[(0,0)]++t)->lendF L Lf Lr w N r (some (q0++[(i,o)])) b=some (r,(q0++[(i,o+0)])++t)/\w'.heap[b]?=w'.heap[b]?:=fun b t hb =>
                ⟨hret0 b _ _ (by simp[unstripQ]) hb,rfl⟩
              rcases hfzo with h | h
              · exact h1.move_own _ (yzh1 h (by simp)) hlab'
              · exact h1.move _ (fun b hb=>⟨hZZ h b hb,rfl⟩) hlab'
        have B:NewBlock P Lf w w' r q0 i o ([c']:List C).length (fun _=>(a.eval x0).cells.getD 0 undef):=by
          intro b2 arr2 e2 h3 h4;obtain rfl:=hR.inj _ _ _ (hfL _ _ h3) hcell.lab
          rw[hcell.heap] at h4;simp at h4
          obtain⟨rfl,rfl⟩:=h4;refine⟨arr,(hheap b2 (hout b2 q0 h3 (yvm (Nat.le_refl _)))).trans hcell.heap,rfl,fun k=>?_⟩
          split
          · rename_i hk
            have:k=i*esz P e+o:=by simp at hk;omega
            rw[this,Array.getD_eq_getD_getElem?,hcell.at'];rfl
          · rfl
        have:=yvc1 (σ':=σ') (tm':=tm') hRf (by rw[hσr];exact hown) S B (by rw[hσr];exact hcell.row) (by simp) (by simp) (fun h=>by rw[hσr];exact hcell.box h) hnb
        rw[hσr] at this;exact this
      | _=>simp[lendSame] at hsm
  refine⟨v,lendF L Lf Lr w N r q,rfl,⟨hRf.dfr,hRf.siz,⟨hpost.ev.os.trans hR.ev.os,hpost.ev.tape.trans hR.ev.tape,hpost.ev.output.trans hR.ev.output,by omega,fun b h1 h2=>?_⟩,fun b b' l h1 h2=>?_,fun b l h=>?_,fun s hs=>?_,hRf.hA,hRf.pin,fun s=>?_⟩,ytk1 ?_⟩
  · have h3:lentB L w r q b=false:=by
      cases h:lentB L w r q b with
      | false=>rfl
      | true => rcases hpos b h with h4 | h4
                · omega
                · exact absurd h4 h2
    exact(hheap b h3).trans (hR.ev.block b h1 h2)
  · cases hb:lentB L w r q b <;> cases hb':lentB L w r q b'
    · rw[hback b hb] at h1;rw[hback b' hb'] at h2;exact hRf.inj _ _ _ h1 h2
    · rw[hback b hb] at h1;rw[hcome b' hb'] at h2
      exfalso
      rcases yzi h2 with⟨p,x,g1,g2,rfl⟩ | ⟨p,g1,rfl⟩
      · have:=(hXf b hb).1
        rw[ydu (hfL b _ h1) (ylg g2)] at this;cases this
      · have:=(hRf.lab b _ h1).2.2;simp at this
    · rw[hback b' hb'] at h2;rw[hcome b hb] at h1
      exfalso
      rcases yzi h1 with⟨p,x,g1,g2,rfl⟩ | ⟨p,g1,rfl⟩
      · have:=(hXf b' hb').1
        rw[ydu (hfL b' _ h2) (ylg g2)] at this;cases this
      · have:=(hRf.lab b' _ h2).2.2;simp at this
    · rw[hcome b hb] at h1;rw[hcome b' hb'] at h2
      rcases yzi h1 with⟨p,x,g1,g2,rfl⟩ | ⟨p,g1,rfl⟩ <;> rcases yzi h2 with⟨p',x',g1',g2',e⟩ | ⟨p',g1',e⟩
      · simp at e
        subst e;have:=(ylg g2).symm.trans (ylg g2')
        simp at this
        subst this;exact hpost.inj _ _ _ g1 g1'
      · simp at e;omega
      · simp at e;omega
      · simp at e
        subst e;exact hpost.inj _ _ _ g1 g1'
  · cases hb:lentB L w r q b
    · rw[hback b hb] at h
      have:=hRf.lab b l h
      exact⟨by omega,this.2.1,by omega⟩
    · have h5:=hpos b hb
      rw[hcome b hb] at h;rcases yzi h with⟨p,x,g1,g2,rfl⟩ | ⟨p,g1,rfl⟩
      · exact⟨(hLr b _ g1).1,h5,by show r<N+1;omega⟩
      · exact⟨(hLr b _ g1).1,h5,by show N<N+1;omega⟩
  · have:s≠r:=by omega
    simp only[lendBack,if_neg this,hRf.out s (by omega)];rfl
  · by_cases hsr:s=r
    · subst hsr;exact(hroot _ _).1
    · have e1:lendBack σ1 r q sv' s=killLn r (σ1 s):=by simp[lendBack,hsr]
      rw[e1];have rootk:∀ x,isRoot (σ1 x)=true->isRoot (lendBack σ1 r q sv' x)=true/\isBox (lendBack σ1 r q sv' x)=isBox (σ1 x):=by
        intro x hx;by_cases hxr:x=r
        · subst hxr;rw[hσr];exact(hroot (tmOf a) σ1).2
        · simp only[lendBack,if_neg hxr,yij1 hx];exact⟨hx,trivial⟩
      have h0:=hRf.slot s;rcases yoo1 r (σ1 s) with h3 | ⟨h3,h4⟩
      · rw[h3];trivial
      · rw[h3]
        rcases h4 with h4 | ⟨o,h4⟩
        · refine h0.keep hz (fun b p _ hb=>hlabk s hsr b p hb) fun x hx hxr=>?_
          have hxr':x≠r:=fun h=>h4 (h▸hx)
          exact⟨hlabk x hxr',rfl,(rootk x hxr).1,(rootk x hxr).2⟩
        · rw[h4] at h0 ⊢
          obtain⟨h5,q0,i,o',b,arr,e,h6,h7,h8,h9,h10⟩:=h0;have hq0:q0=[]/\i=0/\o'=o:=by
            rcases q0 with _ | ⟨y,q0⟩
            · simp at h6;exact⟨rfl,h6.1.symm,h6.2.symm⟩
            · have:=congrArg List.length h6;simp at this
          obtain⟨rfl,rfl,rfl⟩:=hq0;have hbx:=h7 rfl;have hblk:∃ (arr':Array Value) (e':TypeId),lendF L Lf Lr w N r q b=some (r,[])/\w'.heap[b]?=some (.cells arr' e' (0,0)):=by
            rcases hcase with⟨rfl,hsv,htv⟩ | ⟨q1,q0,i,o,b0,arr0,e0,c,cs,g0,rfl,rfl,hcell⟩
            · rw[hσr,hsv] at hbx
              cases sv with
              | box cs0 =>
                cases sv' with
                | box cs' =>
                  obtain⟨b1,g1,g2,arr1,e1,g3,g4,_⟩:=hpost.out;obtain⟨b2,k1,k2⟩:=hlent;rw[k1] at g1;simp at g1
                  subst g1;have k3:=k2.1;obtain⟨p,t,m1,m2,m3⟩:=yth k3;simp[stripQ] at m2 m3
                  subst m2;subst m3;obtain rfl:=hR.inj _ _ _ (hfL _ _ h8) m1
                  exact⟨arr1,e1,hret0 b [] [] rfl g2,g3⟩
                | _=>simp[lendSame] at hsm
              | _=>cases hbx
            · have hq1:=hcell.path
              have h11:lentB L w r (some q1) b=false:=hfX b (ybi1 (hfL _ _ h8) (by
                simp only[stripQ,Option.map_eq_none_iff];cases hd:dropP q1 [] with
                | none=>rfl
                | some t=>have:=dropP_iff.1 hd;rw[hq1] at this;simp at this)) (hRf.lab b _ h8).1
              exact⟨arr,e,by rw[hback b h11];exact h8,(hheap b h11).trans h9⟩
          obtain⟨arr',e',k1,k2⟩:=hblk;exact⟨(rootk r h5).1,[],0,o',b,arr',e',rfl,fun _=>by rw[(rootk r h5).2];exact hbx,k1,k2,by rw[h10];simp⟩
  · have hmove : ∀ i v rv, rv ∈ vals → RVat P (fun b => Lr b = none ∧ b < w'.heap.size ∧ ((Reads w0 A L w ((rest.map (evS σ)).flatMap rootOf) b ∨ lendL L r q b ≠ none) ∨ w.heap.size ≤ b)) Lr w' 1 i v rv →
        RVat P (Zof w0 A (lendF L Lf Lr w N r q) w') (lendF L Lf Lr w N r q) w' N i v rv:=by
      intro i v rv hr h;refine ysk1 (B:=0) (tm:=tmOf a) (σ:=σ) h ?_ (fun _ _ _=>trivial) fun b j p hb=>hret1 b _ hb
      rcases hfz with hfz | hall
      · exact .inr (hZZ hfz)
      · simp only[Bool.and_eq_true] at hall
        exact .inl (List.all_eq_true.1 hall.1 rv hr)
    have hval:=hpost.val;match vals,hval with
    | [rv],hval=>exact hmove 0 v rv (by simp) hval
    | [],hval=>exact hval.imp fun arr h=>⟨h.1,h.2.1,fun j r hj=>by simp at hj⟩
    | r1::r2::l,hval =>
      exact hval.imp fun arr h=>⟨h.1,h.2.1,fun j r hj=>hmove j _ r (List.mem_of_getElem? hj) (h.2.2 j r hj)⟩
end Go.PV

/-
 A walk over pure values: calls that use up what is lent to them are sound.
 Conditions: none.
-/
namespace Go.PV
variable {P:Program} {N:Nat} {w0:World} {A:Nat->Prop} {I:Bor}
theorem yfz1 {σ:St} {a:Act} {w:World} {L:Lab} (hR:Rel P N N w0 A I σ a w L) {fn x0:Operand} {rest:List Operand} {f:FuncId} {axs:List Arg} {vals:List RV} {sv:SV} {r:Nat}
    (hf:sOp.fnOf (evS σ fn)=some (f,[])) {rt:Nat->SV} (hrt:∀ r,rt r=σ r\/rt r=.u) (hl:lendOf σ (evS σ x0)=some (r,none,sv)) (ha:toArgs rt (rest.map (evS σ))=some axs) (hp:sOp.noPtr axs=true)
    (hrR:r∉(rest.map (evS σ)).flatMap rootOf) (hm:MeetsB P f sv axs vals .u) {fz:Bool} (hfz:fz=true\/vals.all simpleR=true) :
    a.eval fn=.func (.func f) #[] #[]/\Calls P f ((x0::rest).toArray.map a.eval) w fun e w'=>∃ v L1,e=.returned v /\
      Rel P N (N+1) w0 A I (gone (if fz then frzAll ((rest.map (evS σ)).flatMap rootOf) σ else σ) r) a w' L1 /\
      RelS P (Zof w0 A L1 w') L1 w' (tmOf a) (gone (if fz then frzAll ((rest.map (evS σ)).flatMap rootOf) σ else σ) r) N v (resSV vals):=by
  obtain⟨hargs,hnt⟩:=ydz (R:=(rest.map (evS σ)).flatMap rootOf) hR hrt rest axs ha hp (fun r h=>h)
  have hx0:noTup (evS σ x0)=true:=by cases h:evS σ x0 <;> simp_all [noTup,lendOf]
  obtain⟨hown,hlent,hcase⟩:=yvq1 hR (ysh hR 0 x0 hx0) hl
  obtain⟨vs,hfv,hvs⟩:=yrk1 (R:=(rest.map (evS σ)).flatMap rootOf) hR hf
  have hvs0:vs=#[]:=by
    cases hl:vs.toList with
    | nil=>simpa using hl
    | cons y l=>rw[hl] at hvs;exact hvs.elim
  subst hvs0;refine⟨hfv,?_⟩
  have hrN:r<N:=by
    rcases Nat.lt_or_ge r N with h | h
    · exact h
    · rw[hR.out r h] at hown;cases hown
  have hlow:∀ b,Reads w0 A L w ((rest.map (evS σ)).flatMap rootOf) b->b<w.heap.size/\lendL L r none b=none:=by
    rintro b (h | ⟨s,hs,p,_,h⟩)
    · exact⟨h.2.1,yse1 h.1⟩
    · exact⟨(hR.lab b _ h).1,yft h (fun e=>hrR (e▸hs))⟩
  have hc:=hm.2 w (Reads w0 A L w ((rest.map (evS σ)).flatMap rootOf)) (lendL L r none) (a.eval x0) (rest.map a.eval) ⟨hlow,(ytw hR).mono fun b h=>⟨.inl h,rfl⟩⟩
    (fun b l h=>by obtain⟨p,t,h1,_,rfl⟩:=yth h;exact⟨(hR.lab b _ h1).1,rfl⟩)
    (fun b b' l h h'=>by
      obtain⟨p,t,h1,h2,rfl⟩:=yth h;obtain⟨p',t',h1',h2',e⟩:=yth h'
      simp at e
      subst e;have:=(ygp h2).symm.trans (ygp h2')
      simp at this
      subst this;exact hR.inj _ _ _ h1 h1')
    (hlent.keep (fun b hb=>⟨.inl hb,rfl⟩) fun b q hb=>⟨hb,rfl⟩) hargs.rep
  rw[show((x0::rest).toArray.map a.eval)=(a.eval x0::rest.map a.eval).toArray from by simp];refine hc.mono ?_
  rintro e w' ⟨v,Lr,rfl,hpost⟩
  have hst:∃ Lf,Rel P N N w0 A I (if fz then frzAll ((rest.map (evS σ)).flatMap rootOf) σ else σ) a w Lf/\(fz=true->∀ b,Reads w0 A L w ((rest.map (evS σ)).flatMap rootOf) b->Zof w0 A Lf w b) /\
      (∀ b l,Lf b=some l->L b=some l)/\(∀ b p,L b=some (r,p)->Lf b=some (r,p)):=by
    cases fz with
    | false=>exact⟨L,hR,fun h=>(by cases h),fun _ _ h=>h,fun _ _ h=>h⟩
    | true =>
      obtain⟨L',h1,h2,h3,h4,h5⟩:=ycz hR _ hnt;refine⟨L',h1,fun _ b hb=>?_,h5,fun b p h=>h4 r hrR b p h⟩
      rcases hb with h | ⟨s,hs,p,hp,h⟩
      · exact h2 b h
      · exact h3 s hs p b hp h
  obtain⟨Lf,hRf,hzf,hfL,hrL⟩:=hst;have hσr:(if fz then frzAll ((rest.map (evS σ)).flatMap rootOf) σ else σ) r=σ r:=by
    cases fz with
    | false=>rfl
    | true=>exact ywq1 hrR hown
  generalize (if fz then frzAll ((rest.map (evS σ)).flatMap rootOf) σ else σ)=σ1 at hRf hσr ⊢
  have hsz:=hR.ev.size;have hsz':=hpost.ev.size
  -- what is lent or new
  have hX:∀ b,lentB L w r none b=true↔(lendL L r none b≠none\/w.heap.size<=b):=fun b=>by
    simp[lentB,Option.isSome_iff_ne_none]
  have hXf:∀ b,lentB L w r none b=false->lendL L r none b=none/\b<w.heap.size:=fun b h=>by
    have h1:¬ (lendL L r none b≠none\/w.heap.size<=b):=fun h2=>by rw[(hX b).2 h2] at h;cases h
    refine⟨Classical.byContradiction fun h2=>h1 (.inl h2),by omega⟩
  have hfX:∀ b,lendL L r none b=none->b<w.heap.size->lentB L w r none b=false:=fun b h1 h2=>by
    cases h:lentB L w r none b with
    | false=>rfl
    | true => rcases (hX b).1 h with h3 | h3
              · exact absurd h1 h3
              · omega
  have hheap:∀ b,lentB L w r none b=false->w'.heap[b]?=w.heap[b]?:=fun b h=>hpost.ev.block b (hXf b h).2 fun h2=>h2 (hXf b h).1
  have hback:∀ b,lentB L w r none b=false->lendF L Lf Lr w N r none b=Lf b:=fun b h=>by simp[lendF,h]
  have hcome:∀ b,lentB L w r none b=true->lendF L Lf Lr w N r none b=lendR N r none Lr b:=fun b h=>by simp[lendF,h]
  have hLr:∀ b l,Lr b=some l->b<w'.heap.size/\lentB L w r none b=true:=fun b l h=>by
    have:=hpost.lab b l h
    refine⟨this.1,(hX b).2 ?_⟩
    rcases this.2 with h | h
    · exact .inr h
    · exact .inl h
  have hpos:∀ b,lentB L w r none b=true->w0.heap.size<=b\/b∈I:=fun b h=>by
    rcases(hX b).1 h with h1 | h1
    · cases hl:lendL L r none b with
      | none=>exact absurd hl h1
      | some l =>
        obtain⟨p,t,h2,_,_⟩:=yth hl;exact(hR.lab b _ h2).2.1
    · exact .inl (by omega)
  have hother:∀ b s p,s≠r->Lf b=some (s,p)->lentB L w r none b=false:=fun b s p hs h =>
    hfX b (yft (hfL b _ h) hs) (hRf.lab b _ h).1
  have hz:∀ b,Zof w0 A Lf w b->Zof w0 A (lendF L Lf Lr w N r none) w' b/\w'.heap[b]?=w.heap[b]?:=fun b ⟨h1,h2,h3⟩=>by
    have h4:lentB L w r none b=false:=hfX b (by
      cases hl:lendL L r none b with
      | none=>rfl
      | some l =>
        obtain⟨p,t,h5,_,_⟩:=yth hl;rw[hrL b p h5] at h1;cases h1) h2
    exact⟨⟨by rw[hback b h4];exact h1,by omega,h3⟩,hheap b h4⟩
  have hlabk:∀ s,s≠r->∀ b p,Lf b=some (s,p)->lendF L Lf Lr w N r none b=some (s,p)/\w'.heap[b]?=w.heap[b]?:=fun s hs b p h=>by
    have h4:=hother b s p hs h;exact⟨by rw[hback b h4];exact h,hheap b h4⟩
  -- what is handed back,as the caller sees it
  have hZZ:fz=true->∀ b,(Lr b=none/\b<w'.heap.size/\((Reads w0 A L w ((rest.map (evS σ)).flatMap rootOf) b\/lendL L r none b≠none)\/w.heap.size<=b))->Zof w0 A (lendF L Lf Lr w N r none) w' b:=by
    rintro hfz b ⟨h1,h2,h3⟩
    cases hlb:lentB L w r none b with
    | true =>
      refine⟨by rw[hcome b hlb];simp[lendR,h1],h2,?_⟩
      rcases hpos b hlb with h | h
      · exact .inr h
      · exact .inl (hR.hA.2 b h)
    | false =>
      have h4:=hXf b hlb;rcases h3 with(h3 | h3) | h3
      · have:=hzf hfz b h3
        exact⟨by rw[hback b hlb];exact this.1,h2,this.2.2⟩
      · exact absurd h4.1 h3
      · omega
  have hret0:∀ b p x,unstripQ none p=some x->Lr b=some (0,p)->lendF L Lf Lr w N r none b=some (r,x):=fun b p x h1 h2=>by
    rw[hcome b (hLr b _ h2).2];simp[lendR,h2,h1]
  have hret1:∀ b p,Lr b=some (1,p)->lendF L Lf Lr w N r none b=some (N,p):=fun b p h2=>by
    rw[hcome b (hLr b _ h2).2];simp[lendR,h2]
  refine⟨v,lendF L Lf Lr w N r none,rfl,⟨hRf.dfr,hRf.siz,⟨hpost.ev.os.trans hR.ev.os,hpost.ev.tape.trans hR.ev.tape,hpost.ev.output.trans hR.ev.output,by omega,fun b h1 h2=>?_⟩,fun b b' l h1 h2=>?_,fun b l h=>?_,fun s hs=>?_,hRf.hA,hRf.pin,fun s=>?_⟩,ytk1 ?_⟩
  · have h3:lentB L w r none b=false:=by
      cases h:lentB L w r none b with
      | false=>rfl
      | true => rcases hpos b h with h4 | h4
                · omega
                · exact absurd h4 h2
    exact(hheap b h3).trans (hR.ev.block b h1 h2)
  · cases hb:lentB L w r none b <;> cases hb':lentB L w r none b'
    · rw[hback b hb] at h1;rw[hback b' hb'] at h2;exact hRf.inj _ _ _ h1 h2
    · rw[hback b hb] at h1;rw[hcome b' hb'] at h2
      exfalso
      rcases yzi h2 with⟨p,x,g1,g2,rfl⟩ | ⟨p,g1,rfl⟩
      · have:=(hXf b hb).1
        rw[ydu (hfL b _ h1) (ylg g2)] at this;cases this
      · have:=(hRf.lab b _ h1).2.2;simp at this
    · rw[hback b' hb'] at h2;rw[hcome b hb] at h1
      exfalso
      rcases yzi h1 with⟨p,x,g1,g2,rfl⟩ | ⟨p,g1,rfl⟩
      · have:=(hXf b' hb').1
        rw[ydu (hfL b' _ h2) (ylg g2)] at this;cases this
      · have:=(hRf.lab b' _ h2).2.2;simp at this
    · rw[hcome b hb] at h1;rw[hcome b' hb'] at h2
      rcases yzi h1 with⟨p,x,g1,g2,rfl⟩ | ⟨p,g1,rfl⟩ <;> rcases yzi h2 with⟨p',x',g1',g2',e⟩ | ⟨p',g1',e⟩
      · simp at e
        subst e;have:=(ylg g2).symm.trans (ylg g2')
        simp at this
        subst this;exact hpost.inj _ _ _ g1 g1'
      · simp at e;omega
      · simp at e;omega
      · simp at e
        subst e;exact hpost.inj _ _ _ g1 g1'
  · cases hb:lentB L w r none b
    · rw[hback b hb] at h
      have:=hRf.lab b l h
      exact⟨by omega,this.2.1,by omega⟩
    · have h5:=hpos b hb
      rw[hcome b hb] at h;rcases yzi h with⟨p,x,g1,g2,rfl⟩ | ⟨p,g1,rfl⟩
      · exact⟨(hLr b _ g1).1,h5,by show r<N+1;omega⟩
      · exact⟨(hLr b _ g1).1,h5,by show N<N+1;omega⟩
  · have:s≠r:=by omega
    simp only[gone,if_neg this,hRf.out s (by omega)];rfl
  · by_cases hsr:s=r
    · subst hsr;simp only[gone,if_true];trivial
    · simp only[gone,if_neg hsr]
      have h0:=hRf.slot s;rcases ymm r (σ1 s) with⟨h3,h4⟩ | h3
      · rw[h3]
        refine h0.keep hz (fun b p _ hb=>hlabk s hsr b p hb) fun x hx hxr=>?_
        have hxr':x≠r:=fun h=>h4 (h▸hx)
        have hk:gone σ1 r x=σ1 x:=by simp only[gone,if_neg hxr'];exact yii hxr
        exact⟨hlabk x hxr',rfl,by rw[hk];exact hxr,by rw[hk]⟩
      · rw[h3];trivial
  · have hmove : ∀ i v rv, rv ∈ vals → RVat P (fun b => Lr b = none ∧ b < w'.heap.size ∧ ((Reads w0 A L w ((rest.map (evS σ)).flatMap rootOf) b ∨ lendL L r none b ≠ none) ∨ w.heap.size ≤ b)) Lr w' 1 i v rv →
        RVat P (Zof w0 A (lendF L Lf Lr w N r none) w') (lendF L Lf Lr w N r none) w' N i v rv:=by
      intro i v rv hr h;refine ysk1 (B:=0) (tm:=tmOf a) (σ:=σ) h ?_ (fun _ _ _=>trivial) fun b j p hb=>hret1 b _ hb
      rcases hfz with hfz | hall
      · exact .inr (hZZ hfz)
      · exact .inl (List.all_eq_true.1 hall rv hr)
    have hval:=hpost.val;match vals,hval with
    | [rv],hval=>exact hmove 0 v rv (by simp) hval
    | [],hval=>exact hval.imp fun arr h=>⟨h.1,h.2.1,fun j r hj=>by simp at hj⟩
    | r1::r2::l,hval =>
      exact hval.imp fun arr h=>⟨h.1,h.2.1,fun j r hj=>hmove j _ r (List.mem_of_getElem? hj) (h.2.2 j r hj)⟩
end Go.PV

/-
 A walk over pure values: a string's bytes appended to what is owned.
 Conditions: none.
-/
set_option linter.all false
namespace Go.PV
variable {P:Program} {N:Nat} {w0:World} {A:Nat->Prop} {I:Bor}
theorem ygs {t t' ty e:TypeId} {i:TypeInfo} (hu:P.underlying t=some (.slice e)) (hu':P.underlying t'=some .string) (hi:P.info? e=some i) (w:World) (b:ByteArray) (h0:b.size=0) :
  (Builtin.append_ #[t,t'] ty #[.slice none 0 0,.string b]).run P w=.ok (.slice none 0 0) w:=by
 have hf:(Builtin.firstCells i.size 0 (.string b)).run P w=.ok #[] w:=by simp[Builtin.firstCells]
 simp[Builtin.append_,run_underlying hu,run_underlying hu',sizeOf,typeInfo,hi,Builtin.lenOf,h0,hf]
theorem yrg1 {b:ByteArray} {i:Nat} (h:i<b.size):(Lib.strCells b)[i]?=some (.int .u8 ((b.data.toList[i]'(by rw[Array.length_toList];exact h)).toNat:Int)):=by
 unfold Lib.strCells
 rw[List.getElem?_map,List.getElem?_eq_getElem (by rw[Array.length_toList];exact h)]
 rfl
theorem ybl1 {b:ByteArray} {i o:Nat} {row:List C} {c:C} (h1:(bytesR b)[i]?=some row) (h2:row[o]?=some c):o=0/\∃ h:i<b.size,c=.raw (.int .u8 ((b.data.toList[i]'(by rw[Array.length_toList];exact h)).toNat:Int)):=by
 unfold bytesR at h1
 rw[List.getElem?_map] at h1
 cases hb:b.data.toList[i]? with
 | none=>rw[hb] at h1;cases h1
 | some x =>
  rw[hb] at h1;simp only[Option.map_some,Option.some.injEq] at h1;subst h1;have ho:o=0:=by
   cases o with
   | zero=>rfl
   | succ o=>simp at h2
  subst ho;simp only[List.getElem?_cons_zero,Option.some.injEq] at h2;subst h2;obtain⟨h3,h4⟩:=List.getElem?_eq_some_iff.1 hb
  exact⟨rfl,by rw[Array.length_toList] at h3;exact h3,by rw[h4]⟩
theorem yio (b:ByteArray):(bytesR b).length=b.size:=by
 unfold bytesR
 rw[List.length_map,Array.length_toList]
 rfl
theorem yve1 {σ:St} {a:Act} {w:World} {L:Lab} (hR:Rel P N N w0 A I σ a w L) {t t' ty e:TypeId} {r:Nat} {rows:List (List C)} {s:ByteArray} (hE:slE P t=some (e,1)) (ht':P.underlying t'=some .string) (hb:apE P e=true)
  (hr:σ r=.ov false [.sl (some e) rows]) (hlen:rows.length+s.size<=1099511627776) :
  ∃ v w' L1,(Builtin.append_ #[t,t'] ty #[tmOf a r,.string s]).run P w=.ok v w'/\Rel P N (N+1) w0 A I (gone σ r) a w' L1 /\
   RelS P (Zof w0 A L1 w') L1 w' (tmOf a) (gone σ r) N v (.ov false [.sl (some e) (rows++bytesR s)]):=by
 have hrN:r<N:=by
  rcases Nat.lt_or_ge r N with h | h
  ·exact h
  rw[hR.out r h] at hr;cases hr
 obtain⟨i,hu0,hi,hsz,hes⟩:=yrk hE
 obtain⟨i',z,hi',hz,hby,hzs⟩:=ywc1 hb
 rw[hi] at hi'
 obtain rfl:=Option.some.inj hi'
 have hslot:=hR.slot r
 rw[hr] at hslot
 have hrep:=hslot.2 0 _ rfl
 have hcell:(tmOf a r).cells=#[tmOf a r]:=hslot.1.1
 have hrep:Rep P (Zof w0 A L w) L w r [(0,0)] (tmOf a r) (.sl (some e) rows):=by
  have h1:(tmOf a r).cells.getD 0 undef=tmOf a r:=by rw[hcell];rfl
  rw[← h1];exact hrep
 have hσ:∀ x,gone σ r x=.u\/(gone σ r x=σ x/\¬ (some r=some x\/(none:Option Nat)=some x)/\∀ y,refOf (σ x)=some y->¬ (some r=some y\/(none:Option Nat)=some y)):=by
  intro x;simp only[gone];by_cases hsr:x=r
  ·left;rw[if_pos hsr]
  rw[if_neg hsr];rcases ymm r (σ x) with⟨h4,h5⟩ | h4
  ·right
   refine⟨h4,?_,fun y hy=>?_⟩
   ·rintro(h | h)
    ·simp at h;exact hsr h.symm
    cases h
   rintro(h | h)
   ·simp at h;subst h;exact h5 hy
   cases h
  left;exact h4
 have hroot:∀ x,isRoot (σ x)=true->¬ (some r=some x\/(none:Option Nat)=some x)->gone σ r x=σ x:=by
  intro x hx hn;have h1:x≠r:=fun h=>hn (.inl (by rw[h]))
  simp only[gone,if_neg h1];rw[yii hx]
 have hbytes:(rows.length+s.size)*i.bytes<=140737488355328:=by
  calc (rows.length+s.size)*i.bytes<=1099511627776*128:=Nat.mul_le_mul hlen hby
   _=140737488355328:=by decide
 have hu2:∀ row∈bytesR s,row.length=esz P e:=by
  intro row hrow;unfold bytesR at hrow;obtain⟨x,_,rfl⟩:=List.mem_map.1 hrow;rw[hes];rfl
 have hl2:(Lib.strCells s).length=s.size:=Lib.strCells_length s
 have hk2:∀ (arr':Array Value),(∀ i1,i1<s.size->arr'[rows.length+i1]?=(Lib.strCells s)[i1]?)->∀ (i:Nat) (row:List C) (o:Nat) (c:C),(bytesR s)[i]?=some row->row[o]?=some c ->
   (Frz (Zof w0 A L w) w (arr'.getD ((rows.length+i)*esz P e+o) undef) c)\/∃ x,(none:Option Nat)=some x/\Rep P (Zof w0 A L w) L w x [(0,0),(i,o)] (arr'.getD ((rows.length+i)*esz P e+o) undef) c:=by
  intro arr' heq i1 row o c h1 h2
  obtain⟨rfl,h3,rfl⟩:=ybl1 h1 h2;left
  have h4:(rows.length+i1)*esz P e+0=rows.length+i1:=by rw[hes];omega
  rw[h4,Array.getD_eq_getD_getElem?,heq i1 h3,yrg1 h3];exact .raw rfl
 rcases hrep.node with⟨hv0,hr0⟩ | ⟨b,arr,cap,hv0,hncap,hcm,hasz,hu,hnode⟩
 ·have hv0:tmOf a r=.slice none 0 0:=hv0
  subst hr0;by_cases h0:s.size=0
  ·have hrun:=ygs (ty:=ty) hu0 ht' hi w s h0
   have hbr:bytesR s=[]:=List.eq_nil_of_length_eq_zero (by rw[yio];exact h0)
   rw[hbr];refine⟨.slice none 0 0,w,_,by rw[hv0];exact hrun,hR.takeN r,⟨rfl,rfl⟩,fun j c hj=>?_⟩
   cases j with
   | zero=>simp at hj;subst hj;exact .onil
   | succ j=>simp at hj
  have hrun:=run_append_nil_string (P:=P) w t t' ty e i z hu0 ht' hi hz s (by omega) (by simp at hlen;omega) (by simp at hbytes;omega)
  have hge:=grownCap_ge w s.size 0 e;have hle:=grownCap_le_maxLen w s.size 0 e (by simp[maxLen];simp at hlen;omega)
  generalize hgc:grownCap w s.size 0 e=gc at hrun hge hle
  have hA1:(s.data.map (fun b=>Value.int .u8 (b.toNat:Int))).toList=Lib.strCells s:=by
   unfold Lib.strCells;rw[Array.toList_map]
  have hA2:(s.data.map (fun b=>Value.int .u8 (b.toNat:Int)))=(Lib.strCells s).toArray:=by rw[← hA1]
  rw[hA2] at hrun;generalize hA':(Lib.strCells s).toArray++Builtin.zeroCells z.cells (gc-s.size)=arr' at hrun
  have hasz2:arr'.size=gc*esz P e:=by
   rw[← hA',Array.size_append,List.size_toArray,hl2,size_zeroCells,hzs,hsz,hes];omega
  obtain⟨L1,h1,h2⟩:=yqg1 (σ':=gone σ r) (w':=w.drew.alloc (.cells arr' e)) (r:=some r) (mv:=none) (rows:=[]) (rows2:=bytesR s) (g:=w.heap.size) (cap:=gc) (e:=e) (arr:=arr') hR (.inl rfl) rfl rfl rfl (by simp) (by simp)
   (.inl (Nat.le_refl _)) (fun b' hb' _=>heap_alloc_old w.drew _ b' hb') (yyd w.drew _) (by rw[yio];simpa using hge) hle hasz2 (by simp) hu2
   (fun i row o c h1=>by simp at h1)
   (hk2 arr' fun i1 h1=>by
    rw[← hA',List.length_nil,Nat.zero_add,Array.getElem?_append_left (by rw[List.size_toArray,hl2];exact h1),List.getElem?_toArray]) hσ hroot
  refine⟨.slice (some ⟨w.heap.size,0,none⟩) s.size gc,_,L1,?_,h1,?_⟩
  ·rw[hv0];exact hrun
  rw[yio] at h2;simpa using h2
 have hv0:tmOf a r=.slice (some ⟨b,0,none⟩) rows.length cap:=hv0
 have hbw:b<w.heap.size:=(hR.lab b _ hnode.lab).1
 have hk1:∀ (arr':Array Value),(∀ k,k<rows.length->arr'.getD k undef=arr.getD k undef)->∀ (i:Nat) (row:List C) (o:Nat) (c:C),rows[i]?=some row->row[o]?=some c ->
   ∃ x,some r=some x/\Rep P (Zof w0 A L w) L w x [(0,0),(i,o)] (arr'.getD (i*esz P e+o) undef) c:=by
  intro arr' heq i row o c h1 h2
  refine⟨r,rfl,?_⟩
  have hil:i<rows.length:=(List.getElem?_eq_some_iff.1 h1).1
  have hol:o<esz P e:=by have:=hu row (List.mem_of_getElem? h1);have:=(List.getElem?_eq_some_iff.1 h2).1;omega
  rw[heq _ (by rw[hes] at hol ⊢;omega)]
  simpa using hnode.kids i row o c h1 h2
 have hal:arr.size=cap:=by rw[hasz,hes];omega
 by_cases hroom:rows.length+s.size<=cap
 ·have hrun:=Lib.run_append_room_string (P:=P) w t t' ty e i hu0 ht' hi hsz b rows.length cap arr hnode.heap s hroom (by omega)
  rw[← hv0] at hrun;have hsp:=ygq (arr:=arr) (vs:=(Lib.strCells s).toArray) (off:=rows.length) (by simp[hl2];omega)
  have hvs:(Lib.strCells s).toArray.size=s.size:=by rw[List.size_toArray,hl2]
  rw[hvs] at hsp;simp only[List.toList_toArray] at hsp;generalize hA':(arr.toList.take rows.length++Lib.strCells s++arr.toList.drop (rows.length+s.size)).toArray=arr' at hrun hsp
  have hal2:arr.toList.length=cap:=hal
  have e1:(arr.toList.take rows.length).length=rows.length:=by rw[List.length_take,hal2];omega
  have hget:∀ i1,i1<s.size->arr'[rows.length+i1]?=(Lib.strCells s)[i1]?:=fun i1 h1=>by
   rw[← hA',List.getElem?_toArray,List.append_assoc,List.getElem?_append_right (by rw[e1];omega),e1]
   rw[show rows.length+i1-rows.length=i1 from by omega,List.getElem?_append_left (by rw[hl2];exact h1)]
  obtain⟨L1,h1,h2⟩:=yqg1 (σ':=gone σ r) (w':=w.setRow b arr') (r:=some r) (mv:=none) (rows:=rows) (rows2:=bytesR s) (g:=b) (cap:=cap) (e:=e) (arr:=arr') hR (.inl rfl) rfl rfl rfl (by simp) (by simpa using hbw)
   (.inr ⟨r,rfl,hnode.lab⟩) (fun b' _ hb'=>setRow_other w b b' arr' hb') (setRow_heap w b arr arr' e (0,0) hnode.heap) (by rw[yio];exact hroom) hcm (by rw[hsp.1];exact hasz) hu hu2
   (hk1 arr' fun k hk=>by rw[hsp.2,if_neg (by omega)])
   (hk2 arr' hget) hσ hroot
  refine⟨_,_,L1,hrun,h1,?_⟩
  rw[yio] at h2;exact h2
 have holds:∀ j v,(arr.toList.take (rows.length*i.size))[j]?=some v->w.cell? ((⟨b,0,none⟩:Addr).add j)=some v:=by
  intro j v hj;obtain⟨hj1,hj2⟩:=yho hj;rw[Addr.add_lit,Nat.zero_add];simp[World.cell?,hnode.heap]
  simpa using hj2
 have hlen2:(arr.toList.take (rows.length*i.size)).length=rows.length*i.size:=by
  rw[List.length_take,show arr.toList.length=arr.size from rfl,hal,hsz];omega
 have hrun:=Lib.run_append_grow_string (P:=P) w t t' ty e i z hu0 ht' hi hz ⟨b,0,none⟩ rows.length cap _ hlen2 holds s (by omega) (by omega) (growslice_fits (by omega) hbytes)
 rw[← hv0] at hrun
 have hge:=grownCap_ge w (rows.length+s.size) cap e
 have hle:=grownCap_le_maxLen w (rows.length+s.size) cap e (by simp[maxLen];omega)
 generalize hgc:grownCap w (rows.length+s.size) cap e=gc at hrun hge hle
 generalize hA':(arr.toList.take (rows.length*i.size)).toArray++(Lib.strCells s).toArray++Builtin.zeroCells z.cells (gc-(rows.length+s.size))=arr' at hrun
 have hl1:(arr.toList.take (rows.length*i.size)).length=rows.length:=by rw[hlen2,hsz];omega
 have hA1:((arr.toList.take (rows.length*i.size)).toArray++(Lib.strCells s).toArray).size=rows.length+s.size:=by
  rw[Array.size_append,List.size_toArray,List.size_toArray,hl1,hl2]
 have hasz2:arr'.size=gc*esz P e:=by
  rw[← hA',Array.size_append,hA1,size_zeroCells,hzs,hsz,hes];omega
 have hget:∀ k,k<rows.length+s.size->arr'[k]?=((arr.toList.take (rows.length*i.size)).toArray++(Lib.strCells s).toArray)[k]?:=fun k hk=>by
  rw[← hA',Array.getElem?_append_left (by rw[hA1];exact hk)]
 obtain⟨L1,h1,h2⟩:=yqg1 (σ':=gone σ r) (w':=w.drew.alloc (.cells arr' e)) (r:=some r) (mv:=none) (rows:=rows) (rows2:=bytesR s) (g:=w.heap.size) (cap:=gc) (e:=e) (arr:=arr') hR (.inl rfl) rfl rfl rfl (by simp) (by simp)
  (.inl (Nat.le_refl _)) (fun b' hb' _=>heap_alloc_old w.drew _ b' hb') (yyd w.drew _) (by rw[yio];exact hge) hle hasz2 hu hu2
  (hk1 arr' fun k hk=>by
   rw[Array.getD_eq_getD_getElem?,hget k (by omega),Array.getElem?_append_left (by rw[List.size_toArray,hl1];exact hk),List.getElem?_toArray,List.getElem?_take,if_pos (by rw[hsz];omega)]
   simp)
  (hk2 arr' fun i1 h1=>by
   rw[hget _ (by omega),Array.getElem?_append_right (by rw[List.size_toArray,hl1];omega),List.size_toArray,hl1]
   rw[show rows.length+i1-rows.length=i1 from by omega,List.getElem?_toArray]) hσ hroot
 refine⟨_,_,L1,hrun,h1,?_⟩
 rw[yio] at h2
 exact h2
end Go.PV

/-
 A walk over pure values: every operation is sound;regions.
 Conditions: none.
-/
namespace Go.PV
variable {P:Program} {N:Nat} {w0:World} {A:Nat->Prop} {I:Bor}
def toN1 (N:Nat):Path->Option (Nat×Path)
 | []=>none
 | x::q=>some (N,(0,0)::x::q)
theorem yys1 {σ:St} {a:Act} {w:World} {L:Lab} (hR:Rel P N N w0 A I σ a w L) {t e:TypeId} {sz r m:Nat} {x y:Operand} {k:IntKind} {rows:List (List C)} (hE:slE P t=some (e,sz))
  (hx:evS σ x=.ref r [(0,0)] none) (hσ:σ r=.ov false [.sl (some e) rows]) (hy:evS σ y=.p (.int k (m:Int))) (hle:m<=rows.length) :
  ∃ v L1,(Instr.sliceAt t (a.eval x) none (some (a.eval y)) none).run P w=.ok v w/\Rel P N (N+1) w0 A I (gone σ r) a w L1/\RelS P (Zof w0 A L1 w) L1 w (tmOf a) (gone σ r) N v (.ov false [.sl (some e) (rows.take m)]):=by
 obtain⟨inf,hu,hinf,hsz,hes⟩:=yrk hE
 have hyv:a.eval y=.int k (m:Int):=yjk1 hR hy
 have hs:=hR.slot r
 rw[hσ] at hs
 have hcell:(tmOf a r).cells=#[tmOf a r]:=hs.1.1
 have hrep:Rep P (Zof w0 A L w) L w r [(0,0)] ((tmOf a r).cells.getD 0 undef) (.sl (some e) rows):=hs.2 0 _ rfl
 rw[hcell] at hrep
 have hrep:Rep P (Zof w0 A L w) L w r [(0,0)] (tmOf a r) (.sl (some e) rows):=by simpa using hrep
 have hax:a.eval x=tmOf a r:=by
  have h1:=ysh hR 0 x (by rw[hx];rfl)
  rw[hx] at h1;rcases h1.2 with⟨_,_,h2⟩ | ⟨q0,i,o,b,arr,e',hq,hb,_⟩
  ·have h3:a.eval x=(tmOf a r).cells.getD 0 undef:=h2
   rw[h3,hcell];simp
  have:q0=[]:=by
   have:=congrArg List.length hq
   simp at this
   exact this
  have:=hb this
  rw[hσ] at this;cases this
 have hrun:∀ ad cap,tmOf a r=.slice ad rows.length cap->rows.length<=cap->(Instr.sliceAt t (a.eval x) none (some (a.eval y)) none).run P w=.ok (.slice ad m cap) w:=by
  intro ad cap hv hcap;have hb:(Instr.sliceBound (.int k (m:Int)) cap .sliceAcap).run P w=.ok m w:=by
   have:(m:Int)<=(cap:Int):=by omega
   simp[Instr.sliceBound,asIntOf,this]
  have hbounds:(Instr.sliceBounds true rows.length cap none (some (.int k (m:Int))) none).run P w=.ok (0,m,cap) w:=by
   simp[Instr.sliceBounds,hb]
  have hadd:(if cap=0 then ad else ad.map (·.add (0*inf.size)))=ad:=by
   split
   ·rfl
   cases ad <;> simp[Addr.add]
  rw[hax,hv,hyv];have:=hadd
  simp[Instr.sliceAt,run_underlying hu,Instr.slice,hbounds,sizeOf,typeInfo,hinf]
  intro _;cases ad <;> simp[Addr.add]
 rcases hrep.node with⟨hv,hr0⟩ | ⟨g,arr,cap,hv,hcap,hmax,ha,hu',hn⟩
 ·have hm0:m=0:=by rw[hr0] at hle;simpa using hle
  refine⟨_,_,hrun none 0 (by rw[hv,hr0];rfl) (by rw[hr0];simp),hR.takeN r,⟨rfl,rfl⟩,fun j c hj=>?_⟩
  cases j with
  | succ j=>simp at hj
  | zero =>
   simp at hj
   subst hj;rw[hm0];exact .onil
 refine⟨_,_,hrun _ cap hv hcap,hR.takeN r,⟨rfl,rfl⟩,fun j c hj=>?_⟩
 cases j with
 | succ j=>simp at hj
 | zero =>
  simp at hj
  subst hj;show Rep P _ _ w N [(0,0)] (.slice (some ⟨g,0,none⟩) m cap) _
  have hml:(rows.take m).length=m:=by rw[List.length_take];omega
  have key:Rep P (Zof w0 A (mapL L r (toN N)) w) (mapL L r (toN N)) w N [(0,0)] (.slice (some ⟨g,0,none⟩) (rows.take m).length cap) (.sl (some e) (rows.take m)):=by
   refine Rep.own (by simp[mapL,hn.lab,toN]) hn.heap (by omega) hmax ha (fun row hr=>hu' row (List.mem_of_mem_take hr)) fun i row o c h5 h6=>?_
   refine(hn.kids i row o c (yho h5).2 h6).move _ (fun b h=>⟨⟨by simp[mapL,h.1],h.2⟩,rfl⟩) fun b q hb=>⟨?_,rfl⟩
   simp[mapL,hb,toN]
  rw[hml] at key;exact key
theorem ypo1 {σ:St} {a:Act} {w:World} {L:Lab} (hR:Rel P N N w0 A I σ a w L) {t:TypeId} {r:Nat} {x:Operand} {cs:List C} {parts:Array (Nat×Operand)}
  (hp:parts.toList=[(0,x)]) (h1:oneF P t=some cs.length) (hm:mvCells σ (evS σ x)=some (cs,some r)) :
  ∃ v L1,(Instr.build t (parts.map fun (i,x)=>(i,a.eval x))).run P w=.ok v w/\Rel P N (N+1) w0 A I (gone σ r) a w L1/\RelS P (Zof w0 A L1 w) L1 w (tmOf a) (gone σ r) N v (.ov true cs):=by
 have hx:noTup (evS σ x)=true:=by cases hx:evS σ x <;> simp_all [noTup,mvCells]
 obtain⟨hsz,hv⟩:=yqy1 hR (ysh hR 0 x hx) hm
 rcases hv with⟨h,_⟩ | ⟨r',g,h,hr,htv,hf⟩
 ·cases h
 obtain rfl:=Option.some.inj h
 have hparts:parts=#[(0,x)]:=by rw[← hp]
 subst hparts
 unfold oneF at h1
 split at h1
 ·rename_i fs i hu hi
  split at h1
  ·rename_i f z hfs hz
   split at h1
   ·rename_i j hj
    split at h1
    ·rename_i hc
     simp only[Bool.and_eq_true,beq_iff_eq] at hc;obtain⟨c1,c2,c3⟩:=hc;have hn:i.size=cs.length:=Option.some.inj h1
     have hfs':fs=#[f]:=by rw[← hfs]
     -- what is laid
     have hex:∃ cells:Array Value,P.built t [(0,a.eval x)]=some cells/\cells.size=cs.length/\∀ j,j<cs.length->cells.getD j undef=(a.eval x).cells.getD j undef:=by
      have hb:(decide ((a.eval x).cells.size≠j.size)||decide (0+(a.eval x).cells.size>z.cells.size))=false:=by
       simp only[Bool.or_eq_false_iff,decide_eq_false_iff_not];omega
      unfold Program.built;rw[hi,hu];simp only[hz,hfs,List.mapM_cons,List.mapM_nil,hj,Option.map_some,Option.bind_eq_bind,Option.bind_some,Option.pure_def,Instr.fill,List.getElem?_toArray,List.getElem?_cons_zero,c1]
      rw[hb];simp only[Bool.false_eq_true,if_false];have hfold:∀ arr:Array Value,(a.eval x).cells.zipIdx.foldl (fun cs (c,j)=>cs.setIfInBounds (0+j) c) arr=((a.eval x).cells.toList.zipIdx 0).foldl (fun (cs:Array Value) (x:Value×Nat)=>cs.setIfInBounds (0+x.2) x.1) arr:=fun arr=>by
       rw[← Array.foldl_toList,Array.toList_zipIdx]
      obtain⟨e1,e2⟩:=yvu 0 (a.eval x).cells.toList 0 z.cells (by simp;omega)
      refine⟨_,rfl,?_,fun j hj=>?_⟩
      ·rw[hfold,e1];omega
      rw[hfold,Array.getD_eq_getD_getElem?,e2,if_pos (by simp;omega)]
      simp
     obtain⟨cells,hc1,hc2,hc3⟩:=hex;refine⟨.agg cells,mapL L r (toN N),run_build w t _ cells (by simpa using hc1),hR.takeN r,⟨cells,rfl,hc2⟩,fun k c hk=>?_⟩
     have hkl:k<cs.length:=(List.getElem?_eq_some_iff.1 hk).1
     show Rep P _ _ w N [(0,k)] (cells.getD k undef) c
     rw[hc3 k hkl];refine(hf k c hk).move [(0,k)] (fun b ⟨h2,h3,h4⟩=>⟨⟨by simp[mapL,h2],h3,h4⟩,rfl⟩) fun b q hb=>?_
     simp only[List.singleton_append] at hb ⊢;simp[mapL,hb,toN]
    cases h1
   cases h1
  cases h1
 cases h1
theorem yqo1 {σ:St} {a:Act} {w:World} {L:Lab} (hR:Rel P N N w0 A I σ a w L) {t e:TypeId} {sz r:Nat} {x:Operand} {cs:List C} {parts:Array (Nat×Operand)} (hE:slE P t=some (e,sz)) (hb:apE P e=true)
  (hp:parts.toList=[(0,x)]) (hm:mvCells σ (evS σ x)=some (cs,some r)) (hl:cs.length=sz) (h0:0<sz) (h16:sz<=16) :
  ∃ v w' L1,(Instr.buildSlice t 1 (parts.map fun (i,x)=>(i,a.eval x))).run P w=.ok v w'/\Rel P N (N+1) w0 A I (gone σ r) a w' L1/\RelS P (Zof w0 A L1 w') L1 w' (tmOf a) (gone σ r) N v (.ov false [.sl (some e) [cs]]) /\
   ∃ cells:Array Value,v=.slice (some ⟨w.heap.size,0,none⟩) 1 1/\w'=w.alloc (.cells cells e)/\cells.size=sz/\∀ j,j<sz->cells.getD j undef=(a.eval x).cells.getD j undef:=by
 obtain⟨i,hu,hi,hs,hes⟩:=yrk hE
 obtain⟨i',z,hi',hz,hby,hzs⟩:=ywc1 hb
 rw[hi] at hi'
 obtain rfl:=Option.some.inj hi'
 have hx:noTup (evS σ x)=true:=by cases hx:evS σ x <;> simp_all [noTup,mvCells]
 obtain⟨hsz,hv⟩:=yqy1 hR (ysh hR 0 x hx) hm
 rcases hv with⟨h,_⟩ | ⟨r',g,h,hr,htv,hf⟩
 ·cases h
 obtain rfl:=Option.some.inj h
 have hparts:parts=#[(0,x)]:=by rw[← hp]
 subst hparts
 have hcz:(a.eval x).cells.size=sz:=by omega
 -- what is laid
 have hex:∃ cells:Array Value,Instr.fill (fun i=>some (i*sz,sz)) ((Array.range (1*sz)).map (z.cells[· % z.cells.size]!)) [(0,a.eval x)]=some cells/\cells.size=sz/\∀ j,j<sz->cells.getD j undef=(a.eval x).cells.getD j undef:=by
  have h1:(decide ((a.eval x).cells.size≠sz)||decide (0*sz+(a.eval x).cells.size>((Array.range (1*sz)).map (z.cells[· % z.cells.size]!)).size))=false:=by
   simp only[Bool.or_eq_false_iff,decide_eq_false_iff_not];simp;omega
  simp only[Instr.fill];rw[h1];simp only[Bool.false_eq_true,if_false];have hfold:∀ arr:Array Value,(a.eval x).cells.zipIdx.foldl (fun cs (c,j)=>cs.setIfInBounds (0*sz+j) c) arr=((a.eval x).cells.toList.zipIdx 0).foldl (fun (cs:Array Value) (x:Value×Nat)=>cs.setIfInBounds (0*sz+x.2) x.1) arr:=fun arr=>by
   rw[← Array.foldl_toList,Array.toList_zipIdx]
  obtain⟨e1,e2⟩:=yvu (0*sz) (a.eval x).cells.toList 0 ((Array.range (1*sz)).map (z.cells[· % z.cells.size]!)) (by simp;omega)
  refine⟨_,rfl,?_,fun j hj=>?_⟩
  ·rw[hfold,e1];simp
  rw[hfold,Array.getD_eq_getD_getElem?,e2,if_pos (by simp;omega)]
  simp
 obtain⟨cells,hc1,hc2,hc3⟩:=hex
 have hrun:(Instr.buildSlice t 1 (#[(0,x)].map fun (i,x)=>(i,a.eval x))).run P w=.ok (.slice (some ⟨w.heap.size,0,none⟩) 1 1) (w.alloc (.cells cells e)):=by
  have hne:¬ (1*sz=0):=by omega
  have hbig:¬ (16777216<sz):=by omega
  have hne2:¬ sz=0:=by omega
  simp only[Nat.one_mul] at hc1;simp[Instr.buildSlice,run_underlying hu,sizeOf,typeInfo,hi,hs,hne2,hbig,zeroValue,hz,hc1,newRow]
 have h1:=hR.take (M':=N+1) (r:=r) (f:=toN1 N) (by omega) rfl fun q l h=>by
  cases q with
  | nil=>cases h
  | cons y q =>
   simp[toN1] at h
   subst h;refine⟨by simp,fun b=>.inl fun hb=>?_,fun q' h'=>?_⟩
   ·have:=(hR.lab b _ hb).2.2;simp at this
   cases q' with
   | nil=>cases h'
   | cons y' q'=>simp[toN1] at h';simp[h']
 have h2:=h1.alloc2 cells e [(0,0)] (fun b hb=>by
  rcases yuu hb with⟨q,_,hq⟩ | ⟨hb,_⟩
  ·cases q <;> simp[toN1] at hq
  have:=(hR.lab b _ hb).2.2;simp at this)
 refine⟨_,_,_,hrun,h2,⟨⟨rfl,rfl⟩,fun j c hj=>?_⟩,cells,rfl,rfl,hc2,hc3⟩
 cases j with
 | succ j=>simp at hj
 | zero =>
  simp at hj
  subst hj;refine Rep.own (rows:=[cs]) (by simp[lab1]) (yyd _ _) (by simp) (by simp[maxLen]) (by rw[hc2,hes];simp) (by simp;omega) fun i row o c h3 h4=>?_
  cases i with
  | succ i=>simp at h3
  | zero =>
   simp at h3
   subst h3;have ho:o<sz:=by have:=(List.getElem?_eq_some_iff.1 h4).1;omega
   simp only[Nat.zero_mul,Nat.zero_add];rw[hc3 o ho];refine(hf o c h4).move _ (fun b ⟨h5,h6,h7⟩=>⟨⟨by simp[lab1,mapL,h5];omega,by simp;omega,h7⟩,heap_alloc_old w _ b h6⟩) fun b q hb=>?_
   have:=(hR.lab b _ hb).1
   refine⟨?_,heap_alloc_old w _ b this⟩
   simp only[List.singleton_append] at hb;simp[lab1,mapL,hb,toN1]
   omega
theorem yro1 {σ:St} {s:Operand} (h:apSrc σ s=.d false [.sl none []]):s=.const (.slice none 0 0):=by
 cases s with
 | const v =>
  simp only[apSrc,evS] at h;split at h
  ·rfl
  cases h
 | tmp z =>
  simp only[apSrc] at h;cases hz:σ z <;> simp[hz,isD,evS] at h
 | _=>simp[apSrc] at h
theorem yci1 {σ:St} {s:Operand} {r:Nat} {q:Path} {n:Option Nat} (h:apSrc σ s=.ref r q n):evS σ s=.ref r q n:=by
 cases s with
 | const v=>exact h
 | tmp z =>
  simp only[apSrc] at h;split at h
  ·cases h
  exact h
 | _=>simp[apSrc] at h
theorem ymc1 {a:Act} {o:Oper} {w w':World} {s x:Operand} {t:TypeId} {v:Value} (ho:o.op=.call { callee:=.builtin .append,args:=#[s,x],argTypes:=#[t,t] })
  (h:(Builtin.append_ #[t,t] o.type #[a.eval s,a.eval x]).run P w=.ok v w'):(execOp a.eval o).run P w=.ok (.value v) w':=by
 simp[execOp,ho,resolve,invoke,builtin,h]
theorem yhs {σ:St} {a:Act} {w:World} {L:Lab} (hR:Rel P N N w0 A I σ a w L) {o:Oper} (hd:∀ d,o.dst=some d->I.pins.length<=d/\d<N) {K:St->Prop} {next:Act->World->Prop} {Q:Exit->Act->World->Prop} (h:pvOp P o σ K)
  (hn:∀ a' w' σ' L',K σ'->Rel P N N w0 A I σ' a' w' L'->next a' w'):o.wp P a w next Q:=by
 have plain:∀ {σ1:St} {v:Value} {w':World} {L1:Lab} {sv:SV},(execOp a.eval o).run P w=.ok (.value v) w'->K (putO o.dst sv σ1)->Rel P N (N+1) w0 A I σ1 a w' L1->RelS P (Zof w0 A L1 w') L1 w' (tmOf a) σ1 N v sv->o.wp P a w next Q :=
  fun {σ1 v w' L1 sv} h1 h2 h3 h4=>yot h1 (by
   obtain⟨L',h5⟩:=yut h3 h4 o.dst hd;exact hn _ _ _ _ h2 h5)
 have dflt:sOp P (evS σ) σ o (fun x=>K (putO o.dst x σ))->o.wp P a w next Q:=fun h=>yai1 hR (fun _=>.inl rfl) h fun v w' L1 sv h1 h2 h3=>by
  obtain⟨L',h5⟩:=yut h2 h3 o.dst hd;exact hn _ _ _ _ h1 h5
 cases hop:o.op with
 | assign x =>
  simp only[pvOp,hop] at h;cases hdst:o.dst with
  | none=>rw[hdst] at h;exact h.elim
  | some d =>
   rw[hdst] at h;obtain⟨σ',L',h1,h2⟩:=ydz1 hR (hd d hdst) h
   refine yot (v:=a.eval x) (w':=w) (by simp[execOp,hop]) ?_
   rw[hdst];exact hn _ _ _ _ h1 h2
 | store t ea ex =>
  simp only[pvOp,hop] at h;rcases h with h | ⟨e,h1,h⟩
  ·exact yyk1 hR hop h fun w' σ' L' h1 h2=>hn a w' σ' L' h1 h2
  exact ymo1 hR hop h1 h fun w' σ' L' h1 h2=>hn a w' σ' L' h1 h2
 | box t x =>
  simp only[pvOp,hop] at h;obtain⟨g,n,cs,mv,_,h1,_,hnb,h2⟩:=h;obtain⟨v,w',L1,h3,h4,h5⟩:=yez1 (t:=t) hR h1 hnb
  exact plain (by simp[execOp,hop,h3]) h2 h4 h5
 | move x =>
  cases x with
  | tmp t =>
   simp only[pvOp,hop] at h;cases ht:σ t with
   | tup l =>
    simp only[ht] at h;obtain⟨d,h1,h2,h3⟩:=h;obtain⟨L',h4⟩:=yno1 hR ht (hd d h1)
    refine yot (v:=a.eval (.tmp t)) (w':=w) (by simp[execOp,hop]) ?_
    rw[h1];exact hn _ _ _ _ h3 h4
   | _=>simp only[ht] at h;exact dflt h
  | _ =>
   simp only[pvOp,hop] at h;exact dflt h
 | extract x k =>
  cases x with
  | tmp t =>
   simp only[pvOp,hop] at h;obtain⟨l,y,h1,h2,h3⟩:=h;cases y with
   | ov g cs =>
    simp only at h3
    obtain⟨v,L1,h4,h5,h6⟩:=yzk1 hR h1 h2;refine plain ?_ h3 h5 h6
    simp only[execOp,hop];rw[show a.eval (.tmp t)=tmOf a t from rfl,Sem.run_bind,h4];rfl
   | _ =>
    simp only at h3
    refine dflt ?_
    simp only[sOp,hop];refine⟨l,_,by simp[evS,h1],h2,h3.1,h3.2⟩
  | _ =>
   simp only[pvOp,hop] at h;exact dflt h
 | build t parts =>
  simp only[pvOp,hop] at h;rcases h with h | ⟨cs0,cs,h1,h2,h3,h4⟩ | ⟨x,cs,r,h1,h2,h3,h4⟩
  ·exact dflt h
  rotate_left
  ·obtain⟨v,L1,h10,h11,h12⟩:=ypo1 hR h1 h2 h3
   refine plain ?_ h4 h11 h12
   simp only[execOp,hop];rw[Sem.run_bind,h10];rfl
  subst h1;obtain⟨v,h5,h6⟩:=yho1 hR h2 h3;obtain⟨L',h7⟩:=yut hR.up h6 o.dst hd;refine yot (v:=v) (w':=w) ?_ (hn _ _ _ _ h4 h7)
  simp only[execOp,hop];rw[Sem.run_bind];rw[Array.map_empty,h5];rfl
 | slice t x lo hi c =>
  simp only[pvOp,hop] at h;rcases h with h | ⟨e,sz,r,rows,y,k,m,h1,h2,h3,h4,h5,h6,h7,h8,h9⟩
  ·exact dflt h
  subst h1 h2 h3
  obtain⟨v,L1,h10,h11,h12⟩:=yys1 hR h4 h5 h6 h7 h8;refine plain ?_ h9 h11 h12
  simp only[execOp,hop,Option.map_some,Option.map_none];rw[Sem.run_bind,h10];rfl
 | buildSlice t n parts =>
  simp only[pvOp,hop] at h;rcases h with h | ⟨e,sz,x,cs,r,h1,h2,h3,h4,h5,h6,h7,h8,h9⟩
  ·exact dflt h
  subst h4;obtain⟨v,w',L1,h10,h11,h12,_⟩:=yqo1 hR h1 h2 h3 h5 h6 h7 h8;refine plain ?_ h9 h11 h12
  simp only[execOp,hop];rw[Sem.run_bind,h10];rfl
 | call c =>
  obtain⟨callee,args,ts⟩:=c;cases callee with
  | value fn =>
   simp only[pvOp,hop] at h;rcases h with h | h | h
   rotate_left
   rotate_left
   ·obtain⟨f,x0,rest,r,sv,axs,vals,h1,h2,h3,h4,h5,h6,h7,b,hb,h9⟩:=h
    have hfz:(!b)=true\/vals.all simpleR=true:=by cases b <;> simpa using hb
    obtain⟨h10,h11⟩:=yfz1 (fz:= !b) hR h1 (fun _=>.inl rfl) h3 h4 h5 h6 h7 hfz
    refine yoz hop h10 h7.1 ?_
    have:(x0::rest).toArray=args:=by rw[← h2]
    rw[this] at h11;rw[Array.append_empty];refine h11.mono ?_
    rintro e w' ⟨v,L1,rfl,h12,h13⟩
    refine⟨v,rfl,?_⟩
    obtain⟨L',h14⟩:=yut h12 h13 o.dst hd;refine hn _ _ _ _ ?_ h14
    cases b <;> simpa using h9
   rotate_left
   ·obtain⟨f,x0,rest,r,q,sv,axs,vals,sv',h1,h2,h3,h4,h5,h6,h7,h8,b,hb,h9⟩:=h
    have hfz:(!b)=true\/(vals.all simpleR&&wnS sv')=true:=by cases b <;> simpa using hb
    obtain⟨h10,h11⟩:=yxq1 (fz:= !b) hR h1 (fun _=>.inl rfl) h3 h4 h5 h6 h7 h8 hfz
    refine yoz hop h10 h7.1 ?_
    have:(x0::rest).toArray=args:=by rw[← h2]
    rw[this] at h11;rw[Array.append_empty];refine h11.mono ?_
    rintro e w' ⟨v,L1,rfl,h12,h13⟩
    refine⟨v,rfl,?_⟩
    obtain⟨L',h14⟩:=yut h12 h13 o.dst hd;refine hn _ _ _ _ ?_ h14
    cases b <;> simpa using h9
   obtain⟨f,caps,axs,res,h1,h2,h3,h4,h5,b,hb,h6⟩:=h;have hfz:(!b)=true\/res.vals.all simpleR=true:=by cases b <;> simpa using hb
   obtain⟨vs,h8,h9⟩:=ysq1 (fz:= !b) hR (fun _=>.inl rfl) h1 h2 h3 h4 h5 hfz
   refine yoz hop h8 h4.1 ?_
   have:args.toList.toArray=args:=by simp
   rw[this] at h9;refine h9.mono ?_
   rintro e w' ⟨v,L1,rfl,h10,h11⟩
   refine⟨v,rfl,?_⟩
   obtain⟨L',h12⟩:=yut h10 h11 o.dst hd;refine hn _ _ _ _ ?_ h12
   cases b <;> simpa using h6
  | builtin b =>
   cases b with
   | append =>
    simp only[pvOp,hop] at h;rcases h with⟨s,x,t,h1,h2,e,sz,rows2,mv,h3,h4,h5,h6,h7⟩ | ⟨s,x,t,t',b,h1,h2,h3,h4,e,r,rows,h5,h6,h7,h8,h9,h10⟩
    rotate_left
    ·have hargs:args=#[s,x]:=by rw[← h1]
     have hts:ts=#[t,t']:=by rw[← h2]
     subst hargs hts
     obtain⟨v,w',L1,h12,h13,h14⟩:=yve1 (ty:=o.type) hR h5 h3 h6 h8 h9
     have hz:=yci1 h7;have hev:=ysh hR 0 s (by rw[hz];rfl)
     rw[hz] at hev;have:=yfp hR hev (.inl h8) rfl
     have hxv:a.eval x=.string b:=by have:=ysh hR 0 x (by rw[h4];rfl);rw[h4] at this;exact this
     rw[← this,← hxv] at h12;exact plain (by simp[execOp,hop,resolve,invoke,builtin,h12]) h10 h13 h14
    have hargs:args=#[s,x]:=by rw[← h1]
    have hts:ts=#[t,t]:=by rw[← h2]
    subst hargs hts
    split at h7
    ·rename_i hs
     obtain⟨h8,h9⟩:=h7;obtain rfl:=yro1 hs
     obtain⟨v,w',L1,h10,h11,h12⟩:=yux (ty:=o.type) hR h3 h4 h5 h6 h8
     exact plain (ymc1 hop h10) h9 h11 h12
    ·rename_i r hs
     obtain⟨h8,h9⟩:=h7;split at h9
     ·rename_i e' rows hσr
      obtain⟨rfl,h10,h11⟩:=h9;obtain⟨v,w',L1,h12,h13,h14⟩:=yre1 (ty:=o.type) hR h3 h4 h5 h6 hσr h8 h10
      have hz:=yci1 hs;have hev:=ysh hR 0 s (by rw[hz];rfl)
      rw[hz] at hev;have:=yfp hR hev (.inl hσr) rfl
      rw[← this] at h12;exact plain (ymc1 hop h12) h11 h13 h14
     exact h9.elim
    exact h7.elim
   | _ =>
    simp only[pvOp,hop] at h;exact dflt h
  | invoke r m =>
   simp only[pvOp,hop] at h;exact dflt h
 | _ =>
  simp only[pvOp,hop] at h;exact dflt h
end Go.PV

/-
 A walk over pure values: what lies in something of the function's own is taken out of it.
 Conditions: none.
-/
namespace Go.PV
variable {P:Program} {N:Nat} {w0:World} {A:Nat->Prop} {I:Bor}
theorem yjj1 {r:Nat} {q0:Path} {x:SV} (h:isRoot x=true):killTk r q0 x=x:=by cases x <;> simp_all [killTk,isRoot]
theorem yso1 (r:Nat) (q0:Path) (x:SV):killTk r q0 x=.u\/(killTk r q0 x=x/\(refOf x≠some r\/(∃ q,x=.addr r q/\q0.isPrefixOf q.dropLast=false)\/∃ n,x=.ref r [(0,0)] n)):=by
 cases x with
 | ref r' q n =>
  by_cases h:r'=r
  ·by_cases hq:q=[(0,0)]
   ·right;subst h;subst hq;exact⟨by simp[killTk],.inr (.inr ⟨n,rfl⟩)⟩
   left;simp[killTk,h,hq]
  right;exact⟨by simp[killTk,h],.inl (by simp[refOf,h])⟩
 | addr r' q =>
  by_cases h:r'=r
  ·subst h
   cases hp:q0.isPrefixOf q.dropLast with
   | true=>left;simp[killTk,hp]
   | false=>right;exact⟨by simp[killTk,hp],.inr (.inl ⟨q,rfl,hp⟩)⟩
  right;exact⟨by simp[killTk,h],.inl (by simp[refOf,h])⟩
 | _=>right;exact⟨rfl,.inl (by simp[refOf])⟩
theorem ynv1 {σ:St} {a:Act} {w:World} {L:Lab} (hR:Rel P N N w0 A I σ a w L) {t r:Nat} {q:Path} {c:C} {cs:List C} (ht:σ t=.ref r q none) (hok:tkOk σ t r q=true)
  (hg:getRow (rows1 (σ r)) q=some (c::cs)):∃ L',Rel P N N w0 A I (tkSt σ t r q c) a w L':=by
 simp only[tkOk,Bool.and_eq_true,bne_iff_ne,Bool.or_eq_true,decide_eq_true_eq] at hok
 obtain⟨hrt,hown,hq2⟩:=hok
 have htN:t<N:=by
  rcases Nat.lt_or_ge t N with h | h
  ·exact h
  rw[hR.out t h] at ht;cases ht
 have hslot:=hR.slot t
 rw[ht] at hslot
 have hrep:=ywh1 hR hslot hg
 obtain⟨_,h2⟩:=hslot
 rcases h2 with⟨h3,h4,_⟩ | ⟨q0,i,o,b0,arr,e,rfl,hbx,hlab,hheap,h7⟩
 ·exfalso
  rcases hq2 with h | h
  ·rw[h] at h3;cases h3
  rw[h4] at h;simp at h
 simp only at h7
 have hne:∀ s,isRoot (σ s)=true->s<N:=fun s h=>by
  rcases Nat.lt_or_ge s N with h1 | h1
  ·exact h1
  rw[hR.out s h1] at h;cases h
 let f:Path->Nat×Path:=fun p=>match dropP (q0++[(i,o)]) p with
  | some tl=>(N,(0,0)::tl)
  | none=>(r,p)
 obtain⟨L1,hL1⟩:∃ L1:Lab,L1=fun b=>match L b with
  | some (s,p)=>if s=r then some (f p) else some (s,p)
  | none=>none:=⟨_,rfl⟩
 have l_none:∀ {b},L b=none->L1 b=none:=fun {b} h=>by rw[hL1];simp[h]
 have l_other:∀ {b s p},s≠r->L b=some (s,p)->L1 b=some (s,p):=fun {b s p} hs h=>by rw[hL1];simp[h,hs]
 have l_in:∀ {b tl},L b=some (r,(q0++[(i,o)])++tl)->L1 b=some (N,(0,0)::tl):=fun {b tl} h=>by
  rw[hL1];simp only[h,if_true,f];rw[dropP_iff.2 rfl]
 have l_out:∀ {b p},L b=some (r,p)->dropP (q0++[(i,o)]) p=none->L1 b=some (r,p):=fun {b p} h hp=>by
  rw[hL1];simp only[h,if_true,f];rw[hp]
 have l_some:∀ {b l},L1 b=some l->(∃ s p,s≠r/\L b=some (s,p)/\l=(s,p))\/(∃ tl,L b=some (r,(q0++[(i,o)])++tl)/\l=(N,(0,0)::tl))\/(∃ p,L b=some (r,p)/\dropP (q0++[(i,o)]) p=none/\l=(r,p)):=by
  intro b l h;cases hb:L b with
  | none=>rw[l_none hb] at h;cases h
  | some sp =>
   obtain⟨s,p⟩:=sp;by_cases hs:s=r
   ·subst hs
    cases hd:dropP (q0++[(i,o)]) p with
    | none =>
     rw[l_out hb hd] at h;exact .inr (.inr ⟨p,rfl,hd,(Option.some.inj h).symm⟩)
    | some tl =>
     have hp:=dropP_iff.1 hd;subst hp;rw[l_in hb] at h;exact .inr (.inl ⟨tl,rfl,(Option.some.inj h).symm⟩)
   rw[l_other hs hb] at h;exact .inl ⟨s,p,hs,rfl,(Option.some.inj h).symm⟩
 have labN:∀ {b s p},L b=some (s,p)->s<N:=fun {b s p} h=>(hR.lab b _ h).2.2
 have hz:∀ b,Zof w0 A L w b->Zof w0 A L1 w b/\w.heap[b]?=w.heap[b]?:=fun b h=>⟨⟨l_none h.1,h.2⟩,rfl⟩
 have hund:∀ p,¬ under q0 i o 1 p->dropP (q0++[(i,o)]) p=none:=fun p hp=>by
  cases hd:dropP (q0++[(i,o)]) p with
  | none=>rfl
  | some tl =>
   exfalso
   refine hp ⟨0,tl,by omega,?_⟩
   rw[dropP_iff.1 hd];simp
 have hnil:dropP (q0++[(i,o)]) []=none:=by
  cases hd:dropP (q0++[(i,o)]) [] with
  | none=>rfl
  | some tl=>have:=dropP_iff.1 hd;simp at this
 obtain⟨σ1,hσ1⟩:∃ σ1:St,σ1=fun s=>if s=r then setCs (σ r) (q0++[(i,o)]) [.dead] else killTk r (q0++[(i,o)]) (σ s):=⟨_,rfl⟩
 have s_r:σ1 r=setCs (σ r) (q0++[(i,o)]) [.dead]:=by rw[hσ1];simp
 have s_o:∀ {s},s≠r->σ1 s=killTk r (q0++[(i,o)]) (σ s):=fun {s} h=>by rw[hσ1];simp[h]
 have rootk:∀ s,isRoot (σ s)=true->isRoot (σ1 s)=true/\isBox (σ1 s)=isBox (σ s):=fun s h=>by
  by_cases hs:s=r
  ·subst hs;rw[s_r];exact yyu hown
  rw[s_o hs,yjj1 h];exact⟨h,rfl⟩
 have hroot:RelS P (Zof w0 A L1 w) L1 w (tmOf a) σ1 r (tmOf a r) (σ1 r):=by
  rw[s_r];have hv1:∀ v:Value,arr[i*esz P e+o]?=some v->arr.getD (i*esz P e+o) undef=v:=fun v h=>by rw[Array.getD_eq_getD_getElem?,h];rfl
  refine yvc1 (old:=c::cs) hR hown (vs:=fun _=>tmOf a t) ⟨hz,fun b p h1 h2=>l_out h1 (hund p h2),fun b p h1 h2 _=>rfl,fun j c2 hj=>?_⟩ ?_ hg (by simp) (by simp) hbx rfl
  ·cases j with
   | succ j=>simp at hj
   | zero=>simp at hj;subst hj;exact .frz (.dead hrep.oneCell)
  intro b2 arr2 e2 g1 g2;obtain rfl:=hR.inj _ _ _ g1 hlab
  rw[hheap] at g2;simp at g2
  obtain⟨rfl,rfl⟩:=g2;refine⟨arr,hheap,rfl,fun k=>?_⟩
  split
  ·rename_i hk
   have:k=i*esz P e+o:=by simp at hk;omega
   rw[this];exact hv1 _ h7.1
  rfl
 have hRel:Rel P N (N+1) w0 A I σ1 a w L1:=by
  refine⟨hR.dfr,hR.siz,hR.ev,fun b b' l g1 g2=>?_,fun b l g=>?_,fun s hs=>?_,hR.hA,hR.pin,fun s=>?_⟩
  ·rcases l_some g1 with⟨s,p,n1,e1,rfl⟩ | ⟨tl,e1,rfl⟩ | ⟨p,e1,d1,rfl⟩ <;> rcases l_some g2 with⟨s2,p2,n2,e2,x2⟩ | ⟨tl2,e2,x2⟩ | ⟨p2,e2,d2,x2⟩
   ·cases x2;exact hR.inj _ _ _ e1 e2
   ·simp at x2;have:=labN e1;omega
   ·simp at x2;exact absurd x2.1 n1
   ·simp at x2;have:=labN e2;omega
   ·simp at x2;subst x2;exact hR.inj _ _ _ e1 e2
   ·simp at x2;have:=labN e1;omega
   ·simp at x2;exact absurd x2.1.symm n2
   ·simp at x2;have:=labN e1;omega
   simp at x2;subst x2;exact hR.inj _ _ _ e1 e2
  ·rcases l_some g with⟨s,p,n1,e1,rfl⟩ | ⟨tl,e1,rfl⟩ | ⟨p,e1,d1,rfl⟩
   ·have:=hR.lab b _ e1;exact⟨this.1,this.2.1,by have:=this.2.2;simp only at this ⊢;omega⟩
   ·have:=hR.lab b _ e1;exact⟨this.1,this.2.1,by simp⟩
   have:=hR.lab b _ e1;exact⟨this.1,this.2.1,by have:=this.2.2;simp only at this ⊢;omega⟩
  ·have hsr:s≠r:=fun h=>by have:=hne r (yet hown);omega
   rw[s_o hsr,hR.out s hs];rfl
  by_cases hs:s=r
  ·subst hs;exact hroot
  rw[s_o hs];rcases yso1 r (q0++[(i,o)]) (σ s) with hk | ⟨hk,hk2⟩
  ·rw[hk];trivial
  rw[hk];have h0:=hR.slot s;rcases hk2 with hk2 | ⟨q',hk2,hpre⟩ | ⟨n,hk2⟩
  ·refine h0.keep hz (fun b p _ hb=>⟨l_other hs hb,rfl⟩) fun x hx hxr=>?_
   have hxn:x≠r:=fun h=>hk2 (h▸hx)
   exact⟨fun b p hb=>⟨l_other hxn hb,rfl⟩,rfl,(rootk x hxr).1,(rootk x hxr).2⟩
  ·rw[hk2] at h0 ⊢
   obtain⟨h5,q1,i1,o1,b1,arr1,e1,g1,g2,g3,g4,g5⟩:=h0;have hdn:dropP (q0++[(i,o)]) q1=none:=by
    cases hd:dropP (q0++[(i,o)]) q1 with
    | none=>rfl
    | some tl =>
     have h8:=dropP_iff.1 hd;rw[g1,List.dropLast_concat] at hpre;have h9:(q0++[(i,o)]).isPrefixOf q1=true:=List.isPrefixOf_iff_prefix.2 ⟨tl,h8.symm⟩
     rw[h9] at hpre;cases hpre
   exact⟨(rootk r h5).1,q1,i1,o1,b1,arr1,e1,g1,fun h=>by rw[(rootk r h5).2];exact g2 h,l_out g3 hdn,g4,g5⟩
  rw[hk2] at h0 ⊢
  obtain⟨h5,h6⟩:=h0;refine⟨(rootk r h5).1,?_⟩
  rcases h6 with⟨g1,g2,g3⟩ | ⟨q1,i1,o1,b1,arr1,e1,g1,g2,g3,g4,g5⟩
  ·exact .inl ⟨by rw[(rootk r h5).2];exact g1,g2,g3⟩
  have hq1:q1=[]:=by
   have:=congrArg List.length g1;simp at this;exact this
  subst hq1;exact .inr ⟨[],i1,o1,b1,arr1,e1,g1,fun h=>by rw[(rootk r h5).2];exact g2 h,l_out g3 hnil,g4,g5⟩
 have hput:=hRel.put0 (d:=t) (tv:=tmOf a t) (sv:=.ov false [c]) (.inr rfl) htN (by
  refine⟨⟨ync hrep.oneCell,rfl⟩,fun j c' hj=>?_⟩
  cases j with
  | succ j=>simp at hj
  | zero =>
   simp at hj
   subst hj;rw[ync hrep.oneCell];exact hrep.move [(0,0)] (fun b hb=>⟨⟨l_none hb.1,hb.2⟩,rfl⟩) fun b tl hb=>⟨l_in hb,rfl⟩)
 rw[hσ1] at hput
 refine⟨_,hput.same rfl (by simp[Act.put]) fun s=>?_⟩
 rw[yje1 a _ (hR.siz▸htN)]
 split
 ·rename_i h;subst h;rfl
 rfl
end Go.PV

/-
 A walk over pure values: lists of operations in the text's order;what an operation yields,and what it hangs on.
 Conditions: none.
-/
namespace Go.PV
variable {P:Program} {N:Nat} {w0:World} {A:Nat->Prop} {I:Bor}
theorem yto1 {σ:St} {a:Act} {w:World} {L:Lab} (hR:Rel P N N w0 A I σ a w L) {ops:Array Oper} {o:Oper} {run skip:Prop} (h:gOp ops o σ run skip) :
  (Region.wanted o (yielded ops a.tmps)=true/\run)\/(Region.wanted o (yielded ops a.tmps)=false/\skip):=by
 unfold gOp at h
 unfold Region.wanted
 cases hg:o.guard with
 | none=>rw[hg] at h;exact .inl ⟨rfl,h⟩
 | some jw =>
  obtain⟨j,want⟩:=jw;rw[hg] at h;obtain⟨d,hd,h⟩:=h;have hs:=hR.slot d;have hy:yielded ops a.tmps j=match a.tmps[d]? with | some (.bool b)=>some b | _=>none:=by
   unfold yielded;rw[hd];rfl
  split at h
  ·rename_i b hσ
   rw[hσ] at hs;have hv:a.tmps.getD d undef=.bool b:=hs
   have:a.tmps[d]?=some (.bool b):=by
    rw[Array.getD_eq_getD_getElem?] at hv;cases hx:a.tmps[d]? with
    | none=>rw[hx] at hv;cases hv
    | some v=>rw[hx] at hv;exact congrArg some hv
   simp only[hy,this];by_cases hb:b=want
   ·subst hb;rw[if_pos rfl] at h;exact .inl ⟨by simp,h⟩
   rw[if_neg hb] at h;exact .inr ⟨by simpa using hb,h⟩
  ·rename_i vs hσ
   rw[hσ] at hs;obtain⟨h0,h⟩:=h;obtain rfl:=Array.eq_empty_of_size_eq_zero h0
   have hv:a.tmps.getD d undef=undef:=hs
   right
   refine⟨?_,h⟩
   show(yielded ops a.tmps j==some want)=false
   rw[hy];rw[Array.getD_eq_getD_getElem?] at hv;cases hx:a.tmps[d]? with
   | none=>rfl
   | some v=>rw[hx] at hv;simp at hv;subst hv;rfl
  exact h.elim
theorem yao {σ:St} {a:Act} {w:World} {L:Lab} (hR:Rel P N N w0 A I σ a w L) {o:Oper} (hd:∀ d,o.dst=some d->I.pins.length<=d/\d<N) {K:St->Prop} {next:Act->World->Prop} {Q:Exit->Act->World->Prop} (h:pvOpF P o σ K)
  (hn:∀ a' w' σ' L',K σ'->Rel P N N w0 A I σ' a' w' L'->next a' w'):o.wp P a w next Q:=by
 rcases h with h | ⟨r,h⟩ | ⟨t,r,q,c,cs,h1,h2,h3,h⟩
 ·exact yhs hR hd h hn
 ·obtain⟨L',h1,_⟩:=hR.frz r
  exact yhs h1 hd h hn
 obtain⟨L',h1⟩:=ynv1 hR h1 h2 h3
 exact yhs h1 hd h hn
theorem yez {ops:Array Oper} {Q:Exit->Act->World->Prop} {K:St->Prop} (hB:opsB I.pins.length N ops.toList=true) (hK:∀ a w σ L,K σ->Rel P N N w0 A I σ a w L->Q .normal a w):∀ (l:List Oper) (k:Nat) (σ:St) (a:Act) (w:World) (L:Lab),
  (∀ j,l[j]?=ops[k+j]?)->Rel P N N w0 A I σ a w L->pvL P ops l σ K->wpOps P ops Q (List.range' k l.length) a w
 | [],k,σ,a,w,L,_,hR,h=>hK a w σ L h hR
 | o::l,k,σ,a,w,L,hl,hR,h=>by
  have ho:ops[k]?=some o:=by simpa using(hl 0).symm
  have hl':∀ j,l[j]?=ops[k+1+j]?:=fun j=>by have:=hl (j+1);simpa [Nat.add_assoc,Nat.add_comm 1 j] using this
  have hd:∀ d,o.dst=some d->I.pins.length<=d/\d<N:=fun d hd=>by
   have:=List.all_eq_true.1 hB o (by have:=Array.mem_of_getElem? ho;simpa using this)
   rw[hd] at this;simpa using this
  simp only[List.length_cons,List.range'_succ,wpOps,ho];rcases yto1 hR h with⟨h1,h2⟩ | ⟨h1,h2⟩
  ·rw[if_pos h1]
   exact .inl (yao hR hd h2 fun a' w' σ' L' h3 h4=>yez hB hK l (k+1) σ' a' w' L' hl' h4 h3)
  rw[if_neg (by rw[h1];simp)]
  obtain⟨L',h3⟩:=yut (tv:=undef) (sv:=.p (.tuple #[])) hR.up rfl o.dst hd
  exact yez hB hK l (k+1) _ _ w L' hl' h3 h2
theorem ycl1 {op:BinOp} {t:TypeId} {x y:SV} {F:(SV->Prop)->Prop} {K:SV->Prop} (hF:∀ K,F K->∃ v,K v/\∀ K',K' v->F K') (h:binK P op t x y (F K) K):∃ v,K v/\∀ K',K' v->binK P op t x y (F K') K':=by
 unfold binK at h ⊢
 split at h
 ·rcases h with⟨rfl,h⟩ | h
  ·unfold intK at h
   cases op <;> first
    | (obtain⟨v,h1,h2⟩:=hF K h;exact⟨v,h1,fun K' hk=>.inl ⟨rfl,h2 K' hk⟩⟩)
    | exact⟨_,h,fun K' hk=>.inl ⟨rfl,hk⟩⟩
    | exact⟨_,h.2,fun K' hk=>.inl ⟨rfl,h.1,hk⟩⟩
  obtain⟨v,h1,h2⟩:=hF K h;exact⟨v,h1,fun K' hk=>.inr (h2 K' hk)⟩
 ·unfold boolK at h
  cases op <;> first
   | (obtain⟨v,h1,h2⟩:=hF K h;exact⟨v,h1,fun K' hk=>h2 K' hk⟩)
   | exact⟨_,h.2,fun K' hk=>⟨h.1,hk⟩⟩
 ·unfold strK at h
  cases op <;> first
   | (obtain⟨v,h1,h2⟩:=hF K h;exact⟨v,h1,fun K' hk=>h2 K' hk⟩)
   | exact⟨_,h,fun K' hk=>hk⟩
   | exact⟨_,h.2,fun K' hk=>⟨h.1,hk⟩⟩
 ·unfold errK at h
  cases op <;> first
   | (obtain⟨v,h1,h2⟩:=hF K h;exact⟨v,h1,fun K' hk=>h2 K' hk⟩)
   | exact⟨_,h.2,fun K' hk=>⟨h.1,hk⟩⟩
 exact hF K h
theorem yuo1 {ev:Operand->SV} {rt:Nat->SV} {o:Oper} {K:SV->Prop} (h:sOp P ev rt o K):∃ x,K x/\∀ K':SV->Prop,K' x->sOp P ev rt o K':=by
 have pur:∀ K:SV->Prop,(∃ v,PureRun P ev o v/\K (.p v))->∃ x,K x/\∀ K':SV->Prop,K' x->∃ v,PureRun P ev o v/\K' (.p v):=fun K ⟨v,h1,h2⟩=>⟨.p v,h2,fun K' hk=>⟨v,h1,hk⟩⟩
 cases hop:o.op with
 | move x=>simp only[sOp,hop] at h ⊢;exact⟨_,h.2,fun K' hk=>⟨h.1,hk⟩⟩
 | pick c x y=>simp only[sOp,hop] at h ⊢;obtain⟨t,h1,h2,h3⟩:=h;exact⟨_,h3,fun K' hk=>⟨t,h1,h2,hk⟩⟩
 | binOp op t x y t' =>
  simp only[sOp,hop] at h ⊢;exact ycl1 (F:=fun K=>∃ v,PureRun P ev o v/\K (.p v)) pur h
 | unOp op t x =>
  cases op with
  | neg=>simp only[sOp,hop] at h ⊢;obtain⟨k,n,h1,h2⟩:=h;exact⟨_,h2,fun K' hk=>⟨k,n,h1,hk⟩⟩
  | not=>simp only[sOp,hop] at h ⊢;obtain⟨b,h1,h2⟩:=h;exact⟨_,h2,fun K' hk=>⟨b,h1,hk⟩⟩
  | _=>simp[sOp,hop] at h
 | convert src dst x =>
  simp only[sOp,hop] at h ⊢;rcases h with h | ⟨o1,b,bs,e,h1,h2,h3,h4,hk⟩
  ·obtain⟨y,h1,h2⟩:=pur K h;exact⟨y,h1,fun K' hk=>.inl (h2 K' hk)⟩
  exact⟨_,hk,fun K' hk'=>.inr ⟨o1,b,bs,e,h1,h2,h3,h4,hk'⟩⟩
 | load t x =>
  simp only[sOp,hop] at h ⊢;obtain⟨g,n,h1,h2,h3⟩:=h;cases hx:ev x with
  | fadr cs =>
   rw[hx] at h3;refine⟨_,h3.2,fun K' hk=>⟨g,n,h1,h2,?_⟩⟩
   exact⟨h3.1,hk⟩
  | addr r q =>
   rw[hx] at h3;obtain⟨cs,h4,h5,h6⟩:=h3;refine⟨_,h6,fun K' hk=>⟨g,n,h1,h2,?_⟩⟩
   exact⟨cs,h4,h5,hk⟩
  | _=>rw[hx] at h3;exact h3.elim
 | fieldAddr t x k =>
  simp only[sOp,hop] at h ⊢;obtain⟨off,h1,h2⟩:=h;cases hx:ev x with
  | fadr cs=>rw[hx] at h2;exact⟨_,h2,fun K' hk=>⟨off,h1,hk⟩⟩
  | addr r q=>rw[hx] at h2;exact⟨_,h2,fun K' hk=>⟨off,h1,hk⟩⟩
  | _=>rw[hx] at h2;exact h2.elim
 | nilCheck x =>
  simp only[sOp,hop] at h ⊢;cases hx:ev x with
  | fadr cs=>rw[hx] at h;exact⟨_,h,fun K' hk=>hk⟩
  | addr r q=>rw[hx] at h;exact⟨_,h,fun K' hk=>hk⟩
  | _=>rw[hx] at h;exact h.elim
 | indexAddr t x i =>
  simp only[sOp,hop] at h ⊢;unfold idxK at h ⊢
  split at h
  ·obtain⟨h0,e,sz,ow,rows,row,h1,h2,h3,h4,h5⟩:=h
   cases ow with
   | none=>exact⟨_,h5,fun K' hk=>⟨h0,e,sz,none,rows,row,h1,h2,h3,h4,hk⟩⟩
   | some e' =>
    cases hx:ev x with
    | ref r q n =>
     cases n with
     | none =>
      rw[hx] at h5 h2
      exact⟨_,h5,fun K' hk=>⟨h0,e,sz,some e',rows,row,h1,h2,h3,h4,hk⟩⟩
     | some n=>rw[hx] at h5;exact h5.elim
    | _=>rw[hx] at h5;exact h5.elim
  exact h.elim
 | extract x k=>simp only[sOp,hop] at h ⊢;obtain⟨l,y,h1,h2,h3,h4⟩:=h;exact⟨_,h4,fun K' hk=>⟨l,y,h1,h2,h3,hk⟩⟩
 | alloc t=>simp only[sOp,hop] at h ⊢;obtain⟨cs,h1,h2⟩:=h;exact⟨_,h2,fun K' hk=>⟨cs,h1,hk⟩⟩
 | makeSlice t l c =>
  simp only[sOp,hop] at h ⊢;obtain⟨n,h1,h2,h3,e,sz,h4,z,h5,h6,h7⟩:=h;exact⟨_,h7,fun K' hk=>⟨n,h1,h2,h3,e,sz,h4,z,h5,h6,hk⟩⟩
 | buildSlice t n parts =>
  simp only[sOp,hop] at h ⊢;obtain⟨e,sz,h1,rows,h2,h3,h4,h5,h6,h7⟩:=h;exact⟨_,h7,fun K' hk=>⟨e,sz,h1,rows,h2,h3,h4,h5,h6,hk⟩⟩
 | slice t x lo hi mx =>
  cases mx with
  | some m=>simp[sOp,hop] at h
  | none =>
   simp only[sOp,hop] at h ⊢;split at h
   ·obtain⟨e,sz,h1,l,hh,h2,h3,h4,h5,h6,h7⟩:=h
    exact⟨_,h7,fun K' hk=>⟨e,sz,h1,l,hh,h2,h3,h4,h5,h6,hk⟩⟩
   exact pur K h
 | build t parts=>simp only[sOp,hop] at h ⊢;obtain⟨cs,h1,h2⟩:=h;exact⟨_,h2,fun K' hk=>⟨cs,h1,hk⟩⟩
 | makeFunc fn first caps =>
  cases fn with
  | func f=>simp only[sOp,hop] at h ⊢;obtain⟨h0,axs,h1,h2⟩:=h;exact⟨_,h2,fun K' hk=>⟨h0,axs,h1,hk⟩⟩
  | _=>simp[sOp,hop] at h
 | field t x k =>
  simp only[sOp,hop] at h ⊢;rcases h with h | ⟨r,h1,h2,h3,h4,hk⟩
  ·obtain⟨y,h1,h2⟩:=pur K h;exact⟨y,h1,fun K' hk=>.inl (h2 K' hk)⟩
  exact⟨_,hk,fun K' hk'=>.inr ⟨r,h1,h2,h3,h4,hk'⟩⟩
 | index t x i=>simp only[sOp,hop] at h ⊢;exact pur K h
 | call c =>
  obtain⟨callee,args,ts⟩:=c;cases callee with
  | value fn =>
   simp only[sOp,hop] at h ⊢;obtain⟨f,caps,axs,res,h1,h2,h3,h4,h5,h6,h7⟩:=h;exact⟨_,h7,fun K' hk=>⟨f,caps,axs,res,h1,h2,h3,h4,h5,h6,hk⟩⟩
  | invoke r m=>simp only[sOp,hop] at h ⊢;exact pur K h
  | builtin b =>
   cases b with
   | len =>
    simp only[sOp,hop] at h ⊢;obtain⟨x,t,h1,h2,h3⟩:=h;unfold lenK at h3;split at h3
    ·rename_i s hx
     exact⟨_,h3.2,fun K' hk=>⟨x,t,h1,h2,by unfold lenK;rw[hx];exact⟨h3.1,hk⟩⟩⟩
    rename_i hx;obtain⟨ow,rows,h4,h5,h6⟩:=h3;refine⟨_,h6,fun K' hk=>⟨x,t,h1,h2,?_⟩⟩
    unfold lenK;split
    ·rename_i s hs;exact absurd hs (hx s)
    exact⟨ow,rows,h4,h5,hk⟩
   | min=>simp only[sOp,hop] at h ⊢;obtain⟨x,y,k,m,n,h1,h2,h3,h4⟩:=h;exact⟨_,h4,fun K' hk=>⟨x,y,k,m,n,h1,h2,h3,hk⟩⟩
   | max=>simp only[sOp,hop] at h ⊢;obtain⟨x,y,k,m,n,h1,h2,h3,h4⟩:=h;exact⟨_,h4,fun K' hk=>⟨x,y,k,m,n,h1,h2,h3,hk⟩⟩
   | _=>simp only[sOp,hop] at h ⊢;exact pur K h
 | _=>simp[sOp,hop] at h
end Go.PV

/-
 A walk over pure values: where the order is open.
 Conditions: none.
-/
namespace Go.PV
variable {P:Program} {N:Nat} {w0:World} {A:Nat->Prop} {I:Bor}
theorem PureRun.congr {ev ev':Operand->SV} {o:Oper} {v:Value} (h:∀ x∈o.op.operands,ev x=ev' x) (hp:PureRun P ev o v):PureRun P ev' o v:=by
 obtain⟨ρ,h1,h2⟩:=hp
 exact⟨ρ,fun x hx=>(h x hx).symm.trans (h1 x hx),h2⟩
theorem yvx {ev ev':Operand->SV} {sz:Nat}:∀ (l:List (Nat×Operand)) (k:Nat),(∀ x∈l,ev x.2=ev' x.2)->sOp.partsOf ev sz l k=sOp.partsOf ev' sz l k
 | [],_,_=>rfl
 | (i,x)::l,k,h=>by
  simp only[sOp.partsOf];rw[h (i,x) (by simp),yvx l (k+1) fun y hy=>h y (by simp[hy])]
theorem ync1 {ev ev':Operand->SV} {place:Nat->Option (Nat×Nat)}:∀ (l:List (Nat×Operand)) (z:List C),(∀ x∈l,ev x.2=ev' x.2)->sOp.fillC place ev z l=sOp.fillC place ev' z l
 | [],_,_=>rfl
 | (i,x)::l,z,h=>by
  simp only[sOp.fillC];rw[h (i,x) (by simp)];have ih:=fun z=>ync1 (place:=place) l z fun y hy=>h y (by simp[hy])
  simp only[ih]
theorem ywx {ev ev':Operand->SV} {l:List Operand} (h:∀ x∈l,ev x=ev' x):l.map ev=l.map ev':=List.map_congr_left h
theorem yvo1 {ev ev':Operand->SV} {rt:Nat->SV} {o:Oper} {K:SV->Prop} (h:∀ x∈o.op.operands,ev x=ev' x) (hs:sOp P ev rt o K):sOp P ev' rt o K:=by
 have pur:(∃ v,PureRun P ev o v/\K (.p v))->∃ v,PureRun P ev' o v/\K (.p v):=fun ⟨v,h1,h2⟩=>⟨v,h1.congr h,h2⟩
 cases hop:o.op with
 | move x=>simp only[sOp,hop] at hs ⊢;rw[← h x (by simp[hop,Op.operands])];exact hs
 | pick c x y =>
  simp only[sOp,hop] at hs ⊢;rw[← h c (by simp[hop,Op.operands]),← h x (by simp[hop,Op.operands]),← h y (by simp[hop,Op.operands])];exact hs
 | binOp op t x y t' =>
  simp only[sOp,hop] at hs ⊢;rw[← h x (by simp[hop,Op.operands]),← ybo1 (h y (by simp[hop,Op.operands]))]
  unfold binK at hs ⊢
  split at hs
  ·rename_i hx hy
   rcases hs with⟨rfl,hs⟩ | hs
   ·refine .inl ⟨rfl,?_⟩
    unfold intK at hs ⊢
    cases op <;> first | exact hs | exact pur hs
   exact .inr (pur hs)
  ·unfold boolK at hs ⊢
   cases op <;> first | exact hs | exact pur hs
  ·unfold strK at hs ⊢
   cases op <;> first | exact hs | exact pur hs
  ·unfold errK at hs ⊢
   cases op <;> first | exact hs | exact pur hs
  exact pur hs
 | unOp op t x =>
  cases op with
  | neg=>simp only[sOp,hop] at hs ⊢;rw[← h x (by simp[hop,Op.operands])];exact hs
  | not=>simp only[sOp,hop] at hs ⊢;rw[← h x (by simp[hop,Op.operands])];exact hs
  | _=>simp[sOp,hop] at hs
 | convert src dst x =>
  simp only[sOp,hop] at hs ⊢;rcases hs with hs | hs
  ·exact .inl (pur hs)
  right;rw[← h x (by simp[hop,Op.operands])];exact hs
 | load t x=>simp only[sOp,hop] at hs ⊢;rw[← h x (by simp[hop,Op.operands])];exact hs
 | fieldAddr t x k=>simp only[sOp,hop] at hs ⊢;rw[← h x (by simp[hop,Op.operands])];exact hs
 | nilCheck x=>simp only[sOp,hop] at hs ⊢;rw[← h x (by simp[hop,Op.operands])];exact hs
 | indexAddr t x i=>simp only[sOp,hop] at hs ⊢;rw[← h x (by simp[hop,Op.operands]),← h i (by simp[hop,Op.operands])];exact hs
 | extract x k=>simp only[sOp,hop] at hs ⊢;rw[← h x (by simp[hop,Op.operands])];exact hs
 | alloc t=>simp only[sOp,hop] at hs ⊢;exact hs
 | makeSlice t l c=>simp only[sOp,hop] at hs ⊢;rw[← h l (by simp[hop,Op.operands]),← h c (by simp[hop,Op.operands])];exact hs
 | buildSlice t n parts =>
  simp only[sOp,hop] at hs ⊢;have hp:∀ x∈parts.toList,ev x.2=ev' x.2:=fun x hx=>h x.2 (by simp[hop,Op.operands];exact⟨x.1,by simpa using hx⟩)
  obtain⟨e,sz,h1,rows,h2,h3,h4,h5,h6,h7⟩:=hs;exact⟨e,sz,h1,rows,h2,h3,h4,h5,by rw[← yvx _ _ hp];exact h6,h7⟩
 | slice t x lo hi mx =>
  cases mx with
  | some m=>simp[sOp,hop] at hs
  | none =>
   simp only[sOp,hop] at hs ⊢;have hx:=h x (by simp[hop,Op.operands])
   have hb:∀ (y:Option Operand) (k:Nat),(∀ z,y=some z->ev z=ev' z)->sOp.bnd ev y k=sOp.bnd ev' y k:=fun y k hy=>by
    cases y with
    | none=>rfl
    | some z=>simp only[sOp.bnd];rw[hy z rfl]
   have hlo:=fun k=>hb lo k fun z hz=>h z (by simp[hop,Op.operands,hz])
   have hhi:=fun k=>hb hi k fun z hz=>h z (by simp[hop,Op.operands,hz])
   rw[← hx];split at hs
   ·rename_i rows hxx
    obtain⟨e,sz,h1,l,hh,h2,h3,h4,h5,h6,h7⟩:=hs;rw[← hlo,← hhi];exact⟨e,sz,h1,l,hh,h2,h3,h4,h5,h6,h7⟩
   exact pur hs
 | build t parts =>
  simp only[sOp,hop] at hs ⊢;have hp:∀ x∈parts.toList,ev x.2=ev' x.2:=fun x hx=>h x.2 (by simp[hop,Op.operands];exact⟨x.1,by simpa using hx⟩)
  obtain⟨cs,h1,h2⟩:=hs;refine⟨cs,?_,h2⟩
  unfold sOp.buildC at h1 ⊢
  split at h1
  ·split at h1
   ·cases h1
   rename_i z fs hz hu hall;rw[if_neg hall];rw[← ync1 _ _ hp];exact h1
  cases h1
 | makeFunc fn first caps =>
  cases fn with
  | func f =>
   simp only[sOp,hop] at hs ⊢;obtain⟨h0,axs,h1,h2⟩:=hs;refine⟨h0,axs,?_,h2⟩
   rw[← ywx (ev:=ev) fun x hx=>h x (by simp[hop,Op.operands];exact .inr (by simpa using hx))]
   exact h1
  | _=>simp[sOp,hop] at hs
 | field t x k =>
  simp only[sOp,hop] at hs ⊢;rcases hs with hs | hs
  ·exact .inl (pur hs)
  right;rw[← h x (by simp[hop,Op.operands])];exact hs
 | index t x i=>simp only[sOp,hop] at hs ⊢;exact pur hs
 | call c =>
  obtain⟨callee,args,ts⟩:=c;have hargs:∀ x∈args.toList,ev x=ev' x:=fun x hx=>h x (by simp[hop,Op.operands,Call.operands];exact .inr (by simpa using hx))
  cases callee with
  | value fn =>
   simp only[sOp,hop] at hs ⊢;rw[← h fn (by simp[hop,Op.operands,Call.operands]),← ywx hargs]
   exact hs
  | invoke r m=>simp only[sOp,hop] at hs ⊢;exact pur hs
  | builtin b =>
   cases b with
   | len =>
    simp only[sOp,hop] at hs ⊢;obtain⟨x,t,h1,h2,h3⟩:=hs;exact⟨x,t,h1,h2,by rw[← hargs x (by rw[h1];simp)];exact h3⟩
   | min =>
    simp only[sOp,hop] at hs ⊢;obtain⟨x,y,k,m,n,h1,h2,h3,h4⟩:=hs;exact⟨x,y,k,m,n,h1,by rw[← hargs x (by rw[h1];simp)];exact h2,by rw[← hargs y (by rw[h1];simp)];exact h3,h4⟩
   | max =>
    simp only[sOp,hop] at hs ⊢;obtain⟨x,y,k,m,n,h1,h2,h3,h4⟩:=hs;exact⟨x,y,k,m,n,h1,by rw[← hargs x (by rw[h1];simp)];exact h2,by rw[← hargs y (by rw[h1];simp)];exact h3,h4⟩
   | _=>simp only[sOp,hop] at hs ⊢;exact pur hs
 | _=>simp[sOp,hop] at hs
end Go.PV

/-
 A walk over pure values: operations in whatever order.
 Conditions: none.
-/
namespace Go.PV
variable {P:Program} {N:Nat} {w0:World} {A:Nat->Prop} {I:Bor}
theorem Rel.world {M:Nat} {σ:St} {a:Act} {w w':World} {L:Lab} (hR:Rel P N M w0 A I σ a w L) (h1:w'.heap=w.heap) (h2:w'.os=w.os) (h3:w'.tape=w.tape) (h4:w'.output=w.output):Rel P N M w0 A I σ a w' L :=
 ⟨hR.dfr,hR.siz,⟨h2.trans hR.ev.os,h3.trans hR.ev.tape,h4.trans hR.ev.output,by rw[h1];exact hR.ev.size,by rw[h1];exact hR.ev.block⟩,hR.inj,by rw[h1];exact hR.lab,hR.out,hR.hA,hR.pin,
  fun s=>RelS.keep (hR.slot s) (fun b h=>⟨⟨h.1,by rw[h1];exact h.2.1,h.2.2⟩,by rw[h1]⟩) (fun b q _ h=>⟨h,by rw[h1]⟩) fun r _ hr=>⟨fun b q h=>⟨h,by rw[h1]⟩,rfl,hr,rfl⟩⟩
theorem yov1 {ops:Array Oper} {o:Oper} {σ:St} {r s r' s':Prop} (h:gOp ops o σ r s) (h1:r->r') (h2:s->s'):gOp ops o σ r' s':=by
 unfold gOp at h ⊢
 cases hg:o.guard with
 | none=>rw[hg] at h;exact h1 h
 | some jw =>
  obtain⟨j,want⟩:=jw;rw[hg] at h;obtain⟨d,hd,h⟩:=h;refine⟨d,hd,?_⟩
  split at h
  ·split at h
   ·rw[if_pos ‹_›];exact h1 h
   rw[if_neg ‹_›];exact h2 h
  ·exact⟨h.1,h2 h.2⟩
  exact h
theorem ydl1 {ops:Array Oper} {o:Oper} {σ:St} {r s:Prop} (h:gOp ops o σ r s):(r/\∀ r' s':Prop,r'->gOp ops o σ r' s')\/(s/\∀ r' s':Prop,s'->gOp ops o σ r' s'):=by
 unfold gOp at h ⊢
 cases hg:o.guard with
 | none=>rw[hg] at h;exact .inl ⟨h,fun _ _ h=>h⟩
 | some jw =>
  obtain⟨j,want⟩:=jw;rw[hg] at h;obtain⟨d,hd,h⟩:=h;split at h
  ·rename_i b hσ
   by_cases hb:b=want
   ·rw[if_pos hb] at h
    refine .inl ⟨h,fun r' s' h'=>⟨d,hd,?_⟩⟩
    rw[hσ];simp only[hb,if_true];exact h'
   rw[if_neg hb] at h;refine .inr ⟨h,fun r' s' h'=>⟨d,hd,?_⟩⟩
   rw[hσ];simp only[hb,if_false];exact h'
  ·rename_i vs hσ
   refine .inr ⟨h.2,fun r' s' h'=>⟨d,hd,?_⟩⟩
   rw[hσ];exact⟨h.1,h'⟩
  exact h.elim
theorem yzs1 {rt:Nat->SV} {o:Oper} {σ:St} (hrt:∀ r,rt r=σ r\/rt r=.u\/rt r=.tup []\/rt r=.tup [.u]):∀ r,rtL rt o σ r=σ r\/rtL rt o σ r=.u:=fun r=>by
 unfold rtL
 split
 ·exact .inr rfl
 rename_i hno
 split
 ·exact .inl rfl
 rcases hrt r with h | h | h | h
 ·exact .inl h
 ·exact .inr h
 ·exact absurd h (hno _)
 exact absurd h (hno _)
def updL (τ:Nat->SV) (ys:List (Nat×SV)):Nat->SV:=ys.foldl (fun τ y=>upd τ y.1 y.2) τ
theorem yzu (τ:Nat->SV) (y:Nat×SV) (ys:List (Nat×SV)):updL τ (y::ys)=updL (upd τ y.1 y.2) ys:=rfl
theorem ygk (τ:Nat->SV) (ys zs:List (Nat×SV)):updL τ (ys++zs)=updL (updL τ ys) zs:=by simp[updL]
theorem ytj {e:Nat}:∀ {ys:List (Nat×SV)} {τ:Nat->SV},(∀ y∈ys,y.1≠e)->updL τ ys e=τ e
 | [],_,_=>rfl
 | y::ys,τ,h=>by
  rw[yzu,ytj fun z hz=>h z (by simp[hz])]
  simp[upd,Ne.symm (h y (by simp))]
theorem ywe1 {e:Nat}:∀ {ys:List (Nat×SV)} {τ τ':Nat->SV},τ e=τ' e->updL τ ys e=updL τ' ys e
 | [],_,_,h=>h
 | y::ys,τ,τ',h=>by
  rw[yzu,yzu];refine ywe1 ?_
  unfold upd;split
  ·rfl
  exact h
theorem yel1 {e:Nat}:∀ {ys:List (Nat×SV)} {τ τ':Nat->SV},(∃ y∈ys,y.1=e)->updL τ ys e=updL τ' ys e
 | [],_,_,h=>by simp at h
 | y::ys,τ,τ',h=>by
  rw[yzu,yzu];by_cases hy:y.1=e
  ·exact ywe1 (by simp[upd,hy])
  refine yel1 ?_
  obtain⟨z,hz,hze⟩:=h;rcases List.mem_cons.1 hz with rfl | hz
  ·exact absurd hze hy
  exact⟨z,hz,hze⟩
def mg (S:List Nat) (τ:Nat->SV):St:=fun s=>if(S.contains s&&isBox (τ (2*s)))=true then τ (2*s+1) else τ (2*s)
def sp (S:List Nat) (σ:St):Nat->SV:=fun c=>if c % 2=0/\(S.contains (c / 2)&&isBox (σ (c / 2)))=true then .box [] else σ (c / 2)
theorem ygz1 (S:List Nat) (σ:St):mg S (sp S σ)=σ:=by
 funext s
 have h1:2*s % 2=0:=by omega
 have h2:2*s / 2=s:=by omega
 have h3:¬ (2*s+1) % 2=0:=by omega
 have h4:(2*s+1) / 2=s:=by omega
 unfold mg sp
 simp only[h1,h2,h3,h4,true_and,false_and,if_false]
 by_cases h:(S.contains s&&isBox (σ s))=true
 ·rw[if_pos h]
  have:S.contains s=true:=(Bool.and_eq_true_iff.1 h).1
  rw[this];rfl
 rw[if_neg h]
 simp
def encW (S:List Nat) (d:Nat) (x:SV):List (Nat×SV):=if S.contains d=true then[(2*d,if isBox x=true then .box [] else x),(2*d+1,x)] else[(2*d,x)]
def encC (r:Nat) (y:SV):List (Nat×SV):=[(2*r+1,y)]
def encO (S:List Nat):Option (Nat×SV)->List (Nat×SV)
 | some (d,x)=>encW S d x
 | none=>[]
theorem yjo {S:List Nat} {d:Nat} {x:SV} {y:Nat×SV} (h:y∈encW S d x):y.1∈wrC S d:=by
 unfold encW at h
 unfold wrC
 split at h
 ·rename_i hc
  rw[if_pos hc];simp at h
  rcases h with rfl | rfl <;> simp
 rename_i hc
 rw[if_neg hc]
 simp at h
 subst h;simp
theorem yeu {S:List Nat} {d s:Nat} (h:s≠d):2*s∉wrC S d/\2*s+1∉wrC S d:=by
 unfold wrC
 split <;> simp <;> omega
theorem yko (S:List Nat) (τ:Nat->SV) (d:Nat) (x:SV):mg S (updL τ (encW S d x))=upd (mg S τ) d x:=by
 funext s
 unfold upd
 by_cases hs:s=d
 ·subst hs
  rw[if_pos rfl];unfold mg encW
  by_cases hc:S.contains s=true
  ·rw[if_pos hc]
   have e1:updL τ [(2*s,if isBox x=true then SV.box [] else x),(2*s+1,x)] (2*s)=if isBox x=true then SV.box [] else x:=by
    have:2*s≠2*s+1:=by omega
    simp[updL,upd,this]
   have e2:updL τ [(2*s,if isBox x=true then SV.box [] else x),(2*s+1,x)] (2*s+1)=x:=by simp[updL,upd]
   rw[e1,e2];by_cases hx:isBox x=true
   ·rw[if_pos hx]
    split
    ·rfl
    rename_i h;exact absurd (by rw[hc];rfl) h
   rw[if_neg hx];split <;> rfl
  rw[if_neg hc];have:S.contains s=false:=by simpa using hc
  rw[this];simp[updL,upd]
 rw[if_neg hs]
 have hn:=yeu (S:=S) hs
 have e1:updL τ (encW S d x) (2*s)=τ (2*s):=ytj fun y hy h=>hn.1 (h▸yjo hy)
 have e2:updL τ (encW S d x) (2*s+1)=τ (2*s+1):=ytj fun y hy h=>hn.2 (h▸yjo hy)
 unfold mg
 rw[e1,e2]
theorem yyq1:∀ l:List Value,nb (l.map C.raw)=true
 | []=>rfl
 | v::l=>by simp[nb,nbC,yyq1 l]
theorem ywo1 (v:Value):nb (cellsV v)=true:=yyq1 _
theorem yav {S:List Nat} {τ:Nat->SV} {r:Nat} {y:SV} (hr:r∈S) (hb:isBox (τ (2*r))=true):mg S (updL τ (encC r y))=upd (mg S τ) r y:=by
 funext s
 unfold upd mg
 by_cases hs:s=r
 ·subst hs
  have e1:updL τ (encC s y) (2*s)=τ (2*s):=ytj fun z hz h=>by simp[encC] at hz;subst hz;simp at h
  have e2:updL τ (encC s y) (2*s+1)=y:=by simp[encC,updL,upd]
  have:S.contains s=true:=by simpa using hr
  rw[if_pos rfl,e1,e2,hb,this];rfl
 rw[if_neg hs]
 have e1:updL τ (encC r y) (2*s)=τ (2*s):=ytj fun z hz h=>by simp[encC] at hz;subst hz;simp at h;omega
 have e2:updL τ (encC r y) (2*s+1)=τ (2*s+1):=ytj fun z hz h=>by simp[encC] at hz;subst hz;simp at h;omega
 rw[e1,e2]
theorem ykj1 {S:List Nat} {τ:Nat->SV} {r:Nat} {cs:List C} (h:mg S τ r=.box cs):isBox (τ (2*r))=true:=by
 unfold mg at h
 split at h
 ·rename_i hc;exact(Bool.and_eq_true_iff.1 hc).2
 rw[h];rfl
def J (S:List Nat) (τ:Nat->SV):Prop:=∀ s∈S,isBox (τ (2*s))=true->isBox (τ (2*s+1))=true
theorem J_sp (S:List Nat) (σ:St):J S (sp S σ):=by
 intro s hs h
 have h1:2*s % 2=0:=by omega
 have h2:2*s / 2=s:=by omega
 have h3:¬ (2*s+1) % 2=0:=by omega
 have h4:(2*s+1) / 2=s:=by omega
 unfold sp at h ⊢
 simp only[h1,h2,h3,h4,true_and,false_and,if_false] at h ⊢
 split at h
 ·rename_i hc;exact(Bool.and_eq_true_iff.1 hc).2
 exact h
theorem yfl1 {S:List Nat} {τ:Nat->SV} {d:Nat} {x:SV} (h:J S τ):J S (updL τ (encW S d x)):=by
 intro s hs hb
 by_cases hsd:s=d
 ·subst hsd
  have hc:S.contains s=true:=by simpa using hs
  unfold encW at hb ⊢
  rw[if_pos hc] at hb ⊢
  have e1:updL τ [(2*s,if isBox x=true then SV.box [] else x),(2*s+1,x)] (2*s)=if isBox x=true then SV.box [] else x:=by
   have:2*s≠2*s+1:=by omega
   simp[updL,upd,this]
  have e2:updL τ [(2*s,if isBox x=true then SV.box [] else x),(2*s+1,x)] (2*s+1)=x:=by simp[updL,upd]
  rw[e1] at hb;rw[e2];by_cases hx:isBox x=true
  ·exact hx
  rw[if_neg hx] at hb;exact hb
 have hn:=yeu (S:=S) hsd
 have e1:updL τ (encW S d x) (2*s)=τ (2*s):=ytj fun y hy h=>hn.1 (h▸yjo hy)
 have e2:updL τ (encW S d x) (2*s+1)=τ (2*s+1):=ytj fun y hy h=>hn.2 (h▸yjo hy)
 rw[e1] at hb;rw[e2];exact h s hs hb
theorem ypv1 {S:List Nat} {τ:Nat->SV} {r:Nat} {y:SV} (h:J S τ) (hy:isBox y=true):J S (updL τ (encC r y)):=by
 intro s hs hb
 have e1:updL τ (encC r y) (2*s)=τ (2*s):=ytj fun z hz h=>by simp[encC] at hz;subst hz;simp at h;omega
 rw[e1] at hb
 by_cases hsr:s=r
 ·subst hsr
  have e2:updL τ (encC s y) (2*s+1)=y:=by simp[encC,updL,upd]
  rw[e2];exact hy
 have e2:updL τ (encC r y) (2*s+1)=τ (2*s+1):=ytj fun z hz h=>by simp[encC] at hz;subst hz;simp at h;omega
 rw[e2];exact h s hs hb
def runD (P:Program) (rt:Nat->SV) (S:List Nat) (e:Option Nat) (o:Oper) (σ:St) (ys:List (Nat×SV)):Prop:=match e with
 | none=>∃ d x,o.dst=some d/\stOf o=none/\isRoot (σ d)=false/\okW rt d x=true/\ys=encW S d x/\(match o.op with
  | .assign y=>isDR (evS σ y)=true/\x=evS σ y
  | _=>∃ z0,sOp P (evS σ) (rtL rt o σ) o (fun z=>z=z0)/\(x=z0\/x=frzAt z0))
 | some r=>(∃ y,dStore P rt o σ r y/\ys=encC r y)\/(∃ d y,dLend P rt o σ r d y/\ys=encO S d++encC r y)\/∃ d x,dEat P rt o σ r d x/\ys=encW S r .u++encW S d x
def stepD (P:Program) (ops:Array Oper) (rt:Nat->SV) (T:List (Nat×Nat)) (k:Nat) (o:Oper) (σ:St) (ys:List (Nat×SV)):Prop :=
 gOp ops o σ (runD P rt (T.map (·.2)) (T.lookup k) o σ ys) (∃ d,o.dst=some d/\stOf o=none/\isRoot (σ d)=false/\okW rt d (.p (.tuple #[]))=true/\ys=encW (T.map (·.2)) d (.p (.tuple #[])))
theorem ybv {T:List (Nat×Nat)} {k r:Nat} (h:T.lookup k=some r):r∈T.map (·.2):=by
 induction T with
 | nil=>cases h
 | cons x T ih =>
  obtain⟨a,b⟩:=x;simp only[List.lookup] at h;split at h
  ·obtain rfl:=Option.some.inj h;simp
  simp only[List.map_cons,List.mem_cons];exact .inr (ih h)
theorem yat1 {ops:Array Oper} {rt:Nat->SV} {T:List (Nat×Nat)} {k:Nat} {o:Oper} {τ:Nat->SV} {K:St->Prop}
  (h:gOp ops o (mg (T.map (·.2)) τ) (dOp P rt (T.lookup k) o (mg (T.map (·.2)) τ) K) (∃ d,o.dst=some d/\stOf o=none/\isRoot (mg (T.map (·.2)) τ d)=false/\okW rt d (.p (.tuple #[]))=true/\K (upd (mg (T.map (·.2)) τ) d (.p (.tuple #[]))))) :
  ∃ ys,stepD P ops rt T k o (mg (T.map (·.2)) τ) ys/\K (mg (T.map (·.2)) (updL τ ys)):=by
 rcases ydl1 h with⟨h1,h2⟩ | ⟨⟨d,h1,hst,h3,h4,h5⟩,h2⟩
 ·cases he:T.lookup k with
  | none =>
   rw[he] at h1;obtain⟨d,hd,hst,hr,h1⟩:=h1;have fin:∀ x,okW rt d x=true->K (upd (mg (T.map (·.2)) τ) d x)->(match o.op with
     | .assign y=>isDR (evS (mg (T.map (·.2)) τ) y)=true/\x=evS (mg (T.map (·.2)) τ) y
     | _=>∃ z0,sOp P (evS (mg (T.map (·.2)) τ)) (rtL rt o (mg (T.map (·.2)) τ)) o (fun z=>z=z0)/\(x=z0\/x=frzAt z0))->∃ ys,stepD P ops rt T k o (mg (T.map (·.2)) τ) ys/\K (mg (T.map (·.2)) (updL τ ys)):=fun x h5 h6 h7 =>
    ⟨encW (T.map (·.2)) d x,h2 _ _ (by rw[he];exact⟨d,x,hd,hst,hr,h5,rfl,h7⟩),by rw[yko];exact h6⟩
   have dflt:sOp P (evS (mg (T.map (·.2)) τ)) (rtL rt o (mg (T.map (·.2)) τ)) o (fun x=>∃ y,(y=x\/y=frzAt x)/\okW rt d y=true/\K (upd (mg (T.map (·.2)) τ) d y))->∃ x,(∃ z0,sOp P (evS (mg (T.map (·.2)) τ)) (rtL rt o (mg (T.map (·.2)) τ)) o (fun z=>z=z0)/\(x=z0\/x=frzAt z0))/\okW rt d x=true/\K (upd (mg (T.map (·.2)) τ) d x):=fun h=>by
    obtain⟨z0,⟨x,h3,h5,h6⟩,h4⟩:=yuo1 h;exact⟨x,⟨z0,h4 _ rfl,h3⟩,h5,h6⟩
   cases hop:o.op with
   | assign y =>
    rw[hop] at h1;obtain⟨h3,h4,h5⟩:=h1;exact fin _ h4 h5 (by rw[hop];exact⟨h3,rfl⟩)
   | _ =>
    rw[hop] at h1;obtain⟨x,h3,h4,h5⟩:=dflt h1;exact fin _ h4 h5 (by rw[hop];exact h3)
  | some r =>
   rw[he] at h1;have hrS:=ybv he;rcases h1 with⟨y,hs,hk⟩ | ⟨d,y,hs,hk⟩ | ⟨d,x,hs,hk⟩
   rotate_left 2
   ·exact⟨encW (T.map (·.2)) r .u++encW (T.map (·.2)) d x,h2 _ _ (by rw[he];exact .inr (.inr ⟨d,x,hs,rfl⟩)),by rw[ygk,yko,yko];exact hk⟩
   ·refine⟨encC r y,h2 _ _ (by rw[he];exact .inl ⟨y,hs,rfl⟩),?_⟩
    obtain⟨_,_,_,t,x,g,n,old,v,_,_,_,h6,_⟩:=hs;rw[yav hrS (ykj1 h6)];exact hk
   refine⟨encO (T.map (·.2)) d++encC r y,h2 _ _ (by rw[he];exact .inr (.inl ⟨d,y,hs,rfl⟩)),?_⟩
   obtain⟨_,fn,args,ts,f,x0,rest,axs,vals,cs,cs',_,_,_,_,h6,_,_,_,_,_,_,h7⟩:=hs;have hb:=ykj1 h6;rw[ygk];cases hd:o.dst with
   | none =>
    rw[hd] at h7;subst h7;exact(yav (τ:=τ) hrS hb).symm▸hk
   | some d' =>
    rw[hd] at h7;obtain⟨_,hne,_,rfl⟩:=h7;have hb':isBox (updL τ (encO (T.map (·.2)) (some (d',resSV vals))) (2*r))=true:=by
     show isBox (updL τ (encW (T.map (·.2)) d' (resSV vals)) (2*r))=true
     rw[ytj (e:=2*r) fun z (hz:z∈encW (T.map (·.2)) d' (resSV vals)) h=>(yeu (S:=T.map (·.2)) (Ne.symm hne)).1 (by have:=yjo hz;rw[h] at this;exact this)];exact hb
    rw[yav hrS hb'];simp only[encO];rw[yko];exact hk
 exact⟨encW (T.map (·.2)) d (.p (.tuple #[])),h2 _ _ ⟨d,h1,hst,h3,h4,rfl⟩,by rw[yko];exact h5⟩
theorem ybt1 {ops:Array Oper} {rt:Nat->SV} {T:List (Nat×Nat)} {k:Nat} {o:Oper} {σ:St} {ys:List (Nat×SV)} (h:stepD P ops rt T k o σ ys) (hE:∀ r,rt r=.tup [.u]->eatT T r=true):∀ y∈ys,y.1∈wrs T k o:=by
 have hC1:∀ r,T.lookup k=some r->2*r+1∈wrs T k o:=fun r he=>by
  unfold wrs;rw[he];refine List.mem_append_right _ ?_
  simp only
  split <;> simp
 have hW:∀ d x,o.dst=some d->∀ y∈encW (T.map (·.2)) d x,y.1∈wrs T k o:=fun d x hd y hy=>by
  unfold wrs;rw[hd];exact List.mem_append_left _ (yjo hy)
 intro y hy
 rcases ydl1 h with⟨h1,_⟩ | ⟨⟨d,h1,_,_,_,rfl⟩,_⟩
 ·unfold runD at h1
  split at h1
  ·obtain⟨d,x,hd,_,_,_,rfl,_⟩:=h1
   exact hW d x hd y hy
  rename_i r he;rcases h1 with⟨y',_,rfl⟩ | ⟨d,y',hl,rfl⟩ | ⟨d,x,hl,rfl⟩
  rotate_left 2
  ·rcases List.mem_append.1 hy with hy | hy
   ·have h5:=yjo hy
    have h6:=hE r hl.1;unfold wrs;rw[he];refine List.mem_append_right _ ?_
    simp only[h6,if_true];unfold wrC at h5;split at h5 <;> simp_all
   exact hW d x hl.2.2.1 y hy
  ·simp[encC] at hy
   subst hy;exact hC1 r he
  rcases List.mem_append.1 hy with hy | hy
  ·obtain⟨_,fn,args,ts,f,x0,rest,axs,vals,cs,cs',_,_,_,_,_,_,_,_,_,_,_,h7⟩:=hl
   cases hd:o.dst with
   | none=>rw[hd] at h7;subst h7;simp[encO] at hy
   | some d' =>
    rw[hd] at h7;obtain⟨_,_,_,rfl⟩:=h7;exact hW d' _ hd y hy
  simp[encC] at hy
  subst hy;exact hC1 r he
 exact hW d _ h1 y hy
theorem yqv1 {ops:Array Oper} {rt:Nat->SV} {T:List (Nat×Nat)} {k:Nat} {o:Oper} {σ:St} {ys:List (Nat×SV)} (h:stepD P ops rt T k o σ ys) {τ:Nat->SV} (hJ:J (T.map (·.2)) τ):J (T.map (·.2)) (updL τ ys):=by
 rcases ydl1 h with⟨h1,_⟩ | ⟨⟨d,h1,_,_,_,rfl⟩,_⟩
 ·unfold runD at h1
  split at h1
  ·obtain⟨d,x,hd,_,_,_,rfl,_⟩:=h1
   exact yfl1 hJ
  rcases h1 with⟨y',hs,rfl⟩ | ⟨d,y',hl,rfl⟩ | ⟨d,x,hl,rfl⟩
  rotate_left 2
  ·rw[ygk]
   exact yfl1 (yfl1 hJ)
  ·obtain⟨_,_,_,t,x,g,n,old,v,_,_,_,_,_,_,_,_,_,rfl⟩:=hs
   exact ypv1 hJ rfl
  obtain⟨_,fn,args,ts,f,x0,rest,axs,vals,cs,cs',_,_,_,_,_,_,_,_,_,_,rfl,_⟩:=hl;rw[ygk];refine ypv1 ?_ rfl
  cases d with
  | none=>exact hJ
  | some d=>exact yfl1 hJ
 exact yfl1 hJ
theorem yct1 {ops:Array Oper} {rt:Nat->SV} {T:List (Nat×Nat)} {k:Nat} {o:Oper} {σ:St} {ys:List (Nat×SV)} (h:stepD P ops rt T k o σ ys) {y:Nat×SV} (hy:y∈ys) {d:Nat} (hd:y.1=2*d) (hS:d∉T.map (·.2)):isRoot (σ d)=false:=by
 have hW:∀ d' x,isRoot (σ d')=false->y∈encW (T.map (·.2)) d' x->isRoot (σ d)=false:=fun d' x hr hm=>by
  have:=yjo hm
  by_cases hdd:d=d'
  ·subst hdd;exact hr
  exact absurd (hd▸this) (yeu hdd).1
 have hC:∀ r z,y∈encC r z->isRoot (σ d)=false:=fun r z hm=>by
  simp[encC] at hm
  subst hm;simp at hd
  omega
 rcases ydl1 h with⟨h1,_⟩ | ⟨⟨d',h1,_,h3,_,rfl⟩,_⟩
 ·unfold runD at h1
  split at h1
  ·obtain⟨d',x,_,_,hr,_,rfl,_⟩:=h1
   exact hW d' x hr hy
  rename_i r he;rcases h1 with⟨y',_,rfl⟩ | ⟨d',y',hl,rfl⟩ | ⟨d',x,hl,rfl⟩
  rotate_left 2
  ·rcases List.mem_append.1 hy with hy | hy
   ·have:=yjo hy
    by_cases hdr:d=r
    ·subst hdr;exact absurd (ybv he) hS
    exact absurd (hd▸this) (yeu hdr).1
   exact hW d' _ hl.2.2.2.2.1 hy
  ·exact hC _ _ hy
  rcases List.mem_append.1 hy with hy | hy
  ·obtain⟨_,fn,args,ts,f,x0,rest,axs,vals,cs,cs',_,_,_,_,_,_,_,_,_,_,_,h7⟩:=hl
   cases hod:o.dst with
   | none=>rw[hod] at h7;subst h7;simp[encO] at hy
   | some d2 =>
    rw[hod] at h7;obtain⟨hr,_,_,rfl⟩:=h7;exact hW d2 _ hr hy
  exact hC _ _ hy
 exact hW d' _ h3 hy
def same2 (rt:Nat->SV) (σ σ':St) (t:Nat):Prop:=σ t=σ' t\/(rt t=.tup []/\isBox (σ t)=true/\isBox (σ' t)=true)
theorem ydt1 {rt:Nat->SV} {σ σ':St} {x:Operand} (h:∀ t,x=.tmp t->same2 rt σ σ' t):evS σ x=evS σ' x:=by
 cases x with
 | tmp t =>
  rcases h t rfl with h | ⟨_,h1,h2⟩
  ·simp only[evS];rw[h]
  cases h3:σ t <;> rw[h3] at h1 <;> simp[isBox] at h1
  cases h4:σ' t <;> rw[h4] at h2 <;> simp[isBox] at h2
  simp[evS,h3,h4]
 | _=>rfl
theorem ygt {ops:Array Oper} {o:Oper} {rt:Nat->SV} {σ σ':St} (hl:∀ t∈o.looksAt ops,same2 rt σ σ' t) {x:Operand} (hx:x∈o.op.operands):evS σ x=evS σ' x :=
 ydt1 fun t ht=>hl t (by
  subst ht;unfold Oper.looksAt;refine List.mem_append_left _ (List.mem_filterMap.2 ⟨.tmp t,by simpa using hx,rfl⟩))
theorem ygl1 {ops:Array Oper} {o:Oper} {rt:Nat->SV} {σ σ':St} {r s:Prop} (hl:∀ t∈o.looksAt ops,same2 rt σ σ' t) (h:gOp ops o σ r s):gOp ops o σ' r s:=by
 unfold gOp at h ⊢
 cases hg:o.guard with
 | none=>rw[hg] at h;exact h
 | some jw =>
  obtain⟨j,want⟩:=jw;rw[hg] at h;obtain⟨d,hd,h⟩:=h;refine⟨d,hd,?_⟩
  rcases hl d (by unfold Oper.looksAt;rw[hg];simp[hd]) with h1 | ⟨_,h1,_⟩
  ·rw[← h1];exact h
  exfalso
  cases h2:σ d <;> rw[h2] at h1 h <;> simp[isBox] at h1
  exact h
theorem yrz {rt:Nat->SV} {ops:Array Oper} {o:Oper} {σ σ':St} (hl:∀ t∈o.looksAt ops,same2 rt σ σ' t):rtL rt o σ=rtL rt o σ':=funext fun r=>by
 unfold rtL
 split
 ·rfl
 rename_i hno
 by_cases hx:o.op.operands.any (isTm r)=true
 ·rw[if_pos hx,if_pos hx]
  obtain⟨i,hi,h1⟩:=Array.any_eq_true.1 hx;have hr:r∈o.looksAt ops:=by
   unfold Oper.looksAt;refine List.mem_append_left _ (List.mem_filterMap.2 ⟨.tmp r,?_,rfl⟩)
   cases ht:o.op.operands[i] with
   | tmp t =>
    rw[ht] at h1;have:t=r:=by simpa [isTm] using h1
    subst this;rw[← ht];simp
   | _=>rw[ht] at h1;cases h1
  rcases hl r hr with h | ⟨h,_⟩
  ·exact h
  exact absurd h (hno [])
 rw[if_neg hx,if_neg hx]
theorem ylj1 {ops:Array Oper} {rt:Nat->SV} {T:List (Nat×Nat)} {k:Nat} {o:Oper} {σ σ':St} {ys:List (Nat×SV)} (h:stepD P ops rt T k o σ ys) (hl:∀ t∈o.looksAt ops,same2 rt σ σ' t)
  (hd:∀ d,o.dst=some d->σ d=σ' d) (hr:∀ r,T.lookup k=some r->σ r=σ' r):stepD P ops rt T k o σ' ys:=by
 refine yov1 (ygl1 hl h) (fun h=>?_) (fun ⟨d,h1,h2,h3,h4⟩=>⟨d,h1,h2,by rw[← hd d h1];exact h3,h4⟩)
 unfold runD at h ⊢
 split at h
 ·obtain⟨d,x,h1,h2,h3,h4,h5,h6⟩:=h
  refine⟨d,x,h1,h2,by rw[← hd d h1];exact h3,h4,h5,?_⟩
  cases hop:o.op with
  | assign y =>
   rw[hop] at h6;obtain⟨h7,h8⟩:=h6;have e:=ygt hl (x:=y) (by rw[hop];simp[Op.operands])
   exact⟨by rw[← e];exact h7,by rw[← e];exact h8⟩
  | _ =>
   rw[hop] at h6;obtain⟨z0,h6,h7⟩:=h6;refine⟨z0,?_,h7⟩
   rw[← yrz hl];exact yvo1 (fun x hx=>ygt hl hx) h6
 rename_i r he
 rcases h with⟨y,⟨h1,h2,h3,t,x,g,n,old,v,h4,h5,h6,h7,h8,h9,h10,h11⟩,hy⟩ | ⟨d,y,⟨h1,fn,args,ts,f,x0,rest,axs,vals,cs,cs',h2,h3,h4,h5,h6,h7,h8,h9,h10,h11,h12,h13⟩,hy⟩ | ⟨d,x,⟨h1,h2,h3,h4,h5,h6,h7⟩,hy⟩
 rotate_left 2
 ·refine .inr (.inr ⟨d,x,⟨h1,h2,h3,h4,by rw[← hd d h3];exact h5,h6,?_⟩,hy⟩)
  rcases h7 with⟨h7,h8,h9⟩ | ⟨args,ts,y,t,e,sz,rows,rows2,h7,h8,h9,h10,h11,h12,h13,h14⟩
  ·exact .inl ⟨h7,by rw[← hr r he];exact h8,by rw[← hr r he];exact h9⟩
  refine .inr ⟨args,ts,y,t,e,sz,rows,rows2,h7,h8,h9,h10,h11,by rw[← hr r he];exact h12,?_,h14⟩
  rw[← yrz hl,← ygt hl (x:=y) (by rw[h7];simp[Op.operands,Call.operands];have:y∈args.toList:=(by rw[h8];simp);simpa using this)]
  exact h13
 ·exact .inl ⟨y,⟨h1,h2,h3,t,x,g,n,old,v,h4,h5,h6,by rw[← hr r he];exact h7,h8,h9,by rw[← ygt hl (x:=x) (by rw[h4];simp[Op.operands])];exact h10,h11⟩,hy⟩
 have hop:∀ z∈args.toList,evS σ z=evS σ' z:=fun z hz=>ygt hl (by rw[h2];simp[Op.operands,Call.operands];exact .inr (by simpa using hz))
 have hrest:rest.map (evS σ)=rest.map (evS σ'):=List.map_congr_left fun z hz=>hop z (by rw[h3];simp[hz])
 refine .inr (.inl ⟨d,y,⟨h1,fn,args,ts,f,x0,rest,axs,vals,cs,cs',h2,h3,?_,?_,by rw[← hr r he];exact h6,?_,h8,by rw[← hrest];exact h9,h10,h11,h12,?_⟩,hy⟩)
 ·rw[← ygt hl (x:=fn) (by rw[h2];simp[Op.operands,Call.operands])];exact h4
 ·rw[← hop x0 (by rw[h3];simp)];exact h5
 ·rw[← yrz hl,← hrest];exact h7
 cases hod:o.dst with
 | none=>rw[hod] at h13;exact h13
 | some d' =>
  rw[hod] at h13;exact⟨by rw[← hd d' hod];exact h13.1,h13.2⟩
theorem ycv {r:Nat} {x:SV} (h:killLn r x=x):∀ q m,x≠.ref r q m:=by
 rintro q m rfl
 simp[killLn] at h
theorem ysg1 {σ:St} {r:Nat} {y:SV} (h:∀ s,killLn r (σ s)=σ s):lendBack σ r none y=upd σ r y:=by
 funext s
 unfold lendBack upd
 by_cases hs:s=r
 ·rw[if_pos hs,if_pos hs];rfl
 rw[if_neg hs,if_neg hs,h]
theorem yxo1 {rt σ:Nat->SV} (hrt:∀ r,rt r=σ r\/rt r=.u) {x:SV} {z:Bool×List C} (h:deref rt x=some z):deref σ x=some z:=by
 cases x with
 | ref r q n =>
  rcases hrt r with h1 | h1
  ·simp only[deref] at h ⊢;rw[← h1];exact h
  simp only[deref,h1,rows1] at h;have:getRow ([]:List (List C)) q=none:=by
   rcases q with _ | ⟨⟨a,b⟩,q⟩
   ·rfl
   cases q <;> simp[getRow]
  rw[this] at h;cases n <;> cases h
 | _=>exact h
theorem yhz1 {M:Nat} {σ:St} {a:Act} {w:World} {L:Lab} (hR:Rel P N M w0 A I σ a w L) {d:Nat} (h:isRoot (σ d)=false) (s:Nat):refOf (σ s)≠some d:=fun he=>by
 have h0:=hR.slot s
 cases hs:σ s <;> rw[hs] at he h0 <;> simp only[refOf] at he <;> first | (cases he;done) | skip
 ·have e:=Option.some.inj he
  have:=h0.1
  rw[e,h] at this;cases this
 have e:=Option.some.inj he
 have:=h0.1
 rw[e,h] at this;cases this
theorem Rel.frzAt {M:Nat} {σ:St} {a:Act} {w:World} {L:Lab} (hR:Rel P N M w0 A I σ a w L) (r:Nat) (hno:∀ s,s≠r->refOf (σ s)≠some r) :
  ∃ L',Rel P N M w0 A I (upd σ r (Go.PV.frzAt (σ r))) a w L':=by
 cases ht:isTup (σ r) with
 | false =>
  obtain⟨L',h1,_⟩:=hR.frz r;refine⟨L',?_⟩
  have e:Go.PV.frz r σ=upd σ r (Go.PV.frzAt (σ r)):=by
   unfold Go.PV.frz;rw[ht];funext s
   simp only[Bool.false_eq_true,if_false];unfold upd;by_cases hs:s=r
   ·subst hs
    rw[if_pos rfl,if_pos rfl];cases h:σ s <;> rw[h] at ht <;> simp[isTup] at ht <;> rfl
   rw[if_neg hs,if_neg hs];have:=hno s hs
   cases h:σ s with
   | ref r' q n =>
    rw[h] at this;have:r'≠r:=fun e=>this (by rw[e];rfl)
    simp[killD,this]
   | addr r' q =>
    rw[h] at this;have:r'≠r:=fun e=>this (by rw[e];rfl)
    simp[killD,this]
   | _=>rfl
  rw[← e];exact h1
 | true =>
  obtain⟨l,hl⟩:∃ l,σ r=.tup l:=by cases h:σ r <;> rw[h] at ht <;> simp[isTup] at ht;exact⟨_,rfl⟩
  have hz:∀ b,Zof w0 A L w b->Zof w0 A (frzL r L) w b/\w.heap[b]?=w.heap[b]?:=fun b h=>⟨⟨by simp[frzL,h.1],h.2⟩,rfl⟩
  have hzr:∀ q b,q≠[]->L b=some (r,q)->Zof w0 A (frzL r L) w b:=fun q b hq hb=>by
   have h1:=hR.lab b _ hb;refine⟨by simp[frzL,hb,hq],h1.1,?_⟩
   rcases h1.2.1 with h | h
   ·exact .inr h
   exact .inl (hR.hA.2 b h)
  have hlab:∀ s,s≠r->∀ b q,L b=some (s,q)->frzL r L b=some (s,q)/\w.heap[b]?=w.heap[b]?:=fun s h1 b q hb=>⟨by simp[frzL,hb,h1],rfl⟩
  refine⟨frzL r L,hR.dfr,hR.siz,hR.ev,fun b b' l h1 h2=>hR.inj _ _ _ (yyq h1).1 (yyq h2).1,fun b l h=>hR.lab b l (yyq h).1,fun s hs=>?_,hR.hA,hR.pin,fun s=>?_⟩
  ·unfold upd
   split
   ·rename_i h;subst h;rw[hR.out s hs];rfl
   exact hR.out s hs
  have h0:=hR.slot s;by_cases hsr:s=r
  ·subst hsr
   rw[hl] at h0;have e:upd σ s (Go.PV.frzAt (σ s)) s=.tup (l.map frzSV):=by simp[upd,hl,Go.PV.frzAt]
   rw[e];obtain⟨arr,h1,h2,h3⟩:=h0;refine⟨arr,h1,by rw[h2,List.length_map],fun j y hj=>?_⟩
   rw[List.getElem?_map] at hj;cases hlj:l[j]? with
   | none=>rw[hlj] at hj;cases hj
   | some y0 =>
    rw[hlj] at hj;simp only[Option.map_some,Option.some.injEq] at hj;subst hj;have h4:=h3 j y0 hlj;cases y0 with
    | p v=>exact h4
    | d g cs=>exact FrzV.mono h4 hz
    | ov g cs =>
     simp only at h4
     show FrzV _ _ _ _ (eraR cs)
     refine⟨by rw[yam,List.length_map];exact h4.1,fun j' c hj'=>?_⟩
     obtain⟨c0,h5,rfl⟩:=ycu hj'
     exact(h4.2 j' c0 h5).freeze hz fun b q hb=>⟨hzr _ b (by simp) hb,rfl⟩
    | _=>trivial
  have e:upd σ r (Go.PV.frzAt (σ r)) s=σ s:=by simp[upd,hsr]
  rw[e];refine h0.keep hz (fun b q _ hb=>hlab s hsr b q hb) fun x hx hxr=>?_
  have hxne:x≠r:=fun h=>hno s hsr (h▸hx)
  exact⟨hlab x hxne,rfl,by simpa [upd,hxne] using hxr,by simp[upd,hxne]⟩
theorem ymj1 {ops:Array Oper} {rt:Nat->SV} {T:List (Nat×Nat)} {k:Nat} {o:Oper} {τ:Nat->SV} {ys:List (Nat×SV)} (h:stepD P ops rt T k o (mg (T.map (·.2)) τ) ys) (hd:∀ d,o.dst=some d->I.pins.length<=d/\d<N) {a:Act} {w:World} {L:Lab}
  (hR:Rel P N N w0 A I (mg (T.map (·.2)) τ) a w L) (hrt0:∀ r,rt r=mg (T.map (·.2)) τ r\/rt r=.u\/rt r=.tup []\/rt r=.tup [.u]) (hh:hid T (mg (T.map (·.2)) τ)) (hE:∀ r,r∈T.map (·.2)->(rt r=.tup [.u]↔eatT T r=true))
  {next:Act->World->Prop} {Q:Exit->Act->World->Prop} (hn:∀ a' w' L',Rel P N N w0 A I (mg (T.map (·.2)) (updL τ ys)) a' w' L'->next a' w') :
  if Region.wanted o (yielded ops a.tmps) then o.wp P a w next Q\/(o.asks P a w/\LetsOut Q) else next (a.put o.dst undef) w:=by
 generalize hσ:mg (T.map (·.2)) τ=σ at h hR hrt0 hh
 rcases yto1 hR h with⟨hw,h1⟩ | ⟨hw,d,h1,hst,h3,h4,rfl⟩
 rotate_left
 ·rw[if_neg (by rw[hw];simp)]
  rw[h1];have hput:put σ d (.p (.tuple #[]))=upd σ d (.p (.tuple #[])):=by unfold put;rw[if_neg (by rw[h3];simp)]
  have:=hR.up.put (hd d h1) (sv:=.p (.tuple #[])) (tv:=undef) rfl
  rw[hput] at this;exact hn _ _ _ (by rw[yko,hσ];exact this)
 rw[if_pos hw]
 refine .inl ?_
 unfold runD at h1
 split at h1
 ·obtain⟨d,x,h1,hst,h3,h4,rfl,h5⟩:=h1
  rw[yko,hσ] at hn;have hput:∀ y,put σ d y=upd σ d y:=fun y=>by unfold put;rw[if_neg (by rw[h3];simp)]
  have dflt:(∃ z0,sOp P (evS σ) (rtL rt o σ) o (fun z=>z=z0)/\(x=z0\/x=frzAt z0))->o.wp P a w next Q:=fun ⟨z0,h,hx⟩=>yai1 hR (yzs1 (o:=o) hrt0) h fun v w' L1 sv h6 h7 h8=>by
   subst h6;rw[h1];have:=h7.put (hd d h1) h8
   rw[hput] at this;rcases hx with rfl | rfl
   ·exact hn _ _ _ this
   obtain⟨L2,h9⟩:=this.frzAt d fun s hs=>by
    simp only[upd,if_neg hs];exact yhz1 hR h3 s
   have e:upd (upd σ d sv) d (frzAt (upd σ d sv d))=upd σ d (frzAt sv):=by
    funext s
    unfold upd;by_cases hs:s=d <;> simp[hs]
   rw[e] at h9;exact hn _ _ _ h9
  cases hop:o.op with
  | assign y =>
   rw[hop] at h5;obtain⟨h6,rfl⟩:=h5;refine yot (v:=a.eval y) (w':=w) (by simp[execOp,hop]) ?_
   rw[h1];have hev:=ysh hR N y (by cases h7:evS σ y <;> rw[h7] at h6 <;> simp[isDR] at h6 <;> rfl)
   have:=hR.up.put (hd d h1) (sv:=evS σ y) (tv:=a.eval y) (RelS.keep hev (fun b h=>⟨h,rfl⟩) (fun b q h=>by cases h7:evS σ y <;> rw[h7] at h6 h <;> simp[isDR,isLab] at h6 h) fun r h=>by cases h7:evS σ y <;> rw[h7] at h6 h <;> simp[isDR,refOf] at h6 h)
   rw[hput] at this;exact hn _ _ _ this
  | _ =>
   rw[hop] at h5;exact dflt h5
 rename_i r he
 have hrS:=ybv he
 have hhr:=hh r hrS
 have hkl':rt r=.tup []->∀ s,killLn r (σ s)=σ s:=fun h=>by
  have h1:¬ eatT T r=true:=fun h2=>by have:=(hE r hrS).2 h2;rw[h] at this;cases this
  rw[if_neg h1] at hhr;exact hhr.2
 rcases h1 with⟨y,⟨h1,h2,h3,t,x,g,n,old,v,h4,h5,h6,h7,h8,h9,h10,h11,h12,rfl⟩,rfl⟩ | ⟨d,y,⟨h1,fn,args,ts,f,x0,rest,axs,vals,cs,cs',h2,h3,h4,h5,h6,h7,h8,h9,h10,h11,rfl,h13⟩,rfl⟩ | ⟨d,x,⟨h1,h2,h3,h4,h5,h6,h7⟩,rfl⟩
 rotate_left 2
 ·have hks:∀ s,killSV r (σ s)=σ s:=by
   rw[if_pos ((hE r hrS).1 h1)] at hhr;exact hhr.2
  rw[ygk,yko,yko,hσ] at hn;have hg:gone σ r=upd σ r .u:=by
   funext s
   unfold gone upd
   split
   ·rfl
   exact hks s
  have hput:∀ y,put (upd σ r .u) d y=upd (upd σ r .u) d y:=fun y=>by
   unfold put;rw[if_neg];simp[upd,h4,h5]
  rcases h7 with⟨h7,⟨g,cs,h8⟩,rfl⟩ | ⟨args,ts,y,t,e,sz,rows,rows2,h7,h8,h9,h10,h11,h12,h13,h14,h15,rfl⟩
  ·obtain⟨L',h9⟩:=ymg1 hR h8 (hd d h3)
   refine yot (v:=a.eval (.tmp r)) (w':=w) (by simp[execOp,h7]) ?_
   rw[h3];have:trans σ r d=upd (upd σ r .u) d (σ r):=by unfold trans;rw[hg,hput]
   rw[this] at h9;exact hn _ _ L' h9
  refine yhs (K:=fun σ'=>σ'=upd (upd σ r .u) d (.ov false [.sl (some e) (rows++rows2)])) hR hd ?_ fun a' w' σ' L' h16 h17=>by subst h16;exact hn _ _ _ h17
  have hadd:addRows σ (evS σ y)=some (rows2,none):=by
   have:slOf σ (evS σ y)=some (none,rows2):=by
    unfold slOf at h13 ⊢
    cases hde:deref (rtL rt o σ) (evS σ y) with
    | none=>rw[hde] at h13;cases h13
    | some z=>rw[yxo1 (yzs1 (o:=o) hrt0) hde];rw[hde] at h13;exact h13
   unfold addRows;rw[this]
  have hap:apSrc σ (.tmp r)=.ref r [(0,0)] none:=by simp[apSrc,h12,isD,evS]
  simp only[pvOp,h7];refine .inl ⟨.tmp r,y,t,h8,h9,e,sz,rows2,none,h10,h11,hadd,h14,?_⟩
  rw[hap];refine⟨by simp,?_⟩
  rw[h12];refine⟨rfl,h15,?_⟩
  rw[h3];show put (gone σ r) d _=_
  rw[hg,hput]
 ·have hkl:=hkl' h3
  have hb:isBox (τ (2*r))=true:=ykj1 (S:=T.map (·.2)) (by rw[hσ];exact h7)
  rw[yav hrS hb,hσ] at hn;have hcl:(cellsV v).length=n:=by simp[cellsV,h12]
  have hra:(raws (cellsV v)).isSome=true:=by
   have:∀ l:List Value,(raws (l.map .raw)).isSome=true:=by
    intro l;induction l with
    | nil=>rfl
    | cons x l ih =>
     simp only[List.map_cons,raws];cases hr:raws (l.map C.raw) with
     | none=>rw[hr] at ih;simp at ih
     | some vs=>rfl
   exact this _
  have hto:old.take n=old:=List.take_of_length_le (by omega)
  refine yyk1 (K:=fun σ'=>σ'=stScal σ r [(0,0)] (cellsV v)) hR h4 ?_ fun w' σ' L' h13 h14=>?_
  ·refine⟨h2,g,n,r,[(0,0)],old,cellsV v,none,h5,h6,by rw[h7];rfl,by simp[evS,h7],by rw[h7];simp[rows1,getRow],by omega,by rw[h10];simp[mvCells,h11],hcl,ywo1 v,by simp,?_⟩
   rw[hto,h9,hra];rfl
  subst h13;have e:stScal σ r [(0,0)] (cellsV v)=upd σ r (.box (cellsV v)):=by
   funext s
   unfold stScal upd
   by_cases hsd:s=r
   ·rw[if_pos hsd,if_pos hsd,h7]
    simp only[setCs];rw[yww];simp only[List.modify_zero_cons,List.take_zero,List.nil_append,List.headD_cons,Nat.zero_add];rw[List.drop_of_length_le (by omega),List.append_nil]
   rw[if_neg hsd,if_neg hsd];have:=ycv (hkl s)
   cases hss:σ s with
   | ref r' q m =>
    cases m with
    | none=>rfl
    | some m =>
     simp only[killAgg];by_cases hrd:r'=r
     ·subst hrd;exact absurd hss (this q (some m))
     rw[if_neg hrd]
   | _=>rfl
  rw[e] at h14;exact hn _ _ L' h14
 have hkl:=hkl' h1
 have hb:isBox (τ (2*r))=true:=ykj1 (S:=T.map (·.2)) (by rw[hσ];exact h6)
 have hnr:r∉(rest.map (evS σ)).flatMap rootOf:=by
  intro hmem;simp only[List.mem_flatMap,List.mem_map] at hmem;obtain⟨sv,⟨z,_,rfl⟩,hz⟩:=hmem;cases z with
  | tmp t =>
   simp only[evS] at hz;cases ht:σ t with
   | ov g cs0 =>
    rw[ht] at hz;simp[rootOf] at hz
    subst hz;rw[h6] at ht;cases ht
   | ref r' q m =>
    rw[ht] at hz;simp[rootOf] at hz
    subst hz;exact ycv (hkl t) _ _ ht
   | d g cs0 =>
    rw[ht] at hz;split at hz <;> first | (simp[rootOf] at hz;done) | skip
    all_goals (rename_i heq;first | (cases heq;done) | skip)
    all_goals simp_all [rootOf]
   | _=>rw[ht] at hz;simp[rootOf] at hz
  | const v=>simp only[evS] at hz;split at hz <;> simp[rootOf] at hz
  | global g=>simp[evS,rootOf] at hz
  | func f=>simp[evS,rootOf] at hz
 have hl:lendOf σ (evS σ x0)=some (r,none,.box cs):=by rw[h5];simp[lendOf,h6]
 have go:∃ fz:Bool,(if fz then frzAll ((rest.map (evS σ)).flatMap rootOf) σ else σ)=σ/\(fz=true\/(vals.all simpleR&&wnS (.box cs'))=true):=by
  rcases h9 with h9 | h9
  ·exact⟨false,rfl,.inr (by rw[h11];exact h9)⟩
  exact⟨true,by rw[h9];rfl,.inl rfl⟩
 obtain⟨fz,hfz,hfz2⟩:=go
 obtain⟨h14,h15⟩:=yxq1 (fz:=fz) hR h4 (yzs1 (o:=o) hrt0) hl h7 h8 hnr h10 rfl hfz2
 rw[hfz,ysg1 hkl] at h15
 refine yoz h2 h14 h10.1 ?_
 have:(x0::rest).toArray=args:=by rw[← h3]
 rw[this] at h15
 rw[Array.append_empty]
 refine h15.mono ?_
 rintro e w' ⟨v,L1,rfl,h16,h17⟩
 refine⟨v,rfl,?_⟩
 obtain⟨L',h18⟩:=yut h16 h17 o.dst hd
 rw[ygk] at hn
 refine hn _ _ L' ?_
 cases hod:o.dst with
 | none =>
  rw[hod] at h13 h18
  subst h13;have e:mg (T.map (·.2)) (updL (updL τ (encO (T.map (·.2)) none)) (encC r (.box cs')))=upd σ r (.box cs'):=by
   simp only[encO];show mg (T.map (·.2)) (updL τ (encC r (.box cs')))=_
   rw[yav hrS hb,hσ]
  rw[e];exact h18
 | some d' =>
  rw[hod] at h13 h18
  obtain⟨h19,hne,_,rfl⟩:=h13;have hb':isBox (updL τ (encO (T.map (·.2)) (some (d',resSV vals))) (2*r))=true:=by
   show isBox (updL τ (encW (T.map (·.2)) d' (resSV vals)) (2*r))=true
   rw[ytj (e:=2*r) fun z (hz:z∈encW (T.map (·.2)) d' (resSV vals)) h=>(yeu (S:=T.map (·.2)) (Ne.symm hne)).1 (by have:=yjo hz;rw[h] at this;exact this)];exact hb
  have e:mg (T.map (·.2)) (updL (updL τ (encO (T.map (·.2)) (some (d',resSV vals)))) (encC r (.box cs')))=putO (some d') (resSV vals) (upd σ r (.box cs')):=by
   rw[yav hrS hb'];simp only[encO];rw[yko,hσ];have hput:put (upd σ r (.box cs')) d' (resSV vals)=upd (upd σ r (.box cs')) d' (resSV vals):=by
    unfold put;rw[if_neg];simp[upd,hne,h19]
   simp only[putO,hput];funext s
   unfold upd;by_cases h20:s=r
   ·subst h20;simp[Ne.symm hne]
   simp[h20]
  rw[e];exact h18
end Go.PV

/-
 A walk over pure values: regions where the order is open.
 Conditions: none.
-/
namespace Go.PV
variable {P:Program} {N:Nat} {w0:World} {A:Nat->Prop} {I:Bor}
def appS (S:Nat->Bool):List (List (Nat×SV))->Nat->(Nat->SV)->Nat->SV
 | [],_,τ=>τ
 | y::l,k,τ=>appS S l (k+1) (if S k then updL τ y else τ)
theorem yhq {S S':Nat->Bool} {e:Nat}:∀ (l:List (List (Nat×SV))) (k:Nat) (σ σ':Nat->SV),σ e=σ' e->(∀ j ys,l[j]?=some ys->(∃ y∈ys,y.1=e)->S (k+j)=S' (k+j))->appS S l k σ e=appS S' l k σ' e
 | [],_,_,_,h,_=>h
 | y::l,k,σ,σ',h,hs=>by
  simp only[appS];refine yhq l (k+1) _ _ ?_ fun j z hz hze=>by
   have:=hs (j+1) z (by simpa using hz) hze
   rw[show k+1+j=k+(j+1) from by omega];exact this
  by_cases hy:∃ z∈y,z.1=e
  ·have:=hs 0 y rfl hy
   simp only[Nat.add_zero] at this;rw[this];by_cases h2:S' k=true
   ·rw[if_pos h2,if_pos h2];exact yel1 hy
   rw[if_neg h2,if_neg h2];exact h
  have hn:∀ (τ:Nat->SV),updL τ y e=τ e:=fun τ=>ytj fun z hz he=>hy ⟨z,hz,he⟩
  have:∀ (b:Bool) (τ:Nat->SV),(if b then updL τ y else τ) e=τ e:=fun b τ=>by
   cases b
   ·rfl
   exact hn τ
  rw[this,this];exact h
theorem ydv {S:Nat->Bool} {e:Nat} (l:List (List (Nat×SV))) (k:Nat) (σ:Nat->SV) (h:∀ j ys,l[j]?=some ys->(∃ y∈ys,y.1=e)->S (k+j)=false):appS S l k σ e=σ e:=by
 rw[yhq (S':=fun _=>false) l k σ σ rfl h]
 clear h
 induction l generalizing k with
 | nil=>rfl
 | cons y l ih=>exact ih (k+1)
theorem ydi1 {S:Nat->Bool} {e:Nat}:∀ (l:List (List (Nat×SV))) (k i:Nat) (σ:Nat->SV) (ys:List (Nat×SV)),l[i]?=some ys->(∃ y∈ys,y.1=e)->S (k+i)=true ->
  (∀ j z,i<j->l[j]?=some z->(∃ y∈z,y.1=e)->S (k+j)=false)->∀ τ,appS S l k σ e=updL τ ys e
 | [],_,_,_,_,h,_,_,_=>by simp at h
 | x::l,k,0,σ,y,h,he,hs,hn=>by
  intro τ;simp at h
  subst h;simp only[appS];rw[ydv l (k+1) _ fun j z hz hze=>by rw[show k+1+j=k+(j+1) from by omega];exact hn (j+1) z (by omega) (by simpa using hz) hze]
  rw[if_pos (by simpa using hs)];exact yel1 he
 | x::l,k,i+1,σ,y,h,he,hs,hn=>by
  simp only[appS];refine ydi1 l (k+1) i _ y (by simpa using h) he (by rw[show k+1+i=k+(i+1) from by omega];exact hs) fun j z hj hz hze=>?_
  rw[show k+1+j=k+(j+1) from by omega];exact hn (j+1) z (by omega) (by simpa using hz) hze
theorem yrv1 {S:List Nat} {B:Nat->Bool}:∀ (l:List (List (Nat×SV))) (k:Nat) (τ:Nat->SV),J S τ->(∀ ys∈l,∀ τ,J S τ->J S (updL τ ys))->J S (appS B l k τ)
 | [],_,_,h,_=>h
 | y::l,k,τ,h,hl=>by
  simp only[appS];refine yrv1 l (k+1) _ ?_ fun z hz=>hl z (by simp[hz])
  split
  ·exact hl y (by simp) τ h
  exact h
theorem yhl1 {ops:Array Oper} {rt:Nat->SV} {T:List (Nat×Nat)} {K:St->Prop}:∀ (l:List Oper) (k:Nat) (τ:Nat->SV),pvD P ops rt T k l (mg (T.map (·.2)) τ) K ->
  ∃ ps:List (List (Nat×SV)),ps.length=l.length/\K (mg (T.map (·.2)) (appS (fun _=>true) ps k τ))/\∀ j o ys,l[j]?=some o->ps[j]?=some ys->stepD P ops rt T (k+j) o (mg (T.map (·.2)) (appS (fun i=>decide (i<k+j)) ps k τ)) ys
 | [],k,τ,h=>⟨[],rfl,h,by simp⟩
 | o::l,k,τ,h=>by
  obtain⟨ys,h1,h2⟩:=yat1 (K:=fun σ'=>pvD P ops rt T (k+1) l σ' K) h
  obtain⟨ps,h3,h4,h5⟩:=yhl1 l (k+1) _ h2
  refine⟨ys::ps,by simp[h3],h4,fun j o' y ho hy=>?_⟩
  cases j with
  | zero =>
   simp at ho hy
   subst ho hy
   have:appS (fun i=>decide (i<k+0)) (ys::ps) k τ=τ:=funext fun e=>ydv _ _ _ fun j y _ _=>by simp
   rw[this];exact h1
  | succ j =>
   have:=h5 j o' y (by simpa using ho) (by simpa using hy)
   simp only[appS];rw[show k+(j+1)=k+1+j from by omega,if_pos (by simp;omega)]
   exact this
def cntS (S:Nat->Bool):Nat->Nat
 | 0=>0
 | n+1=>cntS S n+(if S n then 0 else 1)
theorem yxe1 {S S':Nat->Bool}:∀ n,(∀ j,j<n->S j=S' j)->cntS S n=cntS S' n
 | 0,_=>rfl
 | n+1,h=>by simp only[cntS];rw[yxe1 n fun j hj=>h j (by omega),h n (by omega)]
theorem ytg1 {S S':Nat->Bool} {i:Nat}:∀ n,i<n->S i=false->S' i=true->(∀ j,j≠i->S' j=S j)->cntS S' n+1=cntS S n
 | 0,h,_,_,_=>by omega
 | n+1,h,h1,h2,h3=>by
  simp only[cntS];by_cases hi:i=n
  ·subst hi
   rw[h1,h2,yxe1 i fun j hj=>h3 j (by omega)];simp
  have:=ytg1 n (by omega) h1 h2 h3
  rw[h3 n (Ne.symm hi)];omega
theorem ywa2 {p:Nat->Bool}:∀ n,(∃ j,j<n/\p j=true)->∃ j,j<n/\p j=true/\∀ k,k<j->p k=false
 | 0,⟨_,h,_⟩=>by omega
 | n+1,⟨j,hj,hp⟩=>by
  by_cases h:∃ j,j<n/\p j=true
  ·obtain⟨j,h1,h2⟩:=ywa2 n h
   exact⟨j,by omega,h2⟩
  refine⟨j,hj,hp,fun k hk=>?_⟩
  cases hpk:p k with
  | false=>rfl
  | true=>exact absurd ⟨k,by omega,hpk⟩ h
theorem waits_iff {o:Oper} {k:Nat}:waitsOn o k=true↔∃ e∈o.after,Region.binds .any e=true/\e.on=k:=by
 unfold waitsOn
 rw[Array.any_eq_true]
 constructor
 ·rintro⟨i,h,h1⟩
  simp at h1
  exact⟨o.after[i],Array.getElem_mem h,h1⟩
 rintro⟨e,he,h1,h2⟩
 obtain⟨i,h,rfl⟩:=Array.mem_iff_getElem.1 he
 exact⟨i,h,by simp[h1,h2]⟩
section
variable {ops:Array Oper} {n:Nat} {T:List (Nat×Nat)} {Q:Exit->Act->World->Prop} {K:St->Prop}
inductive WT (ops:Array Oper):Nat->Nat->Prop where
 | one {j k:Nat} {o:Oper} (h:ops[j]?=some o) (hw:waitsOn o k=true):WT ops j k
 | more {j i k:Nat} {o:Oper} (h:ops[j]?=some o) (hw:waitsOn o i=true) (ht:WT ops i k):WT ops j k
theorem yil1 {ms:List Nat} {o:Oper} {k:Nat} (h:(maskOf ms o).testBit k=true):∃ i,waitsOn o i=true/\(i=k\/(ms.getD i 0).testBit k=true):=by
 have key:∀ (l:List Edge) (s:Nat),(∀ e∈l,e∈o.after)->(l.foldl (fun s e=>if Region.binds .any e then s ||| (2 ^ e.on ||| ms.getD e.on 0) else s) s).testBit k=true ->
   s.testBit k=true\/∃ i,waitsOn o i=true/\(i=k\/(ms.getD i 0).testBit k=true):=by
  intro l;induction l with
  | nil=>exact fun s _ h=>.inl h
  | cons e l ih =>
   intro s hl h;simp only[List.foldl_cons] at h;rcases ih _ (fun e he=>hl e (by simp[he])) h with h1 | h1
   ·by_cases hb:Region.binds .any e=true
    ·rw[if_pos hb] at h1
     rw[Nat.testBit_or,Nat.testBit_or,Bool.or_eq_true,Bool.or_eq_true] at h1;have hw:waitsOn o e.on=true:=waits_iff.2 ⟨e,hl e (by simp),hb,rfl⟩
     rcases h1 with h1 | h1 | h1
     ·exact .inl h1
     ·rw[Nat.testBit_two_pow] at h1
      exact .inr ⟨e.on,hw,.inl (by simpa using h1)⟩
     exact .inr ⟨e.on,hw,.inr h1⟩
    rw[if_neg hb] at h1;exact .inl h1
   exact .inr h1
 rcases key o.after.toList 0 (fun e he=>by simpa using he) h with h1 | h1
 ·simp at h1
 exact h1
theorem yye1:∀ (l:List Oper) (pre:List Oper) (ms:List Nat),ops.toList=pre++l->ms.length=pre.length->(∀ j k,(ms.getD j 0).testBit k=true->WT ops j k)->∀ j k,((masks l ms).getD j 0).testBit k=true->WT ops j k
 | [],pre,ms,_,_,h=>h
 | o::l,pre,ms,he,hl,h=>by
  refine yye1 l (pre++[o]) (ms++[maskOf ms o]) (by simp[he]) (by simp[hl]) fun j k hjk=>?_
  by_cases hj:j<ms.length
  ·have e:(ms++[maskOf ms o]).getD j 0=ms.getD j 0:=by simp[List.getD,List.getElem?_append_left hj]
   rw[e] at hjk;exact h j k hjk
  by_cases hj2:j=ms.length
  ·subst hj2
   have e:(ms++[maskOf ms o]).getD ms.length 0=maskOf ms o:=by simp[List.getD]
   rw[e] at hjk;have ho:ops[ms.length]?=some o:=by
    have:ops.toList[ms.length]?=some o:=by rw[he,hl];simp
    simpa using this
   obtain⟨i,h1,h2⟩:=yil1 hjk;rcases h2 with rfl | h2
   ·exact .one ho h1
   exact .more ho h1 (h i k h2)
  have e:(ms++[maskOf ms o]).getD j 0=0:=by
   have:(ms++[maskOf ms o]).length<=j:=by simp;omega
   simp[List.getD,List.getElem?_eq_none this]
  rw[e] at hjk;simp at hjk
theorem yiq (h:drawB ops n T=true) {j:Nat} {oj:Oper} (hj:ops[j]?=some oj) :
  (∀ e∈oj.after,Region.binds .any e=true->e.on<j)/\∀ k ok,k<j->ops[k]?=some ok->WT ops j k\/(j<n/\apartE ops T k ok j oj=true)\/(n<=k/\freeO ops k ok=true):=by
 have hlt:j<ops.size:=(Array.getElem?_eq_some_iff.1 hj).1
 have:=List.all_eq_true.1 (Bool.and_eq_true_iff.1 h).2 j (List.mem_range.2 hlt)
 rw[hj] at this
 simp only[Bool.and_eq_true] at this
 refine⟨fun e he hb=>?_,fun k ok hk hok=>?_⟩
 ·have h1:=(Array.all_eq_true_iff_forall_mem.1 this.1) e he
  simpa [hb] using h1
 have h1:=List.all_eq_true.1 this.2 k (List.mem_range.2 hk)
 rw[hok] at h1
 simp only[Bool.or_eq_true,Bool.and_eq_true,decide_eq_true_eq] at h1
 rcases h1 with h1 | h1 | h1 | h1
 ·exact .inl (.one hj h1)
 ·exact .inr (.inl h1)
 ·exact .inl (yye1 ops.toList [] [] rfl rfl (fun j k h=>by simp at h) j k h1)
 exact .inr (.inr h1)
theorem yei1 {o:Oper} (hp:plainO o=true) {a:Act} {w:World} {next:Act->World->Prop} {Q:Exit->Act->World->Prop} (hQ:∀ c a w,¬ Q (.panic c) a w) (h:o.wp P a w next Q) :
  o.guard=none/\∃ v,(∀ w',(execOp a.eval o).run P w'=.ok (.value v) w')/\next (a.put o.dst v) w:=by
 simp only[plainO,Bool.and_eq_true,Option.isNone_iff_eq_none] at hp
 refine⟨hp.1,?_⟩
 have hp:=hp.2
 unfold Oper.wp at h
 split at hp
 ·rename_i t hop
  have hr:∀ w',(execOp a.eval o).run P w'=.ok (.value (a.eval (.tmp t))) w':=fun w'=>by simp[execOp,hop]
  rw[hr] at h;exact⟨_,hr,h⟩
 ·rename_i t hop
  have hr:∀ w',(execOp a.eval o).run P w'=.ok (.value (a.eval (.tmp t))) w':=fun w'=>by simp[execOp,hop]
  rw[hr] at h;exact⟨_,hr,h⟩
 ·rename_i t k hop
  have he:∀ w',(execOp a.eval o).run P w'=((Instr.extract (a.eval (.tmp t)) k).bind fun v=>pure (Next.value v)).run P w':=fun w'=>by simp only[execOp,hop];rfl
  cases hv:a.eval (.tmp t) with
  | tuple arr =>
   by_cases hk:k<arr.size
   ·have hr:∀ w',(execOp a.eval o).run P w'=.ok (.value (arr[k])) w':=fun w'=>by simp[execOp,hop,hv,Instr.extract,hk]
    rw[hr] at h;exact⟨_,hr,h⟩
   exfalso
   simp[execOp,hop,hv,Instr.extract,hk] at h
   exact h.elim
  | _ =>
   exfalso
   simp[execOp,hop,hv,Instr.extract] at h
   exact h.elim
 cases hp
theorem yiz1 {listed:Array Bool} {m n:Nat} (hs:listed.size=n) (hl:∀ j,j<n->listed.getD j false=decide (j<m)):listed=lst m n:=by
 refine Array.ext (by simp[lst,hs]) fun i h1 h2=>?_
 have:=hl i (by omega)
 rw[Array.getD_eq_getD_getElem?,Array.getElem?_eq_getElem h1] at this
 simp only[Option.getD_some] at this
 rw[this]
 simp[lst]
theorem yjq {listed:Array Bool} (hs:listed.size=ops.size) {j:Nat} (hj:j<ops.size):listed.getD j true=listed.getD j false:=by
 have:j<listed.size:=by omega
 simp[this]
theorem yyw {listed:Array Bool} {i k:Nat} {oi:Oper} (hi:i∈Region.ready .any ops listed) (ho:ops[i]?=some oi) (h:waitsOn oi k=true):listed.getD k false=true:=by
 obtain⟨_,o,h1,h2⟩:=mem_ready.1 hi
 rw[ho] at h1
 obtain rfl:=Option.some.inj h1
 obtain⟨e,he,hb,rfl⟩:=waits_iff.1 h
 exact h2 e he hb
theorem yug1 {listed:Array Bool} (hcl:∀ j k oj,listed.getD j false=true->ops[j]?=some oj->waitsOn oj k=true->listed.getD k false=true) {i k:Nat} (hi:i∈Region.ready .any ops listed) (h:WT ops i k):listed.getD k false=true:=by
 have clo:∀ j k,WT ops j k->listed.getD j false=true->listed.getD k false=true:=by
  intro j k h;induction h with
  | one h hw=>exact fun hj=>hcl _ _ _ hj h hw
  | more h hw _ ih=>exact fun hj=>ih (hcl _ _ _ hj h hw)
 cases h with
 | one h hw=>exact yyw hi h hw
 | more h hw ht=>exact clo _ _ ht (yyw hi h hw)
theorem yyo1 {listed:Array Bool} (hcl:∀ j k oj,listed.getD j false=true->ops[j]?=some oj->waitsOn oj k=true->listed.getD k false=true) {j k:Nat} (hj:listed.getD j false=true) (h:WT ops j k):listed.getD k false=true:=by
 induction h with
 | one h hw=>exact hcl _ _ _ hj h hw
 | more h hw _ ih=>exact ih (hcl _ _ _ hj h hw)
theorem yzw (hB:drawB ops n T=true) {listed:Array Bool} {j:Nat} (hj:j<ops.size) (hl:listed.getD j true=false) (hk:∀ k,k<j->listed.getD k false=true):j∈Region.ready .any ops listed:=by
 refine mem_ready.2 ⟨hl,ops[j],by simp[hj],fun e he hb=>hk _ ?_⟩
 exact(yiq hB (oj:=ops[j]) (by simp[hj])).1 e he hb
theorem yze1 (hB:drawB ops n T=true) (hO:opsB I.pins.length N ops.toList=true) (hQ:∀ c a w,¬ Q (.panic c) a w) (hK:∀ a w σ L,K σ->Rel P N N w0 A I σ a w L->Q .normal a w) :
  ∀ (fuel m:Nat) (listed:Array Bool) (a:Act) (w:World) (σ:St) (L:Lab),n<=m->ops.size-m<=fuel->m<=ops.size->listed.size=ops.size ->
  (∀ j,j<ops.size->listed.getD j false=decide (j<m))->Rel P N N w0 A I σ a w L->pvL P ops (ops.toList.drop m) σ K->wpAny P .any ops Q fuel listed a w:=by
 intro fuel
 induction fuel with
 | zero =>
  intro m listed a w σ L hnm hf hm hs hl hR h;refine⟨?_,?_⟩
  ·cases hr:Region.ready .any ops listed with
   | nil=>rfl
   | cons i r =>
    have hi:i∈Region.ready .any ops listed:=by rw[hr];simp
    obtain⟨h1,o,ho,_⟩:=mem_ready.1 hi;have hlt:i<ops.size:=(Array.getElem?_eq_some_iff.1 ho).1
    rw[yjq hs hlt,hl i hlt] at h1;simp at h1
    omega
  rw[List.drop_of_length_le (by simp;omega)] at h
  exact hK a w σ L h hR
 | succ fuel ih =>
  intro m listed a w σ L hnm hf hm hs hl hR h;have hcase:m=ops.size\/m<ops.size:=by omega
  by_cases hfree:∃ o,ops[m]?=some o/\freeO ops m o=true
  ·obtain⟨o,ho,hfr⟩:=hfree
   simp only[freeO,Bool.and_eq_true] at hfr;obtain⟨hpl,hns,hfr⟩:=hfr;have hlt:m<ops.size:=(Array.getElem?_eq_some_iff.1 ho).1
   have hd:ops.toList.drop m=o::ops.toList.drop (m+1):=by
    rw[List.drop_eq_getElem_cons (by simpa using hlt)];congr 1
    have:=(Array.getElem?_eq_some_iff.1 ho).2
    simpa using this
   rw[hd] at h;have hdst:∀ d,o.dst=some d->I.pins.length<=d/\d<N:=fun d hd=>by
    have:=List.all_eq_true.1 hO o (by have:=Array.mem_of_getElem? ho;simpa using this)
    rw[hd] at this;simpa using this
   have hgn:o.guard=none:=by
    simp only[plainO,Bool.and_eq_true,Option.isNone_iff_eq_none] at hpl;exact hpl.1
   rw[← yiz1 hs hl] at hfr;have hready:=yzw hB hlt (by rw[yjq hs hlt,hl m hlt];simp) fun k hk=>by rw[hl k (by omega)];simpa using hk
   have h5:pvOpF P o σ fun σ'=>pvL P ops (ops.toList.drop (m+1)) σ' K:=by
    simp only[pvL,gOp,hgn] at h;exact h
   have hwp:=yao (next:=fun a' w'=>∃ σ' L',pvL P ops (ops.toList.drop (m+1)) σ' K/\Rel P N N w0 A I σ' a' w' L') (Q:=Q) hR hdst h5 fun a' w' σ' L' h6 h7=>⟨σ',L',h6,h7⟩
   obtain⟨_,v,hv,σ',L',h6,h7⟩:=yei1 hpl hQ hwp;have hw:Region.wanted o (yielded ops a.tmps)=true:=by unfold Region.wanted;rw[hgn]
   refine wpAny_take ho hns hfr (by simpa using hready) (fun c a w h=>absurd h (hQ c _ _)) (.inl ⟨hw,hv⟩) ?_
   exact ih (m+1) _ _ w σ' L' (by omega) (by omega) (by omega) (by simpa using hs) (fun j hj=>by
     by_cases hji:j=m
     ·subst hji
      have:j<listed.size:=by omega
      simp[this]
     rw[getD_set_ne false (Ne.symm hji),hl j hj];simp
     omega) h7 h6
  refine⟨fun hr=>?_,fun i hi=>?_⟩
  ·rcases hcase with hc | hc
   ·rw[List.drop_of_length_le (by simp;omega)] at h
    exact hK a w σ L h hR
   have:=yzw hB hc (by rw[yjq hs hc,hl m hc];simp) fun k hk=>by rw[hl k (by omega)];simpa using hk
   rw[hr] at this;simp at this
  obtain⟨h1,o,ho,_⟩:=mem_ready.1 hi;have hlt:i<ops.size:=(Array.getElem?_eq_some_iff.1 ho).1
  rw[yjq hs hlt,hl i hlt] at h1;have hmi:m<=i:=by simpa using h1
  have him:i=m:=by
   rcases Nat.lt_or_ge m i with h2 | h2
   ·have hm':m<ops.size:=by omega
    rcases(yiq hB ho).2 m ops[m] h2 (by simp[hm']) with h3 | h3 | h3
    ·have hcl:∀ j k oj,listed.getD j false=true->ops[j]?=some oj->waitsOn oj k=true->listed.getD k false=true:=fun j k oj hj hoj hw=>by
      have hjs:j<ops.size:=(Array.getElem?_eq_some_iff.1 hoj).1
      rw[hl j hjs] at hj;obtain⟨e,he,hb,rfl⟩:=waits_iff.1 hw;have:=(yiq hB hoj).1 e he hb
      rw[hl e.on (by omega)];simp at hj ⊢
      omega
     have:=yug1 hcl hi h3
     rw[hl m hm'] at this;simp at this
    ·omega
    exact absurd ⟨_,by simp[hm'],h3.2⟩ hfree
   omega
  subst him;have hd:ops.toList.drop i=o::ops.toList.drop (i+1):=by
   rw[List.drop_eq_getElem_cons (by simpa using hlt)];congr 1
   have:=(Array.getElem?_eq_some_iff.1 ho).2
   simpa using this
  rw[hd] at h;have hdst:∀ d,o.dst=some d->I.pins.length<=d/\d<N:=fun d hd=>by
   have:=List.all_eq_true.1 hO o (by have:=Array.mem_of_getElem? ho;simpa using this)
   rw[hd] at this;simpa using this
  have next:∀ a' w' σ' L',pvL P ops (ops.toList.drop (i+1)) σ' K->Rel P N N w0 A I σ' a' w' L'->wpAny P .any ops Q fuel (listed.setIfInBounds i true) a' w':=fun a' w' σ' L' h1 h2 =>
   ih (i+1) _ a' w' σ' L' (by omega) (by omega) (by omega) (by simpa using hs) (fun j hj=>by
    by_cases hji:j=i
    ·subst hji
     have:j<listed.size:=by omega
     simp[this]
    rw[getD_set_ne false (Ne.symm hji),hl j hj];simp
    omega) h2 h1
  unfold wpOp;rw[ho];rcases yto1 hR h with⟨h4,h5⟩ | ⟨h4,h5⟩
  ·simp only[h4,if_true]
   exact .inl (yao hR hdst h5 fun a' w' σ' L' h6 h7=>next a' w' σ' L' h6 h7)
  simp only[h4,Bool.false_eq_true,if_false];obtain⟨L',h6⟩:=yut (tv:=undef) (sv:=.p (.tuple #[])) hR.up rfl o.dst hdst
  exact next _ _ _ L' h5 h6
end
end Go.PV

/-
 A walk over pure values: regions where the order is open,whole.
 Conditions: none.
-/
namespace Go.PV
variable {P:Program} {N:Nat} {w0:World} {A:Nat->Prop} {I:Bor} {ops:Array Oper} {n:Nat} {T:List (Nat×Nat)} {Q:Exit->Act->World->Prop} {K:St->Prop}
theorem apart_spec {k j:Nat} {x y:Oper} (h:apartE ops T k x j y=true):(∀ c∈wrs T k x,c∉lks ops T j y/\c∉wrs T j y)/\∀ c∈wrs T j y,c∉lks ops T k x:=by
 unfold apartE at h
 simp only[Bool.and_eq_true,List.all_eq_true] at h
 refine⟨fun c hc=>?_,fun c hc=>?_⟩
 ·have:=h.1 c hc
  simpa using this
 have:=h.2 c hc
 simpa using this
theorem yjz1 {σ:St} {r:Nat} (h1:∀ s,killLn r (σ s)=σ s) (h2:∀ g cs,σ r≠.ov g cs) (y:Operand):killLn r (evS σ y)=evS σ y:=by
  cases y with
  | tmp t =>
    have ht:=h1 t;simp only[evS];cases hs:σ t with
    | ov g cs =>
      have:t≠r:=by rintro rfl;exact h2 g cs hs
      simp[killLn,this]
    | box cs=>simp[killLn]
    | d g cs => split <;> first | rfl | (rename_i heq; cases heq; done) | skip
                all_goals simp_all
                all_goals rfl
    | ref r' q m=>rw[hs] at ht;exact ht
    | addr r' q=>rw[hs] at ht;exact ht
    | _=>rfl
  | const v=>simp only[evS];split <;> rfl
  | global g=>rfl
  | func f=>rfl
theorem yjl1 (r:Nat) (l:List RV):killLn r (resSV l)=resSV l:=by
 cases l with
 | nil=>rfl
 | cons a l =>
  cases l with
  | nil=>cases a <;> rfl
  | cons b l=>rfl
theorem ysv1 (r:Nat) (g:Bool) (cs:List C):killLn r (mkD g cs)=mkD g cs:=by
 unfold mkD;split <;> rfl
theorem ykz1 {rt:Nat->SV} {o:Oper} {σ:St} {x:SV} {r:Nat} (h:sOp P (evS σ) rt o (fun z=>z=x)) (hr:rt r=.u) (h1:∀ s,killLn r (σ s)=σ s) (h2:∀ g cs,σ r≠.ov g cs):killLn r x=x:=by
 have ev:=yjz1 h1 h2
 obtain⟨dst,op,ty,ps,af,gd⟩:=o
 have pur:∀ {v:Value},SV.p v=x->killLn r x=x:=fun h=>by subst h;rfl
 cases op with
 | move y=>simp only[sOp] at h;rw[← h.2];exact ev _
 | pick c y z=>simp only[sOp] at h;obtain⟨t,_,_,rfl⟩:=h;cases t <;> exact ev _
 | binOp op t y z t2 =>
  simp only[sOp] at h;unfold binK at h;split at h
  ·rcases h with⟨_,h⟩ | ⟨_,_,h⟩
   ·unfold intK at h
    split at h <;> first | exact pur h | exact pur h.2 | (obtain⟨_,_,h⟩:=h;exact pur h)
   exact pur h
  ·unfold boolK at h
   split at h <;> first | exact pur h.2 | (obtain⟨_,_,h⟩:=h;exact pur h)
  ·unfold strK at h
   split at h <;> first | exact pur h | exact pur h.2 | (obtain⟨_,_,h⟩:=h;exact pur h)
  ·unfold errK at h
   split at h <;> first | exact pur h.2 | (obtain⟨_,_,h⟩:=h;exact pur h)
  obtain⟨_,_,h⟩:=h;exact pur h
 | unOp uo t y =>
  cases uo <;> simp only[sOp] at h
  ·obtain⟨_,_,_,h⟩:=h;exact pur h
  obtain⟨_,_,h⟩:=h;exact pur h
 | convert a b y =>
  simp only[sOp] at h;rcases h with⟨_,_,h⟩ | ⟨_,_,_,_,_,_,_,_,h⟩ <;> exact pur h
 | load t y =>
  simp only[sOp,loadK] at h;obtain⟨g,n,_,_,h⟩:=h;split at h
  ·obtain⟨_,rfl⟩:=h
   exact ysv1 _ _ _
  ·rename_i r' q' hev
   obtain⟨cs,h3,_,h⟩:=h;split at h
   ·subst h;rfl
   split at h
   ·subst h;rfl
   split at h
   ·subst h
    have:r'≠r:=by
     rintro rfl
     rw[hr] at h3;simp only[rows1] at h3;cases q' with
     | nil=>simp[getRow] at h3
     | cons a q'=>obtain⟨a1,a2⟩:=a;cases q' <;> simp[getRow] at h3
    simp[killLn,this]
   subst h;rfl
  exact h.elim
 | fieldAddr t y k =>
  simp only[sOp] at h;obtain⟨off,_,h⟩:=h;split at h
  ·subst h;rfl
  ·rename_i r' q hev
   subst h;have h3:=ev y;rw[hev] at h3;by_cases hrr:r'=r
   ·subst hrr
    rcases q with _ | ⟨⟨i,o⟩,_ | ⟨z,q⟩⟩
    ·simp[killLn] at h3
    ·cases i with
     | zero=>simp[bumpP,killLn]
     | succ i=>simp[killLn] at h3
    cases i <;> simp[killLn] at h3
   simp[killLn,hrr]
  exact h.elim
 | nilCheck y =>
  simp only[sOp] at h;have h3:=ev y;split at h
  ·subst h;rfl
  ·rename_i r' q hev;rw[hev] at h3;subst h;exact h3
  exact h.elim
 | indexAddr t y i =>
  simp only[sOp,idxK] at h;split at h
  ·obtain⟨_,e,sz,o,rows,row,_,_,_,_,h⟩:=h
   split at h
   ·subst h;rfl
   ·rename_i r' q hev _
    have h3:=ev y;rw[hev] at h3;subst h;have:r'≠r:=by rintro rfl;exact ycv h3 _ _ rfl
    simp[killLn,this]
   exact h.elim
  exact h.elim
 | extract y k =>
  simp only[sOp] at h;obtain⟨l,z,_,_,h3,rfl⟩:=h;cases z <;> simp[isDR] at h3 <;> rfl
 | alloc t=>simp only[sOp] at h;obtain⟨_,_,rfl⟩:=h;rfl
 | makeSlice t l c=>simp only[sOp] at h;obtain⟨_,_,_,_,_,_,_,_,_,_,rfl⟩:=h;rfl
 | buildSlice t n parts=>simp only[sOp] at h;obtain⟨_,_,_,_,_,_,_,_,_,rfl⟩:=h;rfl
 | slice t y lo hi mx =>
  cases mx with
  | some m=>simp[sOp] at h
  | none =>
   simp only[sOp] at h;split at h
   ·obtain⟨_,_,_,_,_,_,_,_,_,_,rfl⟩:=h;rfl
   obtain⟨_,_,h⟩:=h;exact pur h
 | build t parts=>simp only[sOp] at h;obtain⟨cs,_,rfl⟩:=h;exact ysv1 _ _ _
 | makeFunc fn first caps =>
  cases fn with
  | func f=>simp only[sOp] at h;obtain⟨_,_,_,rfl⟩:=h;rfl
  | _=>simp[sOp] at h
 | field t y k =>
  simp only[sOp] at h;rcases h with⟨_,_,h⟩ | ⟨r',hev,_,_,_,h⟩
  ·exact pur h
  have h3:=ev y;rw[hev] at h3;subst h;have:r'≠r:=by rintro rfl;exact ycv h3 _ _ rfl
  simp[killLn,this]
 | index t y i=>simp only[sOp] at h;obtain⟨_,_,h⟩:=h;exact pur h
 | call c =>
  obtain⟨callee,args,ts⟩:=c;cases callee with
  | value fn =>
   simp only[sOp] at h;obtain⟨f,caps,axs,res,_,_,_,_,_,_,rfl⟩:=h;exact yjl1 _ _
  | invoke r m=>simp only[sOp] at h;obtain⟨_,_,h⟩:=h;exact pur h
  | builtin b =>
   cases b with
   | len =>
    simp only[sOp] at h;obtain⟨y,t,_,_,h⟩:=h;unfold lenK at h;split at h
    ·exact pur h.2
    obtain⟨_,_,_,_,h⟩:=h;exact pur h
   | min=>simp only[sOp] at h;obtain⟨_,_,_,_,_,_,_,_,h⟩:=h;exact pur h
   | max=>simp only[sOp] at h;obtain⟨_,_,_,_,_,_,_,_,h⟩:=h;exact pur h
   | _=>simp only[sOp] at h;obtain⟨_,_,h⟩:=h;exact pur h
 | _=>simp[sOp] at h
theorem ylz1 {σ:St} {r:Nat} (h1:∀ s,killSV r (σ s)=σ s) {y:Operand} (h2:y≠.tmp r):killSV r (evS σ y)=evS σ y:=by
  cases y with
  | tmp t =>
    have ht:=h1 t;have htr:t≠r:=fun h=>h2 (by rw[h])
    simp only[evS];cases hs:σ t with
    | ov g cs=>simp[killSV,htr]
    | box cs=>simp[killSV,htr]
    | d g cs => split <;> first | rfl | (rename_i heq; cases heq; done) | skip
                all_goals simp_all
                all_goals rfl
    | ref r' q m=>rw[hs] at ht;exact ht
    | addr r' q=>rw[hs] at ht;exact ht
    | _=>rfl
  | const v=>simp only[evS];split <;> rfl
  | global g=>rfl
  | func f=>rfl
theorem ykl1 (r:Nat) (l:List RV):killSV r (resSV l)=resSV l:=by
 cases l with
 | nil=>rfl
 | cons a l =>
  cases l with
  | nil=>cases a <;> rfl
  | cons b l=>rfl
theorem ytv1 (r:Nat) (g:Bool) (cs:List C):killSV r (mkD g cs)=mkD g cs:=by
 unfold mkD;split <;> rfl
theorem ymz1 {rt:Nat->SV} {o:Oper} {σ:St} {x:SV} {r:Nat} (h:sOp P (evS σ) rt o (fun z=>z=x)) (hr:rt r=.u) (h1:∀ s,killSV r (σ s)=σ s) (h2:∀ y∈o.op.operands,y≠.tmp r):killSV r x=x:=by
 have ev:=fun y hy=>ylz1 (y:=y) h1 (h2 y hy)
 obtain⟨dst,op,ty,ps,af,gd⟩:=o
 have pur:∀ {v:Value},SV.p v=x->killSV r x=x:=fun h=>by subst h;rfl
 cases op with
 | move y=>simp only[sOp] at h;rw[← h.2];exact ev _ (by simp[Op.operands])
 | pick c y z=>simp only[sOp] at h;obtain⟨t,_,_,rfl⟩:=h;cases t <;> exact ev _ (by simp[Op.operands])
 | binOp op t y z t2 =>
  simp only[sOp] at h;unfold binK at h;split at h
  ·rcases h with⟨_,h⟩ | ⟨_,_,h⟩
   ·unfold intK at h
    split at h <;> first | exact pur h | exact pur h.2 | (obtain⟨_,_,h⟩:=h;exact pur h)
   exact pur h
  ·unfold boolK at h
   split at h <;> first | exact pur h.2 | (obtain⟨_,_,h⟩:=h;exact pur h)
  ·unfold strK at h
   split at h <;> first | exact pur h | exact pur h.2 | (obtain⟨_,_,h⟩:=h;exact pur h)
  ·unfold errK at h
   split at h <;> first | exact pur h.2 | (obtain⟨_,_,h⟩:=h;exact pur h)
  obtain⟨_,_,h⟩:=h;exact pur h
 | unOp uo t y =>
  cases uo <;> simp only[sOp] at h
  ·obtain⟨_,_,_,h⟩:=h;exact pur h
  obtain⟨_,_,h⟩:=h;exact pur h
 | convert a b y =>
  simp only[sOp] at h;rcases h with⟨_,_,h⟩ | ⟨_,_,_,_,_,_,_,_,h⟩ <;> exact pur h
 | load t y =>
  simp only[sOp,loadK] at h;obtain⟨g,n,_,_,h⟩:=h;split at h
  ·obtain⟨_,rfl⟩:=h
   exact ytv1 _ _ _
  ·rename_i r' q' hev
   obtain⟨cs,h3,_,h⟩:=h;split at h
   ·subst h;rfl
   split at h
   ·subst h;rfl
   split at h
   ·subst h
    have:r'≠r:=by
     rintro rfl
     rw[hr] at h3;simp only[rows1] at h3;cases q' with
     | nil=>simp[getRow] at h3
     | cons a q'=>obtain⟨a1,a2⟩:=a;cases q' <;> simp[getRow] at h3
    simp[killSV,this]
   subst h;rfl
  exact h.elim
 | fieldAddr t y k =>
  simp only[sOp] at h;obtain⟨off,_,h⟩:=h;split at h
  ·subst h;rfl
  ·rename_i r' q hev
   subst h;have h3:=ev y (by simp[Op.operands])
   rw[hev] at h3;by_cases hrr:r'=r
   ·subst hrr;simp[killSV] at h3
   simp[killSV,hrr]
  exact h.elim
 | nilCheck y =>
  simp only[sOp] at h;have h3:=ev y (by simp[Op.operands])
  split at h
  ·subst h;rfl
  ·rename_i r' q hev;rw[hev] at h3;subst h;exact h3
  exact h.elim
 | indexAddr t y i =>
  simp only[sOp,idxK] at h;split at h
  ·obtain⟨_,e,sz,o,rows,row,_,_,_,_,h⟩:=h
   split at h
   ·subst h;rfl
   ·rename_i r' q hev _
    have h3:=ev y (by simp[Op.operands])
    rw[hev] at h3;subst h;have:r'≠r:=by rintro rfl;simp[killSV] at h3
    simp[killSV,this]
   exact h.elim
  exact h.elim
 | extract y k =>
  simp only[sOp] at h;obtain⟨l,z,_,_,h3,rfl⟩:=h;cases z <;> simp[isDR] at h3 <;> rfl
 | alloc t=>simp only[sOp] at h;obtain⟨_,_,rfl⟩:=h;rfl
 | makeSlice t l c=>simp only[sOp] at h;obtain⟨_,_,_,_,_,_,_,_,_,_,rfl⟩:=h;rfl
 | buildSlice t n parts=>simp only[sOp] at h;obtain⟨_,_,_,_,_,_,_,_,_,rfl⟩:=h;rfl
 | slice t y lo hi mx =>
  cases mx with
  | some m=>simp[sOp] at h
  | none =>
   simp only[sOp] at h;split at h
   ·obtain⟨_,_,_,_,_,_,_,_,_,_,rfl⟩:=h;rfl
   obtain⟨_,_,h⟩:=h;exact pur h
 | build t parts=>simp only[sOp] at h;obtain⟨cs,_,rfl⟩:=h;exact ytv1 _ _ _
 | makeFunc fn first caps =>
  cases fn with
  | func f=>simp only[sOp] at h;obtain⟨_,_,_,rfl⟩:=h;rfl
  | _=>simp[sOp] at h
 | field t y k =>
  simp only[sOp] at h;rcases h with⟨_,_,h⟩ | ⟨r',hev,_,_,_,h⟩
  ·exact pur h
  have h3:=ev y (by simp[Op.operands])
  rw[hev] at h3;subst h;have:r'≠r:=by rintro rfl;simp[killSV] at h3
  simp[killSV,this]
 | index t y i=>simp only[sOp] at h;obtain⟨_,_,h⟩:=h;exact pur h
 | call c =>
  obtain⟨callee,args,ts⟩:=c;cases callee with
  | value fn =>
   simp only[sOp] at h;obtain⟨f,caps,axs,res,_,_,_,_,_,_,rfl⟩:=h;exact ykl1 _ _
  | invoke r m=>simp only[sOp] at h;obtain⟨_,_,h⟩:=h;exact pur h
  | builtin b =>
   cases b with
   | len =>
    simp only[sOp] at h;obtain⟨y,t,_,_,h⟩:=h;unfold lenK at h;split at h
    ·exact pur h.2
    obtain⟨_,_,_,_,h⟩:=h;exact pur h
   | min=>simp only[sOp] at h;obtain⟨_,_,_,_,_,_,_,_,h⟩:=h;exact pur h
   | max=>simp only[sOp] at h;obtain⟨_,_,_,_,_,_,_,_,h⟩:=h;exact pur h
   | _=>simp only[sOp] at h;obtain⟨_,_,h⟩:=h;exact pur h
 | _=>simp[sOp] at h
theorem yet1 {r:Nat} {x:SV} (h:killLn r x=x):killLn r (frzAt x)=frzAt x:=by
 cases x <;> first | rfl | exact h
theorem yft1 {r:Nat} {x:SV} (h:killSV r x=x):killSV r (frzAt x)=frzAt x:=by
 cases x <;> first | rfl | exact h
def mrk (T:List (Nat×Nat)) (r:Nat):SV:=if eatT T r=true then .tup [.u] else .tup []
theorem yll1 {σ:St} {r:Nat} (h:r∈T.map (·.2)):rtOf T σ r=mrk T r:=by unfold rtOf mrk;rw[if_pos (by simpa using h)]
theorem mrk_iff {r:Nat}:mrk T r=.tup [.u]↔eatT T r=true:=by
 unfold mrk
 split
 ·simp_all
 simp_all
theorem yxa2 {rt:Nat->SV} {σ':St} {o:Oper} {r:Nat} (h:rt r=mrk T r):rtL rt o σ' r=.u:=by
 unfold rtL
 rw[h]
 unfold mrk
 cases eatT T r <;> rfl
def klOf (T:List (Nat×Nat)) (r:Nat) (x:SV):SV:=if eatT T r=true then killSV r x else killLn r x
def rkOf (T:List (Nat×Nat)) (r:Nat) (x:SV):Bool:=if eatT T r=true then isOvS x else isBox x
theorem hid_iff {σ:St}:hid T σ↔∀ r∈T.map (·.2),(isRoot (σ r)=true->rkOf T r (σ r)=true)/\∀ s,klOf T r (σ s)=σ s:=by
 unfold hid klOf rkOf
 refine⟨fun h r hr=>?_,fun h r hr=>?_⟩
 ·have:=h r hr
  split at this <;> simp_all
 have:=h r hr
 split <;> simp_all
theorem yxx {σ:St} {d:Nat} {x:SV} (h:hid T σ) (h1:d∈T.map (·.2)->isRoot x=true->rkOf T d x=true) (h2:∀ r∈T.map (·.2),klOf T r x=x):hid T (upd σ d x):=by
 rw[hid_iff] at h ⊢
 intro r hr
 refine⟨fun hroot=>?_,fun s=>?_⟩
 ·unfold upd at hroot ⊢
  split
  ·rename_i hrd
   rw[if_pos hrd] at hroot;have:=h1 (hrd▸hr) hroot
   rw[hrd];exact this
  rename_i hrd;rw[if_neg hrd] at hroot;exact(h r hr).1 hroot
 unfold upd
 split
 ·exact h2 r hr
 exact(h r hr).2 s
theorem ysk {T:List (Nat×Nat)} {r:Nat} {x:SV} (h1:killSV r x=x) (h2:killLn r x=x):klOf T r x=x:=by
 unfold klOf;split
 ·exact h1
 exact h2
theorem yzo1 {rt:Nat->SV} {k:Nat} {o:Oper} {τ:Nat->SV} {ys:List (Nat×SV)} (h:stepD P ops rt T k o (mg (T.map (·.2)) τ) ys) (hrt:∀ r∈T.map (·.2),rt r=mrk T r) (hop:T.lookup k=none->∀ r,eatT T r=true->∀ y∈o.op.operands,y≠.tmp r)
  (hh:hid T (mg (T.map (·.2)) τ)):hid T (mg (T.map (·.2)) (updL τ ys)):=by
 have hok:∀ d x,okW rt d x=true->d∈T.map (·.2)->isRoot x=true->rkOf T d x=true:=fun d x h1 h2 _=>by
  unfold okW at h1;rw[hrt d h2] at h1;unfold rkOf;unfold mrk at h1;split
  ·rename_i he;rw[if_pos he] at h1;exact h1
  rename_i he;rw[if_neg he] at h1;exact h1
 have hi:=hid_iff.1 hh
 rcases ydl1 h with⟨h1,_⟩ | ⟨⟨d,h1,_,h3,h4,rfl⟩,_⟩
 ·unfold runD at h1
  split at h1
  ·rename_i hlk
   obtain⟨d,x,hd,hst,h3,h4,rfl,h5⟩:=h1;rw[yko];refine yxx hh (hok d x h4) fun r hr=>?_
   have key:(∃ z0,sOp P (evS (mg (T.map (·.2)) τ)) (rtL rt o (mg (T.map (·.2)) τ)) o (fun z=>z=z0)/\(x=z0\/x=frzAt z0))->klOf T r x=x:=by
    rintro⟨z0,h6,h7⟩
    have h8:=(hi r hr).2
    unfold klOf at h8 ⊢
    by_cases he:eatT T r=true
    ·simp only[he,if_true] at h8 ⊢
     have h9:=ymz1 h6 (yxa2 (hrt r hr)) h8 (hop hlk r he)
     rcases h7 with rfl | rfl
     ·exact h9
     exact yft1 h9
    simp only[he,if_false,Bool.false_eq_true] at h8 ⊢;have h9:=ykz1 h6 (yxa2 (hrt r hr)) h8 (fun g cs h1=>by
     have:=(hi r hr).1 (by rw[h1];rfl)
     unfold rkOf at this;rw[if_neg he,h1] at this;cases this)
    rcases h7 with rfl | rfl
    ·exact h9
    exact yet1 h9
   cases hop':o.op with
   | assign y =>
    rw[hop'] at h5;obtain⟨h6,rfl⟩:=h5;cases h7:evS (mg (T.map (·.2)) τ) y <;> rw[h7] at h6 <;> simp[isDR] at h6 <;> exact ysk rfl rfl
   | _ =>
    rw[hop'] at h5;exact key h5
  rename_i r he;have hrS:=ybv he;have hbx:rt r=.tup []->∀ cs:List C,r∈T.map (·.2)->isRoot (SV.box cs)=true->rkOf T r (.box cs)=true:=fun h cs _ _=>by
   have h2:¬ eatT T r=true:=fun h3=>by
    have:=mrk_iff.2 h3
    rw[← hrt r hrS,h] at this;cases this
   unfold rkOf;rw[if_neg h2];rfl
  rcases h1 with⟨y,⟨_,_,hm,t,x,g,n,old,v,_,_,_,h6,_,_,_,_,_,rfl⟩,rfl⟩ | ⟨d,y,⟨hm,fn,args,ts,f,x0,rest,axs,vals,cs,cs',_,_,_,_,h6,_,_,_,_,_,rfl,h13⟩,rfl⟩ | ⟨d,x,⟨hm,h2,h3,h4,h5,h7,h8⟩,rfl⟩
  rotate_left 2
  ·rw[ygk,yko,yko]
   refine yxx (yxx hh (fun _ h=>by cases h) fun _ _=>ysk rfl rfl) (hok d x h7) fun r' hr'=>?_
   rcases h8 with⟨_,⟨g,cs,h9⟩,rfl⟩ | ⟨_,_,_,_,_,_,_,_,_,_,_,_,_,_,_,_,_,rfl⟩
   ·rw[h9];exact ysk rfl rfl
   exact ysk rfl rfl
  ·rw[yav hrS (ykj1 h6)]
   exact yxx hh (hbx hm _) fun _ _=>ysk rfl rfl
  have hb:=ykj1 h6;rw[ygk];cases hod:o.dst with
  | none =>
   rw[hod] at h13;subst h13;show hid _ (mg _ (updL τ (encC r (.box cs'))))
   rw[yav hrS hb];exact yxx hh (hbx hm _) fun _ _=>ysk rfl rfl
  | some d' =>
   rw[hod] at h13;obtain⟨h19,hne,h20,rfl⟩:=h13;have hb':isBox (updL τ (encO (T.map (·.2)) (some (d',resSV vals))) (2*r))=true:=by
    show isBox (updL τ (encW (T.map (·.2)) d' (resSV vals)) (2*r))=true
    rw[ytj (e:=2*r) fun z (hz:z∈encW (T.map (·.2)) d' (resSV vals)) h=>(yeu (S:=T.map (·.2)) (Ne.symm hne)).1 (by have:=yjo hz;rw[h] at this;exact this)];exact hb
   rw[yav hrS hb'];show hid _ (upd (mg _ (updL τ (encW (T.map (·.2)) d' (resSV vals)))) r (.box cs'))
   rw[yko];exact yxx (yxx hh (hok _ _ h20) fun r _=>ysk (ykl1 r vals) (yjl1 r vals)) (hbx hm _) fun _ _=>ysk rfl rfl
 rw[yko]
 exact yxx hh (hok _ _ h4) fun _ _=>ysk rfl rfl
theorem yap1 {S:List Nat} {τ:Nat->SV} {s:Nat} (h:s∉S):mg S τ s=τ (2*s):=by
 unfold mg
 rw[if_neg]
 simp[h]
theorem yya2 {S:List Nat} {τ τ':Nat->SV} {s:Nat} (h:τ (2*s)=τ' (2*s)) (h2:τ (2*s+1)=τ' (2*s+1)):mg S τ s=mg S τ' s:=by unfold mg;rw[h,h2]
theorem yml1 (hB:drawB ops n T=true) (hO:opsB I.pins.length N ops.toList=true) (hQ:∀ c a w,¬ Q (.panic c) a w) (hK:∀ a w σ L,K σ->Rel P N N w0 A I σ a w L->Q .normal a w) {σ0:St} {ps:List (List (Nat×SV))} (hps:ps.length=n)
  (hstep:∀ j o y,ops[j]?=some o->ps[j]?=some y->stepD P ops (rtOf T σ0) T j o (mg (T.map (·.2)) (appS (fun i=>decide (i<j)) ps 0 (sp (T.map (·.2)) σ0))) y)
  (hfin:pvL P ops (ops.toList.drop n) (mg (T.map (·.2)) (appS (fun _=>true) ps 0 (sp (T.map (·.2)) σ0))) K) :
  ∀ (fuel:Nat) (listed:Array Bool) (a:Act) (w:World) (L:Lab),cntS (fun j=>listed.getD j false) n+(ops.size-n)<=fuel->listed.size=ops.size ->
  (∀ j k oj,listed.getD j false=true->ops[j]?=some oj->waitsOn oj k=true->listed.getD k false=true)->(∀ j,listed.getD j false=true->j<n) ->
  hid T (mg (T.map (·.2)) (appS (fun j=>listed.getD j false) ps 0 (sp (T.map (·.2)) σ0))) ->
  Rel P N N w0 A I (mg (T.map (·.2)) (appS (fun j=>listed.getD j false) ps 0 (sp (T.map (·.2)) σ0))) a w L->wpAny P .any ops Q fuel listed a w:=by
 generalize hS:T.map (·.2)=S at hstep hfin ⊢
 generalize hτ:sp S σ0=τ0 at hstep hfin ⊢
 have hnle:n<=ops.size:=by
  have:=(Bool.and_eq_true_iff.1 (Bool.and_eq_true_iff.1 hB).1).1
  simpa using this
 have hEr:∀ (σ:St) r,rtOf T σ r=.tup [.u]->eatT T r=true:=fun σ r h=>by
  by_cases hr:r∈T.map (·.2)
  ·rw[yll1 hr] at h;exact mrk_iff.1 h
  unfold rtOf at h;rw[if_neg (by simpa using hr)] at h;split at h
  ·rename_i h2;rw[h] at h2;cases h2
  cases h
 have hstp:∀ j ys,ps[j]?=some ys->∃ oj,ops[j]?=some oj/\stepD P ops (rtOf T σ0) T j oj (mg S (appS (fun i=>decide (i<j)) ps 0 τ0)) ys:=fun j ys hj=>by
  have h1:j<ps.length:=(List.getElem?_eq_some_iff.1 hj).1
  have h2:j<ops.size:=by omega
  exact⟨ops[j],by simp[h2],hstep j _ ys (by simp[h2]) hj⟩
 have hwr:∀ j ys oj,ps[j]?=some ys->ops[j]?=some oj->∀ c,(∃ y∈ys,y.1=c)->c∈wrs T j oj:=by
  rintro j ys oj hj hoj c ⟨y,hy,rfl⟩
  obtain⟨o',h1,h2⟩:=hstp j ys hj;rw[hoj] at h1;obtain rfl:=Option.some.inj h1
  exact ybt1 h2 (hEr σ0) y hy
 have hJ:∀ B,J S (appS B ps 0 τ0):=fun B=>yrv1 ps 0 τ0 (hτ▸J_sp S σ0) fun ys hys τ hτ'=>by
  obtain⟨j,hj⟩:=List.mem_iff_getElem?.1 hys
  obtain⟨oj,_,h2⟩:=hstp j ys hj;have:=yqv1 h2 (τ:=τ) (by rw[hS];exact hτ')
  rw[hS] at this;exact this
 have hsp:∀ d,d∉S->τ0 (2*d)=σ0 d:=fun d hd=>by
  rw[← hτ];have h1:2*d % 2=0:=by omega
  have h2:2*d / 2=d:=by omega
  unfold sp;rw[h1,h2];rw[if_neg];simp[hd]
 have hroot:∀ (j:Nat) (ys:List (Nat×SV)),ps[j]?=some ys->∀ d,(∃ y∈ys,y.1=2*d)->d∉S->isRoot (σ0 d)=false:=by
  intro j;induction j using Nat.strongRecOn with
  | ind j ih =>
   rintro ys hj d ⟨y,hy,hyd⟩ hdS
   by_cases hx:∃ (j':Nat) (zs:List (Nat×SV)),j'<j/\ps[j']?=some zs/\∃ z∈zs,z.1=2*d
   ·obtain⟨j',zs,h2,h3,h4⟩:=hx
    exact ih j' h2 zs h3 d h4 hdS
   obtain⟨oj,_,h1⟩:=hstp j ys hj;have h5:=yct1 h1 hy hyd (by rw[hS];exact hdS)
   rw[yap1 hdS,ydv ps 0 τ0 fun j' zs h2 h3=>by
    have:¬ j'<j:=fun h4=>hx ⟨j',zs,h4,h2,h3⟩
    simpa using this,hsp d hdS] at h5
   exact h5
 intro fuel
 induction fuel with
 | zero =>
  intro listed a w L hf hs hcl hln hhid hR;have hall:∀ j,j<n->listed.getD j false=true:=fun j hj=>by
   cases hc:listed.getD j false with
   | true=>rfl
   | false =>
    have:=ytg1 (S:=fun j=>listed.getD j false) (S':=fun k=>if k=j then true else listed.getD k false) n hj hc (by simp) fun k hk=>by simp[hk]
    omega
  rw[show appS (fun j=>listed.getD j false) ps 0 τ0=appS (fun _=>true) ps 0 τ0 from funext fun e=>yhq ps 0 τ0 τ0 rfl fun j y hj _=>by
   have:j<ps.length:=(List.getElem?_eq_some_iff.1 hj).1
   have:=hall j (by omega)
   simpa using this] at hR
  refine yze1 hB hO hQ hK 0 n listed a w _ L (Nat.le_refl _) (by omega) hnle hs (fun j hj=>?_) hR hfin
  by_cases hjn:j<n
  ·rw[hall j hjn];simp[hjn]
  cases hc:listed.getD j false with
  | true=>exact absurd (hln j hc) hjn
  | false=>simp[hjn]
 | succ fuel ih =>
  intro listed a w L hf hs hcl hln hhid hR;by_cases hall:∀ j,j<n->listed.getD j false=true
  ·rw[show appS (fun j=>listed.getD j false) ps 0 τ0=appS (fun _=>true) ps 0 τ0 from funext fun e=>yhq ps 0 τ0 τ0 rfl fun j y hj _=>by
    have:j<ps.length:=(List.getElem?_eq_some_iff.1 hj).1
    have:=hall j (by omega)
    simpa using this] at hR
   refine yze1 hB hO hQ hK (fuel+1) n listed a w _ L (Nat.le_refl _) (by omega) hnle hs (fun j hj=>?_) hR hfin
   by_cases hjn:j<n
   ·rw[hall j hjn];simp[hjn]
   cases hc:listed.getD j false with
   | true=>exact absurd (hln j hc) hjn
   | false=>simp[hjn]
  have hex:∃ j,j<n/\listed.getD j false=false:=by
   refine Classical.byContradiction fun hno=>hall fun j hj=>?_
   cases hc:listed.getD j false with
   | true=>rfl
   | false=>exact absurd ⟨j,hj,hc⟩ hno
  obtain⟨j0,hj0,hc0⟩:=hex;refine⟨fun hr=>?_,fun i hi=>?_⟩
  ·obtain⟨j,h1,h2,h3⟩:=ywa2 (p:=fun j=> !listed.getD j false) n ⟨j0,hj0,by simp only[hc0];rfl⟩
   have:=yzw hB (j:=j) (listed:=listed) (by omega) (by rw[yjq hs (by omega)];simpa using h2) fun k hk=>by simpa using h3 k hk
   rw[hr] at this;simp at this
  obtain⟨h1,o,ho,_⟩:=mem_ready.1 hi;have hlt:i<ops.size:=(Array.getElem?_eq_some_iff.1 ho).1
  rw[yjq hs hlt] at h1;have hin:i<n:=by
   rcases Nat.lt_or_ge i n with h2 | h2
   ·exact h2
   rcases(yiq hB ho).2 j0 ops[j0] (by omega) (by simp[show j0<ops.size by omega]) with h3 | h3 | h3
   ·have:=yug1 hcl hi h3
    rw[hc0] at this;cases this
   ·omega
   omega
  obtain⟨ys,hys⟩:∃ ys,ps[i]?=some ys:=⟨ps[i],by simp[hps,hin]⟩
  have hst:=hstep i o ys ho hys;have hbefore:∀ (j:Nat) (zs:List (Nat×SV)) (c:Nat),j<i->ps[j]?=some zs->(∃ z∈zs,z.1=c)->(c∈lks ops T i o\/c∈wrs T i o)->listed.getD j false=true:=fun j zs c hj hz hc hcc=>by
   obtain⟨oj,h2,_⟩:=hstp j zs hz;have h3:=hwr j zs oj hz h2 c hc;have hjn:j<n:=by have:=(List.getElem?_eq_some_iff.1 hz).1;omega
   rcases(yiq hB ho).2 j oj hj h2 with h4 | h4 | h4
   ·exact yug1 hcl hi h4
   ·have:=(apart_spec h4.2).1 c h3
    rcases hcc with h5 | h5
    ·exact absurd h5 this.1
    exact absurd h5 this.2
   omega
  have hbehind:∀ (j:Nat) (zs:List (Nat×SV)) (c:Nat),i<j->ps[j]?=some zs->(∃ z∈zs,z.1=c)->(c∈lks ops T i o\/c∈wrs T i o)->listed.getD j false=false:=fun j zs c hj hz hc hcc=>by
   cases hcj:listed.getD j false with
   | false=>rfl
   | true =>
    obtain⟨oj,h2,_⟩:=hstp j zs hz;have h3:=hwr j zs oj hz h2 c hc;rcases(yiq hB h2).2 i o hj ho with h4 | h4 | h4
    ·have:=yyo1 hcl hcj h4
     rw[h1] at this;cases this
    ·have:=apart_spec h4.2
     rcases hcc with h5 | h5
     ·exact absurd h5 (this.2 c h3)
     exact absurd h3 (this.1 c h5).2
    omega
  have hsame:∀ c,(c∈lks ops T i o\/c∈wrs T i o)->appS (fun k=>decide (k<i)) ps 0 τ0 c=appS (fun j=>listed.getD j false) ps 0 τ0 c:=fun c hc =>
   yhq ps 0 τ0 τ0 rfl fun j zs hz hzc=>by
    simp only[Nat.zero_add];rcases Nat.lt_trichotomy j i with h2 | h2 | h2
    ·rw[hbefore j zs c h2 hz hzc hc];simp[h2]
    ·subst h2
     rw[h1];simp
    rw[hbehind j zs c h2 hz hzc hc];have:¬ j<i:=by omega
    simp[this]
  have hst':stepD P ops (rtOf T σ0) T i o (mg S (appS (fun j=>listed.getD j false) ps 0 τ0)) ys:=by
   refine ylj1 hst (fun t ht=>?_) (fun d hd=>?_) fun r hr=>?_
   ·have e:=hsame (2*t) (.inl (List.mem_append_left _ (List.mem_map.2 ⟨t,ht,rfl⟩)))
    by_cases hb:(S.contains t&&isBox (appS (fun k=>decide (k<i)) ps 0 τ0 (2*t)))=true
    ·right
     obtain⟨hb1,hb2⟩:=Bool.and_eq_true_iff.1 hb;have htS:t∈S:=by simpa using hb1
     have hbl:isBox (appS (fun j=>listed.getD j false) ps 0 τ0 (2*t))=true:=by rw[← e];exact hb2
     have hml:isBox (mg S (appS (fun j=>listed.getD j false) ps 0 τ0) t)=true:=by
      unfold mg;rw[if_pos (by rw[hb1,hbl];rfl)]
      exact hJ _ t htS hbl
     have hmk:mrk T t=.tup []:=by
      have h5:=((hid_iff.1 hhid) t (by rw[hS];exact htS)).1 (by
       cases h6:mg S (appS (fun j=>listed.getD j false) ps 0 τ0) t <;> rw[h6] at hml <;> simp[isBox] at hml
       rfl)
      unfold rkOf at h5;unfold mrk;by_cases he:eatT T t=true
      ·rw[if_pos he] at h5
       cases h6:mg S (appS (fun j=>listed.getD j false) ps 0 τ0) t <;> rw[h6] at hml h5 <;> simp[isBox] at hml
       cases h5
      rw[if_neg he]
     refine⟨by rw[yll1 (by rw[hS];exact htS)];exact hmk,?_,?_⟩
     ·unfold mg;rw[if_pos hb];exact hJ _ t htS hb2
     rw[e] at hb hb2
     unfold mg;rw[if_pos hb];exact hJ _ t htS hb2
    left
    unfold mg;rw[if_neg hb];rw[e] at hb;rw[if_neg hb,e]
   ·by_cases hdS:d∈S
    ·have hc:S.contains d=true:=by simpa using hdS
     have hw:∀ c∈wrC S d,c∈wrs T i o:=fun c hc=>by unfold wrs;rw[hd,hS];exact List.mem_append_left _ hc
     refine yya2 (hsame _ (.inr (hw _ ?_))) (hsame _ (.inr (hw _ ?_))) <;> (unfold wrC;rw[if_pos hc];simp)
    rw[yap1 hdS,yap1 hdS];refine hsame _ (.inr ?_)
    unfold wrs;rw[hd,hS];refine List.mem_append_left _ ?_
    show 2*d∈wrC S d
    unfold wrC;split <;> simp
   have hw:∀ c,c=2*r\/c=2*r+1->c∈lks ops T i o:=fun c hc=>by
    unfold lks;rw[hr];refine List.mem_append_right _ ?_
    rcases hc with rfl | rfl <;> simp
   exact yya2 (hsame _ (.inl (hw _ (.inl rfl)))) (hsame _ (.inl (hw _ (.inr rfl))))
  have hset:∀ j,(listed.setIfInBounds i true).getD j false=if j=i then true else listed.getD j false:=fun j=>by
   by_cases hji:j=i
   ·subst hji
    have:j<listed.size:=by omega
    simp[this]
   rw[getD_set_ne false (Ne.symm hji),if_neg hji]
  have hnew:updL (appS (fun j=>listed.getD j false) ps 0 τ0) ys=appS (fun j=>(listed.setIfInBounds i true).getD j false) ps 0 τ0:=funext fun e=>by
   by_cases he:∃ y∈ys,y.1=e
   ·rw[ydi1 ps 0 i τ0 ys hys he (by simp only[Nat.zero_add];rw[hset];simp) (fun j zs hj hz hze=>by
     simp only[Nat.zero_add];rw[hset,if_neg (by omega)];exact hbehind j zs e hj hz hze (.inr (hwr i ys o hys ho e he))) (appS (fun j=>listed.getD j false) ps 0 τ0)]
   rw[ytj fun y hy hye=>he ⟨y,hy,hye⟩];refine yhq ps 0 τ0 τ0 rfl fun j zs hz hze=>?_
   simp only[Nat.zero_add];rw[hset,if_neg];intro hji;subst hji;rw[hys] at hz;obtain rfl:=Option.some.inj hz
   exact he hze
  have hdN:∀ d,o.dst=some d->I.pins.length<=d/\d<N:=fun d h5=>by
   have:=List.all_eq_true.1 hO o (by have:=Array.mem_of_getElem? ho;simpa using this)
   rw[h5] at this;simpa using this
  have hrt:∀ r,rtOf T σ0 r=mg S (appS (fun j=>listed.getD j false) ps 0 τ0) r\/rtOf T σ0 r=.u\/rtOf T σ0 r=.tup []\/rtOf T σ0 r=.tup [.u]:=fun r=>by
   by_cases hrS:r∈S
   ·rw[yll1 (T:=T) (by rw[hS];exact hrS)];unfold mrk;split
    ·exact .inr (.inr (.inr rfl))
    exact .inr (.inr (.inl rfl))
   unfold rtOf;rw[if_neg (by rw[hS];simpa using hrS)]
   by_cases hr:isRoot (σ0 r)=true
   ·rw[if_pos hr]
    left
    rw[yap1 hrS,ydv ps 0 τ0 fun j zs hz hzr=>by
     have:=hroot j zs hz r hzr hrS
     rw[hr] at this;cases this]
    exact(hsp r hrS).symm
   rw[if_neg hr];exact .inr (.inl rfl)
  have hst2:=hst'
  rw[← hS] at hst2 hhid hR hrt
  have hhid2:=yzo1 hst2 (fun r hr=>yll1 hr) (fun hlk r he y hy hyr=>by
   have h5:=List.all_eq_true.1 (Bool.and_eq_true_iff.1 (Bool.and_eq_true_iff.1 hB).1).2 i (List.mem_range.2 hin)
   rw[ho] at h5;have h6:=(Array.all_eq_true_iff_forall_mem.1 h5) y hy
   subst hyr;simp[he,hlk] at h6) hhid
  have:=ymj1 (N:=N) hst2 hdN hR hrt hhid (fun r hr=>by rw[yll1 hr];exact mrk_iff) (next:=wpAny P .any ops Q fuel (listed.setIfInBounds i true)) (Q:=Q) fun a' w' L' hR'=>by
   rw[hnew] at hR' hhid2
   rw[hS] at hR' hhid2
   refine ih _ a' w' L' ?_ (by simpa using hs) ?_ ?_ hhid2 hR'
   ·have:=ytg1 (S:=fun j=>listed.getD j false) (S':=fun j=>(listed.setIfInBounds i true).getD j false) n hin h1 (by simp only[hset];simp) fun j hj=>by simp only[hset,if_neg hj]
    omega
   ·intro j k oj hj hoj hw
    rw[hset] at hj;have:listed.getD k false=true:=by
     by_cases hji:j=i
     ·subst hji
      rw[ho] at hoj;obtain rfl:=Option.some.inj hoj
      exact yyw hi ho hw
     rw[if_neg hji] at hj;exact hcl j k oj hj hoj hw
    exact getD_set_true this
   intro j hj;rw[hset] at hj;by_cases hji:j=i
   ·omega
   rw[if_neg hji] at hj;exact hln j hj
  unfold wpOp;rw[ho];exact this
theorem ygt1 (hB:drawB ops n T=true) (hO:opsB I.pins.length N ops.toList=true) (hQ:∀ c a w,¬ Q (.panic c) a w) (hK:∀ a w σ L,K σ->Rel P N N w0 A I σ a w L->Q .normal a w) {σ:St} {a:Act} {w:World} {L:Lab} (hR:Rel P N N w0 A I σ a w L)
  (hhid:hid T σ) (h:pvD P ops (rtOf T σ) T 0 (ops.toList.take n) σ (fun σ'=>pvL P ops (ops.toList.drop n) σ' K)):wpAny P .any ops Q ops.size (Array.replicate ops.size false) a { w with drawn:=w.drawn+1 }:=by
 have hnle:n<=ops.size:=by
  have:=(Bool.and_eq_true_iff.1 (Bool.and_eq_true_iff.1 hB).1).1
  simpa using this
 obtain⟨ps,h1,h2,h3⟩:=yhl1 (T:=T) (ops.toList.take n) 0 (sp (T.map (·.2)) σ) (by rw[ygz1];exact h)
 have hno:∀ j,(Array.replicate ops.size false).getD j false=false:=fun j=>by
  by_cases hj:j<ops.size
  ·simp[hj]
  simp[hj]
 have e0:appS (fun j=>(Array.replicate ops.size false).getD j false) ps 0 (sp (T.map (·.2)) σ)=sp (T.map (·.2)) σ:=funext fun e=>ydv _ _ _ fun j y _ _=>hno _
 refine yml1 hB hO hQ hK (σ0:=σ) (ps:=ps) (by rw[h1];simp;omega) (fun j o y ho hy=>?_) h2 ops.size _ a _ L ?_ (by simp) (fun j k oj hj=>?_) (fun j hj=>?_) ?_ ?_
 ·have hj:j<ps.length:=(List.getElem?_eq_some_iff.1 hy).1
  have:=h3 j o y (by rw[List.getElem?_take,if_pos (by rw[h1] at hj;simp at hj;omega)];simpa using ho) hy
  simpa using this
 ·have:∀ n,cntS (fun j=>(Array.replicate ops.size false).getD j false) n<=n:=fun n=>by
   induction n with
   | zero=>exact Nat.le_refl _
   | succ n ih =>
    simp only[cntS];split <;> omega
  have:=this n
  omega
 ·rw[hno] at hj;cases hj
 ·rw[hno] at hj;cases hj
 ·rw[e0,ygz1];exact hhid
 rw[e0,ygz1]
 exact hR.world rfl rfl rfl rfl
theorem ynl1 {id:Nat} (hm:P.follows .mixedOrders=true) (hB:drawB ops n T=true) (hO:opsB I.pins.length N ops.toList=true) (hQ:∀ c a w,¬ Q (.panic c) a w) (hK:∀ a w σ L,K σ->Rel P N N w0 A I σ a w L->Q .normal a w) {σ:St} {a:Act} {w:World} {L:Lab} (hR:Rel P N N w0 A I σ a w L)
  (hhid:hid T σ) (h:pvD P ops (rtOf T σ) T 0 (ops.toList.take n) σ (fun σ'=>pvL P ops (ops.toList.drop n) σ' K)):(Code.region id ops true).wp P Q a w:=by
 exact wp_region_any hm (ygt1 hB hO hQ hK hR hhid h)
end Go.PV

/-
 A walk over pure values: code is sound.
 Conditions: none.
-/
namespace Go.PV
variable {P:Program} {N:Nat} {w0:World} {A:Nat->Prop} {I:Bor}
theorem yvg1 {ops:Array Oper} {id:Nat} {K:St->Prop} {Q:Exit->Act->World->Prop} (hO:opsB I.pins.length N ops.toList=true) (hK:∀ a w σ L,K σ->Rel P N N w0 A I σ a w L->Q .normal a w) {σ:St} {a:Act} {w:World} {L:Lab}
  (hR:Rel P N N w0 A I σ a w L) (h:pvL P ops ops.toList σ K):(Code.region id ops false).wp P Q a w:=by
 refine wp_region ?_
 have:=yez hO hK ops.toList 0 σ a w L (fun j=>by simp) hR h
 rw[List.range_eq_range']
 simpa using this
theorem ybp1 {Q:Ex->St->Prop} {K:St->Prop} {next:Act->World->Prop} (hn:∀ a w σ L,K σ->Rel P N N w0 A I σ a w L->next a w) :
  ∀ e a w,lift P N w0 A I (seqQ K Q) e a w->Exit.then next (lift P N w0 A I Q) e a w:=fun e a w h=>by
 cases e with
 | normal=>obtain⟨σ,L,h1,h2⟩:=h;exact hn a w σ L h2 h1
 | exit id=>exact h
 | ret=>exact h
 | _=>exact h.elim
theorem yar:∀ (c:Code) (σ:St) (Q:Ex->St->Prop),pvC P N c σ Q->Ok P N c σ Q
 | .skip,σ,Q,h=>fun _ _ w0 A I a w L hI hR=>wp_skip ⟨σ,L,hR,h⟩
 | .region id ops false,σ,Q,h=>fun k hB w0 A I a w L hI hR=>yvg1 (hI▸hB) (fun a w σ L h1 h2=>⟨σ,L,h2,h1⟩) hR h
 | .region id ops true,σ,Q,h=>fun k hB w0 A I a w L hI hR=>by
  obtain⟨hm,n,T,h1,hh,h2⟩:=h;exact ynl1 hm h1 (hI▸hB) (fun _ _ _ h=>h) (fun a w σ L h1 h2=>⟨σ,L,h2,h1⟩) hR hh h2
 | .seq x y,σ,Q,h=>fun k hB w0 A I a w L hI hR=>by
  simp only[codeB,Bool.and_eq_true] at hB;exact wp_seq (wp_mono (yar x σ _ h k hB.1 w0 A I a w L hI hR) (ybp1 fun a w σ L h1 h2=>yar y σ Q h1 k hB.2 w0 A I a w L hI h2))
 | .cond c x y,σ,Q,h=>fun k hB w0 A I a w L hI hR=>by
  simp only[codeB,Bool.and_eq_true] at hB;obtain⟨t,h1,h2⟩:=h;refine wp_cond (yjk1 hR h1) ?_
  cases t
  ·exact yar y σ Q h2 k hB.2 w0 A I a w L hI hR
  exact yar x σ Q h2 k hB.1 w0 A I a w L hI hR
 | .block id c,σ,Q,h=>fun k hB w0 A I a w L hI hR=>by
  refine wp_block (wp_mono (yar c σ _ h k hB w0 A I a w L hI hR) fun e a w h=>?_)
  cases e with
  | normal=>exact h
  | exit i =>
   obtain⟨σ',L',h1,h2⟩:=h;simp only[Exit.inBlock];unfold blockQ at h2;split
   ·rename_i hi
    simp only[hi,if_true] at h2;exact⟨σ',L',h1,h2⟩
   rename_i hi;simp only[hi,if_false] at h2;exact⟨σ',L',h1,h2⟩
  | ret=>exact h
  | _=>exact h.elim
 | .loop c,σ,Q,h=>h
 | .exit id,σ,Q,h=>fun _ _ w0 A I a w L hI hR=>wp_exit ⟨σ,L,hR,h⟩
 | .ret,σ,Q,h=>fun _ _ w0 A I a w L hI hR=>wp_ret ⟨σ,L,hR,h⟩
 | .label _,_,_,h=>h.elim
 | .goto _,_,_,h=>h.elim
theorem Rel.forget {M:Nat} {σ σ':St} {a:Act} {w:World} {L:Lab} (hR:Rel P N M w0 A I σ a w L) (h:∀ s,σ' s=.u\/(σ' s=σ s/\∀ r,refOf (σ s)=some r->σ' r=σ r)):Rel P N M w0 A I σ' a w L :=
 ⟨hR.dfr,hR.siz,hR.ev,hR.inj,hR.lab,fun s hs=>by
  rcases h s with h1 | h1
  ·exact h1
  ·rw[h1.1];exact hR.out s hs,hR.hA,hR.pin,fun s=>by
  rcases h s with h1 | ⟨h1,h2⟩
  ·rw[h1];trivial
  rw[h1];exact RelS.keep (hR.slot s) (fun b h=>⟨h,rfl⟩) (fun b q _ h=>⟨h,rfl⟩) fun r hr hroot=>⟨fun b q h=>⟨h,rfl⟩,rfl,by rw[h2 r hr];exact hroot,by rw[h2 r hr]⟩⟩
theorem yxc1:∀ (l:List (Nat×SV)) {σ:St},(∀ x∈l,σ x.1=x.2)->∀ s,(ofL l s=.u/\s∉l.map (·.1))\/(s∈l.map (·.1)/\ofL l s=σ s)
 | [],σ,_,s=>.inl ⟨rfl,by simp⟩
 | (k,x)::l,σ,h,s=>by
  by_cases hs:s=k
  ·subst hs
   right
   refine⟨by simp,?_⟩
   simp only[ofL,upd,if_pos];exact(h (s,x) (by simp)).symm
  rcases yxc1 l (fun x hx=>h x (by simp[hx])) s with⟨h1,h2⟩ | ⟨h1,h2⟩
  ·exact .inl ⟨by simp[ofL,upd,hs,h1],by simp[hs];simpa using h2⟩
  exact .inr ⟨List.mem_cons_of_mem _ h1,by simp[ofL,upd,hs,h2]⟩
theorem yrf {M:Nat} {σ:St} {a:Act} {w:World} {L:Lab} {l:List (Nat×SV)} (hR:Rel P N M w0 A I σ a w L) (h:agree l σ):Rel P N M w0 A I (ofL l) a w L:=by
 refine hR.forget fun s=>?_
 rcases yxc1 l h.2 s with⟨h1,_⟩ | ⟨h1,h2⟩
 ·exact .inl h1
 right
 refine⟨h2,fun r hr=>?_⟩
 obtain⟨x,hx,rfl⟩:=List.mem_map.1 h1
 have h3:=List.all_eq_true.1 h.1 x hx
 have h4:r∈l.map (·.1):=by
  rw[h.2 x hx] at hr;cases hx2:x.2 <;> rw[hx2] at hr h3 <;> simp[refOf] at hr <;> subst hr <;> simpa [refOk] using h3
 rcases yxc1 l h.2 r with⟨_,h5⟩ | ⟨_,h5⟩
 ·exact absurd h4 h5
 exact h5
theorem yht1 {p:Nat->Prop} (h:∃ n,p n):∃ n,p n/\∀ m,p m->n<=m:=by
 obtain⟨n,hn⟩:=h
 induction n using Nat.strongRecOn with
 | ind n ih =>
  by_cases hx:∃ m,m<n/\p m
  ·obtain⟨m,h1,h2⟩:=hx;exact ih m h1 h2
  refine⟨n,hn,fun m hm=>?_⟩
  rcases Nat.lt_or_ge m n with h1 | h1
  ·exact absurd ⟨m,h1,hm⟩ hx
  exact h1
theorem yfi1 {c:Code} {X:Type} {Q:Exit->Act->World->Prop} {a:Act} {w:World} (J:X->Act->World->Prop) (μ:X->Nat) (x0:X) (h0:J x0 a w)
  (hr:∀ x a w,J x a w->c.wp P (Exit.then (fun a' w'=>∃ x',J x' a' w'/\μ x'<μ x) Q) a w):(Code.loop c).wp P Q a w:=by
 let ν:Act->World->Nat:=fun a w=>Classical.epsilon fun n=>(∃ x,J x a w/\μ x=n)/\∀ m,(∃ x,J x a w/\μ x=m)->n<=m
 have hν:∀ a w,(∃ x,J x a w)->(∃ x,J x a w/\μ x=ν a w)/\∀ m,(∃ x,J x a w/\μ x=m)->ν a w<=m:=fun a w ⟨x,hx⟩ =>
  Classical.epsilon_spec (p:=fun n=>(∃ x,J x a w/\μ x=n)/\∀ m,(∃ x,J x a w/\μ x=m)->n<=m) (yht1 ⟨μ x,x,hx,rfl⟩)
 refine wp_loop (fun a w=>∃ x,J x a w) ν ⟨x0,h0⟩ fun a w hx=>?_
 obtain⟨⟨x,h1,h2⟩,_⟩:=hν a w hx
 refine wp_mono (hr x a w h1) fun e a' w' h=>?_
 cases e with
 | normal =>
  obtain⟨x',h3,h4⟩:=h;exact⟨⟨x',h3⟩,by have:=(hν a' w' ⟨x',h3⟩).2 _ ⟨x',h3,rfl⟩;omega⟩
 | _=>exact h
end Go.PV

/-
 A walk over pure values: contracts.
 Conditions: none.
-/
namespace Go.PV
variable {P:Program} {N:Nat} {w0:World} {A:Nat->Prop} {I:Bor}
def notPtrA:Arg->Bool
 | .ptr _=>false
 | _=>true
theorem yyc1:∀ {vals:List Value} {args:List Arg} {w:World},ArgsRep A w vals args->args.all notPtrA=true/\vals.length=args.length /\
  ∀ (k:Nat) (x:Arg),args[k]?=some x->match x with | .v v=>vals.getD k undef=v | .d g cs=>FrzV A w g (vals.getD k undef) cs | .ptr _=>False
 | [],[],w,_=>⟨rfl,rfl,by simp⟩
 | v::vs,.v x::axs,w,hr=>by
  obtain⟨h1,h2⟩:=hr;obtain⟨h3,h4,h5⟩:=yyc1 h2;refine⟨by simp only[List.all_cons,notPtrA,Bool.true_and];exact h3,by simp[h4],fun k y hk=>?_⟩
  cases k with
  | zero=>simp at hk;subst hk;exact h1
  | succ k=>exact h5 k y (by simpa using hk)
 | v::vs,.d g cs::axs,w,hr=>by
  obtain⟨h1,h2⟩:=hr;obtain⟨h3,h4,h5⟩:=yyc1 h2;refine⟨by simp only[List.all_cons,notPtrA,Bool.true_and];exact h3,by simp[h4],fun k y hk=>?_⟩
  cases k with
  | zero=>simp at hk;subst hk;exact h1
  | succ k=>exact h5 k y (by simpa using hk)
 | v::vs,.ptr cs::axs,w,hr=>by simp[ArgsRep] at hr
 | [],x::axs,w,hr=>by simp[ArgsRep] at hr
 | v::vs,[],w,hr=>by simp[ArgsRep] at hr
theorem yol1:∀ (xs:List SV) (k s:Nat),ofL ((List.range' k xs.length).zip xs) s=if k<=s then(xs[s-k]?).getD .u else .u
 | [],k,s=>by simp[ofL]
 | x::xs,k,s=>by
  simp only[List.length_cons,List.range'_succ,List.zip_cons_cons,ofL,upd];by_cases h:s=k
  ·subst h;simp
  rw[if_neg h,yol1 xs (k+1) s];by_cases h2:k<=s
  ·rw[if_pos (by omega),if_pos h2,show s-k=(s-(k+1))+1 from by omega]
   simp
  rw[if_neg (by omega),if_neg h2]
theorem yuv1 (args:List Arg) (s:Nat):st0 args s=((args[s]?).map argSV).getD .u:=by
 have:=yol1 (args.map argSV) 0 s
 unfold st0
 rw[List.range_eq_range']
 simpa using this
theorem ycp1 {args:List Arg} {vals:Array Value} {w:World} (hA:(∀ b,A b->b<w.heap.size)/\Tabs P A w) (hN:args.length<=N) (h:ArgsRep A w vals.toList args) :
  Rel P N N w A nob (st0 args) { tmps:=vals++Array.replicate (N-vals.size) undef,defers:=[] } w fun _=>none:=by
 obtain⟨_,h1,h2⟩:=yyc1 h
 have hsz:vals.size=args.length:=by simpa using h1
 refine⟨rfl,by simp;omega,⟨rfl,rfl,rfl,Nat.le_refl _,fun _ _ _=>rfl⟩,by simp,by simp,fun s hs=>?_,⟨⟨hA.1,hA.2.mono fun b hb=>⟨⟨hb,yhe1 b⟩,rfl⟩⟩,fun b hb=>(yhe1 b hb).elim⟩,fun s v hs=>by simp[nob] at hs,fun s=>?_⟩
 ·rw[yuv1,List.getElem?_eq_none (by omega)];rfl
 rw[yuv1]
 cases hx:args[s]? with
 | none=>exact trivial
 | some x =>
  have h3:=h2 s x hx;have hlt:s<vals.size:=by have:=(List.getElem?_eq_some_iff.1 hx).1;omega
  have hv:(vals++Array.replicate (N-vals.size) undef).getD s undef=vals.toList.getD s undef:=by
   simp[Array.getElem?_append,hlt]
  simp only[Option.map_some,Option.getD_some];rw[hv];cases x with
  | v y=>exact h3
  | d g cs=>exact FrzV.mono h3 fun b hb=>⟨⟨rfl,hA.1 b hb,.inl hb⟩,rfl⟩
  | ptr cs=>exact h3.elim
def stB (x:SV) (args:List Arg):St:=ofL ((List.range (args.length+1)).zip (x::args.map argSV))
theorem yvv1 (x:SV) (args:List Arg) (s:Nat):stB x args s=if s=0 then x else((args[s-1]?).map argSV).getD .u:=by
 have:=yol1 (x::args.map argSV) 0 s
 unfold stB
 rw[List.range_eq_range']
 have e:(x::args.map argSV).length=args.length+1:=by simp
 rw[e] at this
 rw[this]
 cases s with
 | zero=>simp
 | succ s=>simp
theorem yaf1 {x:SV} {args:List Arg} {v0:Value} {vs:List Value} {w:World} {L0:Lab} (hA:(∀ b,A b->b<w.heap.size/\L0 b=none)/\Tabs P A w) (hL:∀ b l,L0 b=some l->b<w.heap.size/\l.1=0)
  (hi:∀ b b' l,L0 b=some l->L0 b'=some l->b=b') (hN:args.length+1<=N) (hx:LentAt P A L0 w 0 v0 x) (h:ArgsRep A w vs args) :
  Rel P N N w (fun b=>A b\/L0 b≠none) ⟨fun b=>L0 b≠none,[v0]⟩ (stB x args) { tmps:=(v0::vs).toArray++Array.replicate (N-(v0::vs).toArray.size) undef,defers:=[] } w L0:=by
 obtain⟨_,h1,h2⟩:=yyc1 h
 have hsz:(v0::vs).toArray.size=args.length+1:=by simp[h1]
 have hz:∀ b,A b->Zof w (fun b=>A b\/L0 b≠none) L0 w b/\w.heap[b]?=w.heap[b]?:=fun b hb=>⟨⟨(hA.1 b hb).2,(hA.1 b hb).1,.inl (.inl hb)⟩,rfl⟩
 have hv0:((v0::vs).toArray++Array.replicate (N-(v0::vs).toArray.size) undef).getD 0 undef=v0:=by
  rw[Array.getD_eq_getD_getElem?,Array.getElem?_append_left (by simp)];simp
 have hlt0:∀ b,L0 b≠none->b<w.heap.size:=fun b hb=>by
  cases hl:L0 b with
  | none=>exact absurd hl hb
  | some l=>exact(hL b l hl).1
 refine⟨rfl,by simp;omega,⟨rfl,rfl,rfl,Nat.le_refl _,fun _ _ _=>rfl⟩,hi,fun b l hl=>⟨(hL b l hl).1,.inr ?_,?_⟩,fun s hs=>?_,⟨⟨fun b hb=>hb.elim (fun h=>(hA.1 b h).1) (hlt0 b),hA.2.mono fun b hb=>⟨⟨.inl hb,fun h=>h (hA.1 b hb).2⟩,rfl⟩⟩,fun b hb=>.inr hb⟩,fun s v hs=>?_,fun s=>?_⟩
 ·show L0 b≠none
  rw[hl];simp
 ·rw[(hL b l hl).2];omega
 ·rw[yvv1,if_neg (by omega),List.getElem?_eq_none (by omega)];rfl
 ·cases s with
  | zero=>simp at hs;subst hs;exact hv0
  | succ s=>simp at hs
 rw[yvv1]
 cases s with
 | zero =>
  rw[if_pos rfl,hv0];exact(hx.keep hz fun b q hb=>⟨hb,rfl⟩).rel
 | succ s =>
  rw[if_neg (by omega)];simp only[Nat.add_sub_cancel];cases hx:args[s]? with
  | none=>exact trivial
  | some x =>
   have h3:=h2 s x hx;have hlt:s<vs.length:=by have:=(List.getElem?_eq_some_iff.1 hx).1;omega
   have hv:((v0::vs).toArray++Array.replicate (N-(v0::vs).toArray.size) undef).getD (s+1) undef=vs.getD s undef:=by
    have:s+1<(v0::vs).toArray.size:=by simp;omega
    simp[Array.getElem?_append,hlt]
   simp only[Option.map_some,Option.getD_some];rw[hv];cases x with
   | v y=>exact h3
   | d g cs=>exact FrzV.mono h3 hz
   | ptr cs=>exact h3.elim
def slotIx:List (RV×Nat)->Nat->Nat->Option Nat
 | [],_,_=>none
 | (r,s')::l,i,s=>if isOvR r=true/\s'=s then some i else slotIx l (i+1) s
theorem yzc1:∀ (l:List (RV×Nat)) (i s k:Nat),slotIx l i s=some k->i<=k
 | [],_,_,_,h=>by simp[slotIx] at h
 | (r,s')::l,i,s,k,h=>by
  simp only[slotIx] at h;split at h
  ·simp at h;omega
  have:=yzc1 l (i+1) s k h;omega
theorem ybf1:∀ (l:List (RV×Nat)) (i s s2 k:Nat),slotIx l i s=some k->slotIx l i s2=some k->s=s2
 | [],_,_,_,_,h,_=>by simp[slotIx] at h
 | (r,s')::l,i,s,s2,k,h,h2=>by
  simp only[slotIx] at h h2;split at h
  ·simp at h
   split at h2
   ·rename_i h3 h4;exact h3.2.symm.trans h4.2
   have:=yzc1 _ _ _ _ h2;omega
  split at h2
  ·simp at h2
   have:=yzc1 _ _ _ _ h;omega
  exact ybf1 l (i+1) s s2 k h h2
theorem yfz:∀ (l:List (RV×Nat)) (i j:Nat) (r:RV) (s:Nat),ovOk l=true->l[j]?=some (r,s)->isOvR r=true->slotIx l i s=some (i+j)
 | [],_,_,_,_,_,h,_=>by simp at h
 | (r',s')::l,i,0,r,s,_,h,hr=>by
  simp at h
  obtain⟨rfl,rfl⟩:=h;simp[slotIx,hr]
 | (r',s')::l,i,j+1,r,s,ho,h,hr=>by
  simp only[ovOk,Bool.and_eq_true] at ho;have hl:l[j]?=some (r,s):=by simpa using h
  simp only[slotIx];rw[if_neg,yfz l (i+1) j r s ho.2 hl hr]
  ·congr 1;omega
  rintro⟨h1,rfl⟩
  have h2:=ho.1;rw[h1] at h2;simp only[Bool.not_true,Bool.false_or] at h2;have:=List.all_eq_true.1 h2 (r,s') (List.mem_of_getElem? hl)
  simp[hr] at this
def retLab (lent:Bool) (l:List (RV×Nat)) (L:Lab):Lab:=fun b=>match L b with
 | some (s,p)=>if lent=true/\s=0 then some (0,p) else(match p with
  | (0,o)::q=>(slotIx l 0 s).map fun i=>(lent.toNat,(i,o)::q)
  | _=>none)
 | none=>none
theorem ykq {lent:Bool} {l:List (RV×Nat)} {L:Lab} {b:Nat} {x:Nat×Path} (h:retLab lent l L b=some x) :
  (∃ p,lent=true/\L b=some (0,p)/\x=(0,p))\/∃ s o q i,(lent=true->s≠0)/\L b=some (s,(0,o)::q)/\slotIx l 0 s=some i/\x=(lent.toNat,(i,o)::q):=by
 unfold retLab at h
 split at h
 ·rename_i s p hL
  split at h
  ·rename_i hc
   obtain⟨hc,rfl⟩:=hc;exact .inl ⟨p,hc,hL,(Option.some.inj h).symm⟩
  rename_i hc;split at h
  ·rename_i o q
   cases hi:slotIx l 0 s with
   | none=>rw[hi] at h;simp at h
   | some i=>rw[hi] at h;simp at h;exact .inr ⟨s,o,q,i,fun h1 h2=>hc ⟨h1,h2⟩,hL,hi,h.symm⟩
  cases h
 cases h
theorem yht {lent:Bool} {l:List (RV×Nat)} {L:Lab} {b:Nat} (h:L b=none):retLab lent l L b=none:=by simp[retLab,h]
def RetTo (L L':Lab) (s' s j:Nat):Prop:=∀ b o q,L b=some (s,(0,o)::q)->L' b=some (s',(j,o)::q)
theorem ynz1 {lent:Bool} {l:List (RV×Nat)} {L:Lab} {s j:Nat} (h:slotIx l 0 s=some j) (hs:lent=true->s≠0):RetTo L (retLab lent l L) lent.toNat s j:=fun b o q hb=>by
 have:¬ (lent=true/\s=0):=fun h=>hs h.1 h.2
 simp[retLab,hb,this,h]
theorem ysz {lent:Bool} {l:List (RV×Nat)} {L:Lab} (hi:∀ b b' l,L b=some l->L b'=some l->b=b'):∀ b b' x,retLab lent l L b=some x->retLab lent l L b'=some x->b=b':=by
 intro b b' x h1 h2
 rcases ykq h1 with⟨p,g1,g2,rfl⟩ | ⟨s,o,q,i,g0,g1,g2,rfl⟩ <;> rcases ykq h2 with⟨p',g1',g2',e⟩ | ⟨s',o',q',i',g0',g1',g2',e⟩
 ·simp at e;subst e;exact hi _ _ _ g2 g2'
 ·rw[g1] at e;simp at e
 ·rw[g1'] at e;simp at e
 simp at e
 obtain⟨⟨rfl,rfl⟩,rfl⟩:=e
 have:=ybf1 l 0 s s' i g2 g2'
 subst this
 exact hi _ _ _ g1 g1'
theorem ywv1 {σ:St} {a:Act} {w:World} {L:Lab} (hR:Rel P N N w0 A I σ a w L) {rv:ResultVar} {r:RV} {s:Nat} (h:retV P σ rv=some (r,s)) {L':Lab} {s' j:Nat} (hn:∀ b,L b=none->L' b=none) (hl:isOvR r=true->RetTo L L' s' s j) :
  ∃ v,(match rv with | .tmp t=>(pure (a.tmps.getD t undef):Sem Value) | .cell x t=>do loadVar t (← asAddr (a.tmps.getD x undef))).run P w=.ok v w /\
   RVat P (fun b=>L' b=none/\b<w.heap.size/\(A b\/w0.heap.size<=b)) L' w s' j v r:=by
 have hz:∀ b,Zof w0 A L w b->(L' b=none/\b<w.heap.size/\(A b\/w0.heap.size<=b))/\w.heap[b]?=w.heap[b]?:=fun b h=>⟨⟨hn b h.1,h.2⟩,rfl⟩
 have hlab:isOvR r=true->∀ (b o:Nat) (q:Path),L b=some (s,(0,o)::q)->L' b=some (s',(j,o)::q)/\w.heap[b]?=w.heap[b]?:=fun hr b o q hb=>⟨hl hr b o q hb,rfl⟩
 cases rv with
 | tmp t =>
  refine⟨a.tmps.getD t undef,rfl,?_⟩
  have hs:=hR.slot t;simp only[retV] at h;split at h
  ·rename_i v hv
   rw[hv] at hs;simp at h
   obtain⟨rfl,rfl⟩:=h;exact hs
  ·rename_i g cs hv
   rw[hv] at hs;simp at h
   obtain⟨rfl,rfl⟩:=h;exact FrzV.mono hs hz
  ·rename_i g cs hv
   rw[hv] at hs;simp at h
   obtain⟨rfl,rfl⟩:=h;exact RepV.keep hs hz fun b o q hb=>hlab rfl b o q hb
  ·rename_i r' n hv
   rw[hv] at hs;split at h
   ·rename_i g cs hr'
    by_cases hn:n=if g then some cs.length else none
    ·rw[if_pos hn] at h
     have h:=Option.some.inj h;simp only[Prod.mk.injEq] at h;obtain⟨rfl,rfl⟩:=h;have h1:=yfp hR (s:=t) hs (.inl hr') hn
     rw[h1];have h2:=hR.slot r'
     rw[hr'] at h2;exact RepV.keep h2 hz fun b o q hb=>hlab rfl b o q hb
    rw[if_neg hn] at h;cases h
   cases h
  cases h
 | cell t ty =>
  have hs:=hR.slot t;simp only[retV] at h;split at h
  ·rename_i cs g n hv ht
   rw[hv] at hs;obtain⟨b,hb,hL,arr,e,hh,hsz,hrep'⟩:=hs;have hrep:∀ j c,cs[j]?=some c->Rep P (Zof w0 A L w) L w t [(0,j)] (arr.getD j undef) c:=fun j c hj=>(hrep' j c hj).1
   split at h
   ·rename_i hc
    have hcell:∀ j,j<n->∃ v,w.cell? ⟨b,0+j,none⟩=some v:=fun j hj=>⟨arr[j]'(by omega),by simp[World.cell?,hh,show j<arr.size by omega]⟩
    have hrun:=ydt ht hc.2 w b 0 hcell;have hget:∀ k,k<n->(cellsAt w b 0 n)[k]?=some (arr.getD k undef):=fun k hk=>ybm hk (by simp[World.cell?,hh,show k<arr.size by omega])
    have hone:∀ v∈cellsAt w b 0 n,v.oneCell'=true:=fun v hv=>by
     obtain⟨k,hk⟩:=List.mem_iff_getElem?.1 hv
     have hkn:k<n:=by have:=(List.getElem?_eq_some_iff.1 hk).1;rwa [yoc] at this
     rw[hget k hkn] at hk;have:=(hrep k (cs[k]'(by omega)) (by simp[show k<cs.length by omega])).oneCell
     rw[Option.some.inj hk] at this;exact this
    refine⟨mkV g (cellsAt w b 0 n),?_,?_⟩
    ·have:a.tmps.getD t undef=.pointer (some ⟨b,0,none⟩):=hb
     show Sem.run P (do loadVar ty (← asAddr (a.tmps.getD t undef))) w=_
     rw[this];simp[asAddr,hrun]
    split at h
    ·rename_i vs hvs
     simp at h
     obtain⟨rfl,rfl⟩:=h;show mkV g (cellsAt w b 0 n)=mkV g vs
     congr 1
     have:=ynz hvs
     subst this;have hln:vs.length=n:=by have:=hc.1;simpa using this
     apply List.ext_getElem?
     intro k;by_cases hk:k<n
     ·rw[hget k hk,(hrep k (.raw (vs[k]'(by omega))) (by simp[show k<vs.length by omega])).raw_eq]
      simp[show k<vs.length by omega]
     rw[List.getElem?_eq_none (by rw[yoc];omega),List.getElem?_eq_none (by omega)]
    simp at h
    obtain⟨rfl,rfl⟩:=h;have h1:=yaz (g:=g) hone (fun h=>by rw[yoc];exact hc.2 h)
    rw[yoc] at h1;refine⟨by rw[hc.1];exact h1.1,fun k c hk=>?_⟩
    have hkn:k<n:=by have:=(List.getElem?_eq_some_iff.1 hk).1;omega
    have h2:(mkV g (cellsAt w b 0 n)).cells.getD k undef=arr.getD k undef:=by
     rw[ynk1 hone fun h=>by rw[yoc];exact hc.2 h,hget k hkn];rfl
    rw[h2];exact(hrep k c hk).move [(j,k)] hz fun b q hb=>hlab rfl b k q hb
   cases h
  cases h
end Go.PV

/-
 A walk over pure values: a contract from a walk.
 Conditions: none.
-/
namespace Go.PV
variable {P:Program} {N:Nat} {w0:World} {A:Nat->Prop} {I:Bor}
def retM (tmps:Array Value):ResultVar->Sem Value
 | .tmp t=>pure (tmps.getD t undef)
 | .cell x t=>do loadVar t (← asAddr (tmps.getD x undef))
theorem yev (fn:Func) (tmps:Array Value) {P:Program} {w:World} {vs:List Value} (h:(fn.results.toList.mapM (retM tmps)).run P w=.ok vs w) :
  (results fn tmps).run P w=.ok (if vs.length=1 then vs.headD undef else .tuple vs.toArray) w:=by
 have e:fn.results.mapM (retM tmps)=(do let l ← fn.results.toList.mapM (retM tmps);pure l.toArray):=by
  rw[Array.mapM_eq_mapM_toList];simp
 have:results fn tmps=(do let vs ← fn.results.mapM (retM tmps);pure (if h:vs.size=1 then vs[0] else .tuple vs)):=rfl
 rw[this,e]
 simp only[bind_assoc,pure_bind,Sem.run_bind,h,Result.andThen_ok]
 by_cases h1:vs.length=1
 ·match vs,h1 with
  | [v],_=>simp
 simp[h1]
theorem ytz {σ:St} {a:Act} {w:World} {L:Lab} (hR:Rel P N N w0 A I σ a w L) {L':Lab} {s':Nat} (hno:∀ b,L b=none->L' b=none):∀ (rs:List ResultVar) (l:List (RV×Nat)) (i:Nat),retVs P σ rs=some l ->
  (∀ j r s,l[j]?=some (r,s)->isOvR r=true->RetTo L L' s' s (i+j)) ->
  ∃ vs:List Value,(rs.mapM (retM a.tmps)).run P w=.ok vs w/\vs.length=l.length/\∀ j r s,l[j]?=some (r,s) ->
   RVat P (fun b=>L' b=none/\b<w.heap.size/\(A b\/w0.heap.size<=b)) L' w s' (i+j) (vs.getD j undef) r
 | [],l,i,h,_=>by
  simp[retVs] at h
  subst h;exact⟨[],by simp,rfl,by simp⟩
 | rv::rs,l,i,h,hl=>by
  simp only[retVs] at h;split at h
  ·rename_i x xs hx hxs
   simp at h
   subst h;obtain⟨r,s⟩:=x;obtain⟨v,h1,h2⟩:=ywv1 hR hx (L':=L') (s':=s') (j:=i) hno fun hr=>by simpa using hl 0 r s rfl hr
   obtain⟨vs,h3,h4,h5⟩:=ytz (s':=s') hR hno rs xs (i+1) hxs fun j r s hj hr=>by
    have:=hl (j+1) r s (by simpa using hj) hr
    rw[show i+1+j=i+(j+1) from by omega];exact this
   refine⟨v::vs,?_,by simp[h4],fun j r' s' hj=>?_⟩
   ·have h1':(retM a.tmps rv).run P w=.ok v w:=h1
    simp[List.mapM_cons,Sem.run_bind,h1',h3]
   cases j with
   | zero =>
    simp at hj
    obtain⟨rfl,rfl⟩:=hj;simpa using h2
   | succ j =>
    have:=h5 j r' s' (by simpa using hj)
    rw[show i+(j+1)=i+1+j from by omega];simpa using this
  cases h
theorem ywg1 {Z:Nat->Prop} {L:Lab} {w:World} {s:Nat} {vs:List Value} {vals:List RV} (hlen:vals.length=vs.length) (hrv:∀ j r,vals[j]?=some r->RVat P Z L w s j (vs.getD j undef) r) :
  ResAt P Z L w s (if vs.length=1 then vs.headD undef else .tuple vs.toArray) vals:=by
 match hv:vals with
 | [r] =>
  rw[if_pos (by simpa using hlen.symm)];have:=hrv 0 r rfl
  match vs,hlen with
  | [v],_=>exact this
 | [] =>
  rw[if_neg (by simp at hlen;omega)]
  exact⟨vs.toArray,rfl,by simpa using hlen.symm,by simp⟩
 | r1::r2::rest =>
  rw[if_neg (by simp at hlen;omega)]
  exact⟨vs.toArray,rfl,by simpa using hlen.symm,fun j r hj=>by have:=hrv j r hj;simpa using this⟩
theorem yxv1 {fn:Func} {res:Res} {σ:St} {a':Act} {w w':World} {L:Lab} (hR':Rel P fn.ntmps fn.ntmps w A nob σ a' w' L)
  (h:∃ l,retVs P σ fn.results.toList=some l/\ovOk l=true/\l.map (·.1)=res.vals) :
  a'.defers=[]/\∃ v,(results fn a'.tmps).run P w'=.ok v w'/\∃ v' L',Ending.returned v=.returned v'/\Post P A w w' L' v' res:=by
 obtain⟨l,h5,h6,h7⟩:=h
 obtain⟨vs,h9,h10,h11⟩:=ytz hR' (L':=retLab false l L) (s':=0) (fun b hb=>yht hb) fn.results.toList l 0 h5 fun j r s hj hr=>ynz1 (by
  have:=yfz l 0 j r s h6 hj hr
  exact this) (by simp)
 refine⟨hR'.dfr,_,yev fn a'.tmps h9,_,retLab false l L,rfl,hR'.ev,ysz hR'.inj,?_,?_⟩
 ·intro b x hx
  rcases ykq hx with⟨p,e1,_⟩ | ⟨s,o,q,i,_,e1,e2,rfl⟩
  ·cases e1
  have:=hR'.lab b _ e1
  refine⟨this.1,?_⟩
  rcases this.2.1 with h | h
  ·exact h
  exact(yhe1 b h).elim
 refine ywg1 (by rw[← h7,h10];simp) fun j r hj=>?_
 rw[← h7,List.getElem?_map] at hj
 cases hx:l[j]? with
 | none=>rw[hx] at hj;cases hj
 | some x =>
  rw[hx] at hj;simp at hj
  subst hj;have:=h11 j x.1 x.2 hx
  simpa using this
theorem yzq1 {fn:Func} {vals:List RV} {x':SV} {σ:St} {a':Act} {w w':World} {L L0:Lab} {v0:Value} (hR':Rel P fn.ntmps fn.ntmps w (fun b=>A b\/L0 b≠none) ⟨fun b=>L0 b≠none,[v0]⟩ σ a' w' L)
  (h:(∃ l,retVs P σ fn.results.toList=some l/\ovOk l=true/\(l.all fun y=> !isOvR y.1||y.2 != 0)=true/\l.map (·.1)=vals)/\σ 0=x'/\(isOwnR x'||match x' with | .u=>true | _=>false)=true) :
  a'.defers=[]/\∃ v,(results fn a'.tmps).run P w'=.ok v w'/\∃ v' L',Ending.returned v=.returned v'/\PostB P A w L0 v0 w' L' v' vals x':=by
 obtain⟨⟨l,h5,h6,h0,h7⟩,hx,hown⟩:=h
 obtain⟨vs,h9,h10,h11⟩:=ytz hR' (L':=retLab true l L) (s':=1) (fun b hb=>yht hb) fn.results.toList l 0 h5 fun j r s hj hr=>ynz1 (lent:=true) (by
  have:=yfz l 0 j r s h6 hj hr
  exact this) (fun _ hs=>by
   have:=List.all_eq_true.1 h0 (r,s) (List.mem_of_getElem? hj)
   simp[hr,hs] at this)
 refine⟨hR'.dfr,_,yev fn a'.tmps h9,_,retLab true l L,rfl,⟨hR'.ev.os,hR'.ev.tape,hR'.ev.output,hR'.ev.size,hR'.ev.block⟩,ysz hR'.inj,?_,?_,?_⟩
 ·intro b x hx
  rcases ykq hx with⟨p,_,e1,rfl⟩ | ⟨s,o,q,i,_,e1,e2,rfl⟩
  ·exact⟨(hR'.lab b _ e1).1,(hR'.lab b _ e1).2.1⟩
  exact⟨(hR'.lab b _ e1).1,(hR'.lab b _ e1).2.1⟩
 ·refine ywg1 (by rw[← h7,h10];simp) fun j r hj=>?_
  rw[← h7,List.getElem?_map] at hj;cases hx:l[j]? with
  | none=>rw[hx] at hj;cases hj
  | some x =>
   rw[hx] at hj;simp at hj
   subst hj;have:=h11 j x.1 x.2 hx
   simpa using this
 have h12:=hR'.slot 0
 have h13:=hR'.pin 0 v0 rfl
 have h14:(fun s=>a'.tmps.getD s undef) 0=v0:=h13
 rw[h13,hx] at h12
 cases hu:isOwnR x' with
 | false =>
  rw[hu] at hown;cases x' <;> simp at hown
  trivial
 | true =>
 exact(LentAt.of hu h12).keep (fun b hb=>⟨⟨yht hb.1,hb.2⟩,rfl⟩) fun b q hb=>⟨by simp[retLab,hb],rfl⟩
end Go.PV

/-
 A walk over pure values: operations reckoned,with hints where a value can't be.
 Conditions: none.
-/
namespace Go.PV
variable {P:Program} {N:Nat}
structure HH where
 deep:Option (List C):=none
 row:Option (List C):=none
 n:Option Nat:=none
 b:Option Bool:=none
 g:Option Bool:=none
 pv:Option Value:=none
 call:Option (Option (List Arg)×List RV×Bool):=none
 lend:Option (Option (List Arg)×List RV×SV×Bool):=none
 fix:Option (Nat×SV):=none
 pre:Option (Nat×SV):=none
 take:Option (Nat×List C):=none
 bts:Option (List UInt8):=none
def allP:List Prop->Prop
 | []=>True
 | p::l=>p/\allP l
theorem allP_append {l l':List Prop}:allP (l++l')↔allP l/\allP l':=by
 induction l with
 | nil=>simp[allP]
 | cons p l ih=>simp[allP,ih,and_assoc]
def asO (as0:List Arg):Option (List Arg)->List Arg
 | none=>as0
 | some axs=>axs
def asP (as0:List Arg):Option (List Arg)->List Prop
 | none=>[]
 | some axs=>[as0=axs]
theorem yvu1 {as0:List Arg} {o:Option (List Arg)} (h:allP (asP as0 o)):asO as0 o=as0:=by
 cases o with
 | none=>rfl
 | some axs=>exact h.1.symm
def isPR:RV->Bool
 | .p _=>true
 | _=>false
def smP (b:Bool) (vals:List RV):List Prop:=if(!b||vals.all isPR)=true then[] else[vals.all simpleR=true]
theorem yyv1 {vals:List RV} (h:vals.all isPR=true):vals.all simpleR=true:=by
 induction vals with
 | nil=>rfl
 | cons v l ih =>
  simp only[List.all_cons,Bool.and_eq_true] at h ⊢;refine⟨?_,ih h.2⟩
  cases v <;> simp_all [isPR,simpleR]
theorem yzv1 {b:Bool} {vals:List RV} (h:allP (smP b vals)):(!b||vals.all simpleR)=true:=by
 unfold smP at h
 cases b with
 | false=>rfl
 | true =>
  cases hv:vals.all isPR with
  | true=>rw[yyv1 hv];rfl
  | false=>simp only[hv,Bool.not_true,Bool.or_self,Bool.false_eq_true,if_false] at h;rw[h.1];rfl
def rawB:List C->Bool
 | []=>true
 | .raw _::l=>rawB l
 | _::_=>false
theorem yaw1 {l:List C} (h:rawB l=true):wnR l=true:=by
 induction l with
 | nil=>rfl
 | cons c l ih =>
  cases c with
  | raw v=>simpa [wnR,wnC] using ih h
  | _=>simp[rawB] at h
def rawS:SV->Bool
 | .box cs | .ov _ cs=>rawB cs
 | _=>false
theorem ybw1 {x:SV} (h:rawS x=true):wnS x=true:=by
 cases x <;> first | exact yaw1 h | cases h
def smL (b:Bool) (vals:List RV) (x:SV):List Prop:=if(!b||(vals.all isPR&&rawS x))=true then[] else[(vals.all simpleR&&wnS x)=true]
theorem yoz1 {b:Bool} {vals:List RV} {x:SV} (h:allP (smL b vals x)):(!b||(vals.all simpleR&&wnS x))=true:=by
 unfold smL at h
 cases b with
 | false=>rfl
 | true =>
  cases hv:(vals.all isPR&&rawS x) with
  | true =>
   simp only[Bool.and_eq_true] at hv;rw[yyv1 hv.1,ybw1 hv.2];rfl
  | false=>simp only[hv,Bool.not_true,Bool.or_self,Bool.false_eq_true,if_false] at h;rw[h.1];rfl
def PureAt (P:Program) (op:Op) (vals:List Value) (v:Value):Prop :=
 ∀ (ρ:Operand->Value) (o:Oper),o.op=op->op.operands.toList.map ρ=vals->∀ w,(execOp ρ o).run P w=.ok (.value v) w
def valOf:SV->Option Value
 | .p v=>some v
 | _=>none
def valsOf (ev:Operand->SV):List Operand->Option (List Value)
 | []=>some []
 | x::l=>match valOf (ev x),valsOf ev l with
  | some v,some vs=>some (v::vs)
  | _,_=>none
def xPure (P:Program) (ev:Operand->SV) (o:Oper) (h:HH):Option (SV×List Prop) :=
 match h.pv,valsOf ev o.op.operands.toList with
 | some v,some vs=>some (.p v,[PureAt P o.op vs v])
 | _,_=>none
theorem yuz {ev:Operand->SV} {o:Oper} {h:HH} {y:SV} {obs:List Prop} {K:SV->Prop} (e:xPure P ev o h=some (y,obs)) (ho:allP obs) (hk:K y):∃ v,PureRun P ev o v/\K (.p v):=by
 unfold xPure at e
 split at e
 ·rename_i v vs h1 h2
  simp only[Option.some.injEq,Prod.mk.injEq] at e;obtain⟨rfl,rfl⟩:=e;refine⟨v,⟨fun x=>(valOf (ev x)).getD undef,?_,?_⟩,hk⟩
  ·have:∀ (l:List Operand) (vs:List Value),valsOf ev l=some vs->(∀ x∈l,ev x=.p ((valOf (ev x)).getD undef)):=by
    intro l;induction l with
    | nil=>simp
    | cons x l ih =>
     intro vs hv y hy;simp only[valsOf] at hv;split at hv
     ·rename_i v' vs' h3 h4
      rcases List.mem_cons.1 hy with rfl | hy
      ·cases hx:ev y <;> simp_all [valOf]
      exact ih vs' h4 y hy
     cases hv
   intro x hx;exact this _ _ h2 x (by simpa using hx)
  refine ho.1 _ o rfl ?_
  have:∀ (l:List Operand) (vs:List Value),valsOf ev l=some vs->l.map (fun x=>(valOf (ev x)).getD undef)=vs:=by
   intro l;induction l with
   | nil=>intro vs hv;simpa [valsOf] using hv
   | cons x l ih =>
    intro vs hv;simp only[valsOf] at hv;split at hv
    ·rename_i v' vs' h3 h4
     simp only[Option.some.injEq] at hv;subst hv;simp[h3,ih _ h4]
    cases hv
  exact this _ _ h2
 cases e
def xInt (op:BinOp) (k:IntKind) (a b:Int):Option (SV×List Prop) :=
 match op with
 | .add=>some (.p (.int k (k.wrap (a+b))),[])
 | .sub=>some (.p (.int k (k.wrap (a-b))),[])
 | .mul=>some (.p (.int k (k.wrap (a*b))),[])
 | .quo=>some (.p (.int k (k.wrap (a.tdiv b))),[b≠0])
 | .rem=>some (.p (.int k (a.tmod b)),[b≠0])
 | .eql=>some (.p (.bool (a==b)),[])
 | .neq=>some (.p (.bool (a != b)),[])
 | .lss=>some (.p (.bool (decide (a<b))),[])
 | .leq=>some (.p (.bool (decide (a<=b))),[])
 | .gtr=>some (.p (.bool (decide (a>b))),[])
 | .geq=>some (.p (.bool (decide (a>=b))),[])
 | _=>none
theorem ycw1 {op:BinOp} {k:IntKind} {a b:Int} {y:SV} {obs:List Prop} {K:SV->Prop} {F:Prop} (e:xInt op k a b=some (y,obs)) (ho:allP obs) (hk:K y):intK op k a b F K:=by
 cases op <;> simp only[xInt,Option.some.injEq,Prod.mk.injEq,reduceCtorEq] at e <;> obtain⟨rfl,rfl⟩:=e <;> first | exact hk | exact⟨ho.1,hk⟩
def xBool (P:Program) (op:BinOp) (t:TypeId) (a b:Bool):Option (SV×List Prop) :=
 match op,P.underlying t with
 | .eql,some .bool=>some (.p (.bool (a==b)),[])
 | .neq,some .bool=>some (.p (.bool (!(a==b))),[])
 | _,_=>none
def xStr (op:BinOp) (a b:ByteArray):Option (SV×List Prop) :=
 match op with
 | .eql=>some (.p (.bool (a.toList==b.toList)),[])
 | .neq=>some (.p (.bool (!(a.toList==b.toList))),[])
 | .add=>some (.p (.string (a++b)),[a.size+b.size<=1099511627776])
 | _=>none
def xErr (P:Program) (op:BinOp) (t:TypeId) (b:Bool):Option (SV×List Prop) :=
 match op with
 | .eql=>some (.p (.bool b),[P.underlying t=some (.interface (P.methodsAt t))])
 | .neq=>some (.p (.bool (!b)),[P.underlying t=some (.interface (P.methodsAt t))])
 | _=>none
def xBin (P:Program) (op:BinOp) (t:TypeId) (x y:SV) (F:Option (SV×List Prop)):Option (SV×List Prop) :=
 match x,y with
 | .p (.int k a),.p (.int k' b)=>(match xInt op k a b with
  | some r=>if k=k' then some r else F
  | none=>F)
 | .p (.bool a),.p (.bool b)=>xBool P op t a b
 | .p (.string a),.p (.string b)=>(match xStr op a b with
  | some r=>some r
  | none=>F)
 | .d false [.er b],.p .nilIface=>xErr P op t b
 | _,_=>F
theorem ypz1 {op:BinOp} {a b:ByteArray} {K:SV->Prop} {F:Prop} (e:xStr op a b=none) (h:F):strK op a b F K:=by
 cases op <;> simp[xStr] at e <;> exact h
theorem ydw1 {op:BinOp} {t:TypeId} {x y z:SV} {obs:List Prop} {K:SV->Prop} {Fo:Option (SV×List Prop)} {F:Prop} (hF:∀ z obs,Fo=some (z,obs)->allP obs->K z->F)
  (e:xBin P op t x y Fo=some (z,obs)) (ho:allP obs) (hk:K z):binK P op t x y F K:=by
 unfold xBin at e
 split at e
 ·rename_i k a k' b
  split at e
  ·rename_i r hr
   split at e
   ·rename_i hkk
    cases e
    exact .inl ⟨hkk,ycw1 hr ho hk⟩
   exact .inr (hF _ _ e ho hk)
  exact .inr (hF _ _ e ho hk)
 ·rename_i a b
  unfold xBool at e;split at e
  ·rename_i hu
   simp only[Option.some.injEq,Prod.mk.injEq] at e;obtain⟨rfl,rfl⟩:=e;exact⟨hu,hk⟩
  ·rename_i hu
   simp only[Option.some.injEq,Prod.mk.injEq] at e;obtain⟨rfl,rfl⟩:=e;exact⟨hu,hk⟩
  cases e
 ·rename_i a b
  split at e
  ·rename_i r hr
   cases e
   cases op <;> simp only[xStr,Option.some.injEq,Prod.mk.injEq,reduceCtorEq] at hr <;> obtain⟨rfl,rfl⟩:=hr <;> first | exact hk | exact⟨ho.1,hk⟩
  rename_i hr;exact ypz1 hr (hF _ _ e ho hk)
 ·rename_i b
  cases op <;> simp only[xErr,Option.some.injEq,Prod.mk.injEq,reduceCtorEq] at e <;> obtain⟨rfl,rfl⟩:=e <;> exact⟨ho.1,hk⟩
 rename_i h1 h2 h3 h4
 have hf:=hF _ _ e ho hk
 unfold binK
 split
 ·exact absurd rfl (h1 _ _ _ _ rfl)
 ·exact absurd rfl (h2 _ _ rfl)
 ·exact absurd rfl (h3 _ _ rfl)
 ·exact absurd rfl (h4 _ rfl)
 exact hf
def xRow (rows:List (List C)) (n:Int) (h:HH):Option (List C×List Prop):=match h.row with
 | some row=>some (row,[0<=n,rows[n.toNat]?=some row])
 | none=>none
def xDeref (rt:Nat->SV) (x:SV) (h:HH):Option (Bool×List C×List Prop) :=
 match x,h.deep with
 | .ref r q none,some (c::cs)=>some (false,[c],[getRow (rows1 (rt r)) q=some (c::cs)])
 | x,_=>match deref rt x with
  | some (g,cs)=>some (g,cs,[])
  | none=>none
theorem ydp1 {rt:Nat->SV} {x:SV} {h:HH} {g:Bool} {cs:List C} {obs:List Prop} (e:xDeref rt x h=some (g,cs,obs)) (ho:allP obs):deref rt x=some (g,cs):=by
 unfold xDeref at e
 split at e
 ·rename_i r q c cs' h1
  simp only[Option.some.injEq,Prod.mk.injEq] at e;obtain⟨rfl,rfl,rfl⟩:=e;simp[deref,ho.1]
 split at e
 ·rename_i g' cs' h1
  simp only[Option.some.injEq,Prod.mk.injEq] at e;obtain⟨rfl,rfl,rfl⟩:=e;exact h1
 cases e
def xSl (rt:Nat->SV) (x:SV) (h:HH):Option (Option TypeId×List (List C)×List Prop):=match xDeref rt x h with
 | some (false,[.sl o rows],obs)=>some (o,rows,obs)
 | _=>none
theorem ycf1 {rt:Nat->SV} {x:SV} {h:HH} {o:Option TypeId} {rows:List (List C)} {obs:List Prop} (e:xSl rt x h=some (o,rows,obs)) (ho:allP obs):slOf rt x=some (o,rows):=by
 unfold xSl at e
 split at e
 ·rename_i o' rows' obs' h1
  simp only[Option.some.injEq,Prod.mk.injEq] at e;obtain⟨rfl,rfl,rfl⟩:=e;simp[slOf,ydp1 h1 ho]
 cases e
def bytesTy (P:Program) (s d:TypeId):Bool:=match P.underlying s,P.underlying d with
 | some (.slice e),some .string=>(match P.underlying e with
  | some (.int .u8)=>true
  | _=>false)
 | _,_=>false
def xBytes (P:Program) (rt:Nat->SV) (s d:TypeId) (x:SV) (h:HH) (l:List UInt8):Option (SV×List Prop) :=
 match bytesTy P s d,xSl rt x h with
 | true,some (_,rows,obs)=>some (.p (.string ⟨l.toArray⟩),(l≠[]/\rows=l.map fun c=>[.raw (.int .u8 (c.toNat:Int))])::obs)
 | _,_=>none
theorem yep1 {rt:Nat->SV} {s d:TypeId} {x:SV} {h:HH} {l:List UInt8} {y:SV} {obs:List Prop} {K:SV->Prop} (e:xBytes P rt s d x h l=some (y,obs)) (ho:allP obs) (hk:K y):bytesK P rt s d x K:=by
 unfold xBytes at e
 split at e
 ·rename_i o rows obs' hT hS
  simp only[Option.some.injEq,Prod.mk.injEq] at e;obtain⟨rfl,rfl⟩:=e;have h1:=ycf1 hS ho.2;obtain⟨h2,h3⟩:=ho.1;cases l with
  | nil=>exact absurd rfl h2
  | cons b bs =>
   rw[h3] at h1;unfold bytesTy at hT;split at hT
   ·rename_i e1 hs hd
    split at hT
    ·rename_i he
     exact⟨o,b,bs,e1,h1,hs,he,hd,hk⟩
    cases hT
   cases hT
 cases e
def xLoad (P:Program) (rt:Nat->SV) (t:TypeId) (x:SV) (h:HH):Option (SV×List Prop) :=
 match tyC P t with
 | some (g,n)=>if(g||n==1)=true then(match x with
  | .fadr cs=>if n<=cs.length then some (mkD g (cs.take n),[]) else none
  | .addr r q=>(match(match h.row with | some cs=>some (cs,[getRow (rows1 (rt r)) q=some cs]) | none=>(match getRow (rows1 (rt r)) q with | some cs=>some (cs,[]) | none=>none)) with
   | some (cs,obs)=>if n<=cs.length then(match raws (cs.take n) with
    | some vs=>some (.p (mkV g vs),obs)
    | none=>(match h.b with
     | some true=>some (.d g (cs.take n),(frR (cs.take n)=true)::obs)
     | _=>if nd (cs.take n) then some (.ref r q (if g then some n else none),(frR (cs.take n)=false)::obs) else none)) else none
   | none=>none)
  | _=>none) else none
 | none=>none
theorem yit1 {rt:Nat->SV} {t:TypeId} {x:SV} {h:HH} {y:SV} {obs:List Prop} {K:SV->Prop} (e:xLoad P rt t x h=some (y,obs)) (ho:allP obs) (hk:K y):loadK P rt t x K:=by
 unfold xLoad at e
 split at e
 ·rename_i g n hT
  split at e
  ·rename_i hg
   refine⟨g,n,hT,fun hg'=>by simpa [hg'] using hg,?_⟩
   split at e
   ·rename_i cs
    split at e
    ·rename_i hn
     simp only[Option.some.injEq,Prod.mk.injEq] at e;obtain⟨rfl,rfl⟩:=e;exact⟨hn,hk⟩
    cases e
   ·rename_i r q
    split at e
    ·rename_i cs obs' hcs
     split at e
     ·rename_i hn
      have key:allP obs'->getRow (rows1 (rt r)) q=some cs:=fun ha=>by
       split at hcs
       ·simp only[Option.some.injEq,Prod.mk.injEq] at hcs
        obtain⟨rfl,rfl⟩:=hcs;exact ha.1
       split at hcs
       ·rename_i hcs2
        simp only[Option.some.injEq,Prod.mk.injEq] at hcs;obtain⟨rfl,rfl⟩:=hcs;exact hcs2
       cases hcs
      split at e
      ·rename_i vs hvs
       simp only[Option.some.injEq,Prod.mk.injEq] at e;obtain⟨rfl,rfl⟩:=e;exact⟨cs,key ho,hn,by simpa [hvs] using hk⟩
      rename_i hvs;split at e
      ·simp only[Option.some.injEq,Prod.mk.injEq] at e
       obtain⟨rfl,rfl⟩:=e;exact⟨cs,key ho.2,hn,by simp[hvs,ho.1];exact hk⟩
      split at e
      ·rename_i hnd
       simp only[Option.some.injEq,Prod.mk.injEq] at e;obtain⟨rfl,rfl⟩:=e;refine⟨cs,key ho.2,hn,?_⟩
       simp only[hvs,ho.1,hnd,if_true];exact hk
      cases e
     cases e
    cases e
   cases e
  cases e
 cases e
def xIdx (P:Program) (rt:Nat->SV) (t:TypeId) (x i:SV) (h:HH):Option (SV×List Prop) :=
 match i,slE P t,xSl rt x h with
 | .p (.int _ n),some (_,sz),some (o,rows,obs)=>(match h.row with
  | some row=>if row.length=sz then(match o,x with
   | none,_=>some (.fadr row,(0<=n)::(rows[n.toNat]?=some row)::obs)
   | some _,.ref r q none=>some (.addr r (q++[(n.toNat,0)]),(0<=n)::(rows[n.toNat]?=some row)::obs)
   | _,_=>none) else none
  | none=>none)
 | _,_,_=>none
theorem yew1 {rt:Nat->SV} {t:TypeId} {x i:SV} {h:HH} {y:SV} {obs:List Prop} {K:SV->Prop} (e:xIdx P rt t x i h=some (y,obs)) (ho:allP obs) (hk:K y):idxK P rt t x i K:=by
 unfold xIdx at e
 split at e
 ·rename_i k n e' sz o rows obs' hE hS
  split at e
  ·rename_i row hrow
   split at e
   ·rename_i hsz
    split at e
    ·simp only[Option.some.injEq,Prod.mk.injEq] at e
     obtain⟨rfl,rfl⟩:=e;exact⟨ho.1,e',sz,none,rows,row,hE,ycf1 hS ho.2.2,ho.2.1,hsz,hk⟩
    ·simp only[Option.some.injEq,Prod.mk.injEq] at e
     obtain⟨rfl,rfl⟩:=e;exact⟨ho.1,e',sz,_,rows,row,hE,ycf1 hS ho.2.2,ho.2.1,hsz,hk⟩
    cases e
   cases e
  cases e
 cases e
def xLen (P:Program) (rt:Nat->SV) (t:TypeId) (x:SV) (h:HH):Option (SV×List Prop) :=
 match x with
 | .p (.string s)=>(match P.underlying t with
  | some .string=>some (.p (.int .i64 s.size),[])
  | _=>none)
 | x=>match xSl rt x h,slE P t with
  | some (_,rows,obs),some _=>(match h.n with
   | some m=>some (.p (.int .i64 m),(rows.length=m)::obs)
   | none=>some (.p (.int .i64 rows.length),obs))
  | _,_=>none
theorem yfw1 {rt:Nat->SV} {t:TypeId} {x:SV} {h:HH} {y:SV} {obs:List Prop} {K:SV->Prop} (e:xLen P rt t x h=some (y,obs)) (ho:allP obs) (hk:K y):lenK P rt t x K:=by
 unfold xLen at e
 split at e
 ·split at e
  ·rename_i hu
   simp only[Option.some.injEq,Prod.mk.injEq] at e;obtain⟨rfl,rfl⟩:=e;exact⟨hu,hk⟩
  cases e
 rename_i hx
 unfold lenK
 split
 ·exact absurd rfl (hx _)
 split at e
 ·rename_i o rows obs' z hS hE
  split at e
  ·simp only[Option.some.injEq,Prod.mk.injEq] at e
   obtain⟨rfl,rfl⟩:=e;refine⟨o,rows,ycf1 hS ho.2,by simp[hE],?_⟩
   rw[ho.1];exact hk
  simp only[Option.some.injEq,Prod.mk.injEq] at e;obtain⟨rfl,rfl⟩:=e;exact⟨o,rows,ycf1 hS ho,by simp[hE],hk⟩
 cases e
end Go.PV

/-
 A walk over pure values: whole operations reckoned.
 Conditions: none.
-/
namespace Go.PV
variable {P:Program} {N:Nat}
def xIntOf:SV->Option Int
 | .p (.int .i64 n)=>some n
 | _=>none
def xAny:SV->Option Int
 | .p (.int _ n)=>some n
 | _=>none
def xBnd (ev:Operand->SV) (x:Option Operand) (dflt:Nat):Option (Nat×List Prop):=match x with
 | none=>some (dflt,[])
 | some y=>match xAny (ev y) with
  | some n=>some (n.toNat,[0<=n])
  | none=>none
theorem yar1 {ev:Operand->SV} {x:Option Operand} {dflt l:Nat} {obs:List Prop} (e:xBnd ev x dflt=some (l,obs)) (ho:allP obs):sOp.bnd ev x dflt=some (l:Int):=by
 unfold xBnd at e
 split at e
 ·simp only[Option.some.injEq,Prod.mk.injEq] at e
  obtain⟨rfl,rfl⟩:=e;rfl
 split at e
 ·rename_i y n hn
  simp only[Option.some.injEq,Prod.mk.injEq] at e;obtain⟨rfl,rfl⟩:=e;unfold xAny at hn;split at hn
  ·rename_i hy
   simp only[Option.some.injEq] at hn;subst hn;simp only[sOp.bnd,hy];rw[Int.toNat_of_nonneg ho.1]
  cases hn
 cases e
def xMk (P:Program) (e:TypeId):Bool:=decide (((P.info? e).map (·.bytes)).getD 0<=128)
def pick2 (t:Bool) (x y:SV):SV:=if t then x else y
def xS (P:Program) (ev:Operand->SV) (rt:Nat->SV) (o:Oper) (h:HH):Option (SV×List Prop) :=
 match o.op with
 | .move x=>if noTup (ev x) then some (ev x,[]) else none
 | .pick c a b=>(match ev c,h.b with
  | .p (.bool t),some t0=>if noTup (pick2 t0 (ev a) (ev b))=true then some (pick2 t0 (ev a) (ev b),[t=t0]) else none
  | _,_=>none)
 | .binOp op t x y _=>xBin P op t (ev x) (evN ev y) (xPure P ev o h)
 | .unOp .neg _ x=>(match ev x with
  | .p (.int k n)=>some (.p (.int k (k.wrap (0-n))),[])
  | _=>none)
 | .unOp .not _ x=>(match ev x with
  | .p (.bool b)=>some (.p (.bool (!b)),[])
  | _=>none)
 | .convert s d x=>(match h.bts with
  | some l=>xBytes P rt s d (ev x) h l
  | none=>xPure P ev o h)
 | .load t a=>xLoad P rt t (ev a) h
 | .fieldAddr t a k=>(match fldO P t k,ev a with
  | some off,.fadr cs=>some (.fadr (cs.drop off),[])
  | some off,.addr r q=>some (.addr r (bumpP q off),[])
  | _,_=>none)
 | .nilCheck x=>(match ev x with
  | .fadr cs=>some (.fadr cs,[])
  | .addr r q=>some (.addr r q,[])
  | _=>none)
 | .indexAddr t x i=>xIdx P rt t (ev x) (ev i) h
 | .extract x k=>(match ev x with
  | .tup l=>(match l[k]? with
   | some y=>if isDR y then some (y,[]) else none
   | none=>none)
  | _=>none)
 | .alloc t=>(match zeroC P t with
  | some cs=>some (.box (bpz t cs),[])
  | none=>none)
 | .makeSlice t l c=>(match xIntOf (ev l),xIntOf (ev c),slE P t with
  | some n,some n',some (e,_)=>(match zeroC P e with
   | some z=>if xMk P e then some (.ov false [.sl (some e) (List.replicate n.toNat z)],[n'=n,0<=n,n<=1099511627776]) else none
   | none=>none)
  | _,_,_=>none)
 | .buildSlice t n parts=>(match slE P t with
  | some (e,sz)=>(match sOp.partsOf ev sz parts.toList 0 with
   | some rows=>if parts.size=n/\n<=65536/\sz<=16/\(P.info? e).any (·.zero.isSome)=true then some (.ov false [.sl (some e) rows],[]) else none
   | none=>none)
  | none=>none)
 | .slice t x lo hi none=>(match ev x with
  | .d false [.sl none rows]=>(match slE P t,xBnd ev lo 0,xBnd ev hi rows.length with
   | some (_,sz),some (l,o1),some (hh,o2)=>some (.d false [.sl none ((rows.take hh).drop l)],(l<=hh)::(hh<=rows.length)::(∀ row∈rows,row.length=sz)::(o1++o2))
   | _,_,_=>none)
  | _=>xPure P ev o h)
 | .call c=>(match c.callee with
  | .builtin .len=>(match c.args.toList,c.argTypes.toList with
   | [x],[t]=>xLen P rt t (ev x) h
   | _,_=>none)
  | .builtin .min=>(match c.args.toList with
   | [x,y]=>(match ev x,ev y with
    | .p (.int k a),.p (.int k' b)=>if k=k' then some (.p (.int k (if b<a then b else a)),[]) else none
    | _,_=>none)
   | _=>none)
  | .builtin .max=>(match c.args.toList with
   | [x,y]=>(match ev x,ev y with
    | .p (.int k a),.p (.int k' b)=>if k=k' then some (.p (.int k (if a<b then b else a)),[]) else none
    | _,_=>none)
   | _=>none)
  | .value fn=>(match sOp.fnOf (ev fn),toArgs rt (c.args.toList.map ev),h.call with
   | some (f,caps),some as0,some (axs,vals,true)=>if sOp.noPtr as0 then some (resSV vals,asP as0 axs++(Meets P f (asO as0 axs++caps) { vals:=vals }::smP true vals)) else none
   | _,_,_=>none)
  | _=>none)
 | .build t parts=>(match sOp.buildC P ev t parts.toList with
  | some cs=>some (mkD true cs,[])
  | none=>none)
 | .makeFunc (.func f) first caps=>if first.size=0 then(match sOp.capsOf (caps.toList.map ev) with
  | some axs=>some (.d false [.fn f axs],[])
  | none=>none) else none
 | .field t x k=>(match ev x with
  | .ref r [(0,0)] (some 1)=>if(isRoot (rt r) && !isBox (rt r)&&fieldOne P t k)=true then some (.ref r [(0,0)] none,[]) else none
  | _=>xPure P ev o h)
 | .index ..=>xPure P ev o h
 | _=>none
theorem ydf1 {α:Type} {a:Array α} {x:α} (h:a.toList=[x]):a=#[x]:=by
 cases a;simp_all
theorem yza2 {ev:Operand->SV} {rt:Nat->SV} {o:Oper} {h:HH} {y:SV} {obs:List Prop} {K:SV->Prop} (e:xS P ev rt o h=some (y,obs)) (ho:allP obs) (hk:K y):sOp P ev rt o K:=by
 unfold xS at e
 split at e
 ·rename_i x hop
  split at e
  ·rename_i hn
   simp only[Option.some.injEq,Prod.mk.injEq] at e;obtain⟨rfl,rfl⟩:=e;simp only[sOp,hop];exact⟨hn,hk⟩
  cases e
 ·rename_i c a b hop
  split at e
  ·rename_i t t0 h1 h2
   split at e
   ·rename_i hn
    simp only[Option.some.injEq,Prod.mk.injEq] at e;obtain⟨rfl,rfl⟩:=e;obtain rfl:=ho.1
    simp only[sOp,hop];exact⟨t,h1,hn,hk⟩
   cases e
  cases e
 ·rename_i op t x z t2 hop
  simp only[sOp,hop];exact ydw1 (fun z obs h1 h2 h3=>yuz h1 h2 h3) e ho hk
 ·rename_i t x hop
  split at e
  ·rename_i k n hx
   simp only[Option.some.injEq,Prod.mk.injEq] at e;obtain⟨rfl,rfl⟩:=e;simp only[sOp,hop];exact⟨k,n,hx,hk⟩
  cases e
 ·rename_i t x hop
  split at e
  ·rename_i b hx
   simp only[Option.some.injEq,Prod.mk.injEq] at e;obtain⟨rfl,rfl⟩:=e;simp only[sOp,hop];exact⟨b,hx,hk⟩
  cases e
 ·rename_i s d x hop
  simp only[sOp,hop];split at e
  ·exact .inr (yep1 e ho hk)
  exact .inl (yuz e ho hk)
 ·rename_i t a hop
  simp only[sOp,hop];exact yit1 e ho hk
 ·rename_i t a k hop
  simp only[sOp,hop];split at e
  ·rename_i off cs h1 h2
   simp only[Option.some.injEq,Prod.mk.injEq] at e;obtain⟨rfl,rfl⟩:=e;exact⟨off,h1,by rw[h2];exact hk⟩
  ·rename_i off r q h1 h2
   simp only[Option.some.injEq,Prod.mk.injEq] at e;obtain⟨rfl,rfl⟩:=e;exact⟨off,h1,by rw[h2];exact hk⟩
  cases e
 ·rename_i x hop
  simp only[sOp,hop];split at e
  ·rename_i cs hx
   simp only[Option.some.injEq,Prod.mk.injEq] at e;obtain⟨rfl,rfl⟩:=e;rw[hx];exact hk
  ·rename_i r q hx
   simp only[Option.some.injEq,Prod.mk.injEq] at e;obtain⟨rfl,rfl⟩:=e;rw[hx];exact hk
  cases e
 ·rename_i t x i hop
  simp only[sOp,hop];exact yew1 e ho hk
 ·rename_i x k hop
  simp only[sOp,hop];split at e
  ·rename_i l hl
   split at e
   ·rename_i z hz
    split at e
    ·rename_i hd
     simp only[Option.some.injEq,Prod.mk.injEq] at e;obtain⟨rfl,rfl⟩:=e;exact⟨l,z,hl,hz,hd,hk⟩
    cases e
   cases e
  cases e
 ·rename_i t hop
  simp only[sOp,hop];split at e
  ·rename_i cs hcs
   simp only[Option.some.injEq,Prod.mk.injEq] at e;obtain⟨rfl,rfl⟩:=e;exact⟨cs,hcs,hk⟩
  cases e
 ·rename_i t l c hop
  simp only[sOp,hop];split at e
  ·rename_i n n' e' sz h1 h2 hE
   split at e
   ·rename_i z hz
    split at e
    ·rename_i hm
     simp only[Option.some.injEq,Prod.mk.injEq] at e;obtain⟨rfl,rfl⟩:=e;obtain⟨h3,h4,h5,_⟩:=ho;subst h3;have hn:∀ {x:SV},xIntOf x=some n'->x=.p (.int .i64 ((n'.toNat:Nat):Int)):=fun {x} hx=>by
      unfold xIntOf at hx;split at hx
      ·simp only[Option.some.injEq] at hx
       subst hx;rw[Int.toNat_of_nonneg h4]
      cases hx
     exact⟨n'.toNat,hn h1,hn h2,by omega,e',sz,hE,z,hz,by simpa [xMk] using hm,hk⟩
    cases e
   cases e
  cases e
 ·rename_i t n parts hop
  simp only[sOp,hop];split at e
  ·rename_i e' sz hE
   split at e
   ·rename_i rows hr
    split at e
    ·rename_i hc
     simp only[Option.some.injEq,Prod.mk.injEq] at e;obtain⟨rfl,rfl⟩:=e;exact⟨e',sz,hE,rows,hc.1,hc.2.1,hc.2.2.1,hc.2.2.2,hr,hk⟩
    cases e
   cases e
  cases e
 ·rename_i t x lo hi hop
  simp only[sOp,hop];split at e
  ·rename_i rows hx
   rw[hx];split at e
   ·rename_i e' sz l o1 hh o2 hE h1 h2
    simp only[Option.some.injEq,Prod.mk.injEq] at e;obtain⟨rfl,rfl⟩:=e;obtain⟨h3,h4,h5,h6⟩:=ho;rw[allP_append] at h6;exact⟨e',sz,hE,l,hh,yar1 h1 h6.1,yar1 h2 h6.2,h3,h4,h5,hk⟩
   cases e
  rename_i hx;split
  ·exact absurd (by assumption) (hx _)
  exact yuz e ho hk
 ·rename_i c hop
  simp only[sOp,hop];split at e
  ·rename_i hc
   simp only[hc];split at e
   ·rename_i x t ha ht
    exact⟨x,t,ydf1 ha,ydf1 ht,yfw1 e ho hk⟩
   cases e
  ·rename_i hc
   simp only[hc];split at e
   ·rename_i x z ha
    split at e
    ·rename_i k a k' b h1 h2
     split at e
     ·rename_i hkk
      subst hkk;simp only[Option.some.injEq,Prod.mk.injEq] at e;obtain⟨rfl,rfl⟩:=e;exact⟨x,z,k,a,b,ha,h1,h2,hk⟩
     cases e
    cases e
   cases e
  ·rename_i hc
   simp only[hc];split at e
   ·rename_i x z ha
    split at e
    ·rename_i k a k' b h1 h2
     split at e
     ·rename_i hkk
      subst hkk;simp only[Option.some.injEq,Prod.mk.injEq] at e;obtain⟨rfl,rfl⟩:=e;exact⟨x,z,k,a,b,ha,h1,h2,hk⟩
     cases e
    cases e
   cases e
  ·rename_i fn hc
   simp only[hc];split at e
   ·rename_i f caps as0 axs vals h1 h2 h3
    split at e
    ·rename_i hp
     simp only[Option.some.injEq,Prod.mk.injEq] at e;obtain⟨rfl,rfl⟩:=e;obtain⟨h4,h5,h6⟩:=allP_append.1 ho;rw[yvu1 h4] at h5;exact⟨f,caps,as0,{ vals:=vals },h1,h2,hp,h5,rfl,by simpa using yzv1 h6,hk⟩
    cases e
   cases e
  cases e
 ·rename_i t parts hop
  simp only[sOp,hop];split at e
  ·rename_i cs hcs
   simp only[Option.some.injEq,Prod.mk.injEq] at e;obtain⟨rfl,rfl⟩:=e;exact⟨cs,hcs,hk⟩
  cases e
 ·rename_i f first caps hop
  simp only[sOp,hop];split at e
  ·rename_i h0
   split at e
   ·rename_i axs has
    simp only[Option.some.injEq,Prod.mk.injEq] at e;obtain⟨rfl,rfl⟩:=e;exact⟨h0,axs,has,hk⟩
   cases e
  cases e
 ·rename_i t x k hop
  simp only[sOp,hop];split at e
  ·rename_i r hx
   split at e
   ·rename_i hb
    simp only[Option.some.injEq,Prod.mk.injEq] at e;obtain⟨rfl,rfl⟩:=e;simp only[Bool.and_eq_true,Bool.not_eq_true'] at hb;exact .inr ⟨r,hx,hb.1.1,hb.1.2,hb.2,hk⟩
   cases e
  exact .inl (yuz e ho hk)
 ·rename_i hop
  simp only[sOp,hop];exact yuz e ho hk
 cases e
end Go.PV

/-
 A walk over pure values: operations that act,reckoned;regions.
 Conditions: none.
-/
namespace Go.PV
variable {P:Program} {N:Nat}
def nWant (g:Bool) (cs:List C):Option Nat:=if g then some cs.length else none
def xAsg (P:Program) (σ:St) (o:Oper) (d:Nat) (x:Operand) (h:HH):Option (St×List Prop) :=
 match x with
 | .const (.slice none 0 0)=>(match slE P o.type with
  | some (e,_)=>some (put σ d (.ov false [.sl (some e) []]),[])
  | none=>none)
 | .const v=>some (put σ d (.p v),[])
 | .func f=>some (put σ d (.p (.func (.func f) #[] #[])),[])
 | .global _=>none
 | .tmp t=>(match σ t with
  | .ov _ _=>if t=d then none else some (trans σ t d,[])
  | .box _=>if t=d then none else some (put σ d (.addr t [(0,0)]),[])
  | .ref r q n=>if r=d then(if q=[(0,0)]/\n=none then(match σ r with
     | .ov false [_]=>some (σ,[])
     | _=>none) else none)
    else if q=[(0,0)] then(match σ r with
     | .ov g cs=>if n=nWant g cs then some (trans σ r d,[]) else none
     | .d g cs=>if n=nWant g cs then some (put σ d (.d g cs),[]) else none
     | _=>none)
    else(match h.deep,n with
     | some (c::cs),none=>some (put (gone σ r) d (.ov false [c]),[getRow (rows1 (σ r)) q=some (c::cs)])
     | none,n=>some (put σ d (.ref r q n),[])
     | _,_=>none)
  | .tup _=>none
  | .addr r q=>if r=d then none else some (put σ d (.addr r q),[])
  | y=>some (put σ d y,[]))
theorem ygw1 {σ σ':St} {o:Oper} {d:Nat} {x:Operand} {h:HH} {obs:List Prop} {K:St->Prop} (e:xAsg P σ o d x h=some (σ',obs)) (ho:allP obs) (hk:K σ'):asgK P σ o d x K:=by
 unfold xAsg at e
 split at e
 ·split at e
  ·rename_i e' sz hE
   simp only[Option.some.injEq,Prod.mk.injEq] at e;obtain⟨rfl,rfl⟩:=e;exact⟨e',sz,hE,hk⟩
  cases e
 ·rename_i v hv
  simp only[Option.some.injEq,Prod.mk.injEq] at e;obtain⟨rfl,rfl⟩:=e;unfold asgK;split
  ·rename_i heq
   simp only[Operand.const.injEq] at heq;exact absurd heq (hv)
  ·rename_i v' _ heq
   cases heq
   exact hk
  ·rename_i heq;cases heq
  ·rename_i heq;cases heq
  rename_i heq;cases heq
 ·simp only[Option.some.injEq,Prod.mk.injEq] at e
  obtain⟨rfl,rfl⟩:=e;exact hk
 ·cases e
 rename_i t
 simp only[asgK]
 split at e
 ·rename_i g cs ht
  split at e
  ·cases e
  rename_i hne;simp only[Option.some.injEq,Prod.mk.injEq] at e;obtain⟨rfl,rfl⟩:=e;simp only[ht];exact⟨hne,hk⟩
 ·rename_i cs ht
  split at e
  ·cases e
  rename_i hne;simp only[Option.some.injEq,Prod.mk.injEq] at e;obtain⟨rfl,rfl⟩:=e;simp only[ht];exact⟨hne,hk⟩
 ·rename_i r q n ht
  simp only[ht];split at e
  ·rename_i hr
   rw[if_pos hr];split at e
   ·rename_i hq
    split at e
    ·rename_i c hσ
     simp only[Option.some.injEq,Prod.mk.injEq] at e;obtain⟨rfl,rfl⟩:=e;simp only[hσ];exact⟨hq.1,hq.2,trivial,hk⟩
    cases e
   cases e
  rename_i hr;rw[if_neg hr];split at e
  ·rename_i hq
   rw[if_pos hq];split at e
   ·rename_i g cs hσ
    split at e
    ·rename_i hn
     simp only[Option.some.injEq,Prod.mk.injEq] at e;obtain⟨rfl,rfl⟩:=e;simp only[hσ];exact⟨hn,hk⟩
    cases e
   ·rename_i g cs hσ
    split at e
    ·rename_i hn
     simp only[Option.some.injEq,Prod.mk.injEq] at e;obtain⟨rfl,rfl⟩:=e;simp only[hσ];exact⟨hn,hk⟩
    cases e
   cases e
  rename_i hq;rw[if_neg hq];split at e
  ·rename_i c cs hdp
   simp only[Option.some.injEq,Prod.mk.injEq] at e;obtain⟨rfl,rfl⟩:=e;exact .inr ⟨c,cs,rfl,ho.1,hk⟩
  ·simp only[Option.some.injEq,Prod.mk.injEq] at e
   obtain⟨rfl,rfl⟩:=e;exact .inl hk
  cases e
 ·cases e
 ·rename_i r q ht
  split at e
  ·cases e
  rename_i hne;simp only[Option.some.injEq,Prod.mk.injEq] at e;obtain⟨rfl,rfl⟩:=e;simp only[ht];exact⟨hne,hk⟩
 rename_i h1 h2 h3 h4 h5
 simp only[Option.some.injEq,Prod.mk.injEq] at e
 obtain⟨rfl,rfl⟩:=e
 split
 ·exact absurd (by assumption) (h1 _ _)
 ·exact absurd (by assumption) (h2 _)
 ·exact absurd (by assumption) (h3 _ _ _)
 ·exact absurd (by assumption) (h4 _)
 ·exact absurd (by assumption) (h5 _ _)
 exact hk
def xOld (σ:St) (r:Nat) (q:Path) (h:HH):Option (List C×List Prop):=match h.row with
 | some cs=>some (cs,[getRow (rows1 (σ r)) q=some cs])
 | none=>match getRow (rows1 (σ r)) q with
  | some cs=>some (cs,[])
  | none=>none
theorem ypl1 {σ:St} {r:Nat} {q:Path} {h:HH} {cs:List C} {obs:List Prop} (e:xOld σ r q h=some (cs,obs)) (ho:allP obs):getRow (rows1 (σ r)) q=some cs:=by
 unfold xOld at e
 split at e
 ·simp only[Option.some.injEq,Prod.mk.injEq] at e
  obtain⟨rfl,rfl⟩:=e;exact ho.1
 split at e
 ·rename_i h2
  simp only[Option.some.injEq,Prod.mk.injEq] at e;obtain⟨rfl,rfl⟩:=e;exact h2
 cases e
def xStore (P:Program) (σ:St) (o:Oper) (t:TypeId) (a x:SV) (h:HH):Option (St×List Prop) :=
 match o.dst,tyC P t,a,mvCells σ x with
 | none,some (_,n),.addr r q,some (cs,mv)=>(match xOld σ r q h with
  | some (old,obs)=>if 0<n/\isOwnR (σ r)=true/\n<=old.length/\cs.length=n/\nb cs=true/\mv≠some r then
    (if((raws (old.take n)).isSome&&(raws cs).isSome)=true then some (stScal σ r q cs,obs) else some (stStruct (goneO σ mv) r q cs,obs)) else none
  | none=>none)
 | _,_,_,_=>none
theorem yfp1 {σ σ':St} {o:Oper} {t:TypeId} {a x:SV} {h:HH} {obs:List Prop} {K:St->Prop} (e:xStore P σ o t a x h=some (σ',obs)) (ho:allP obs) (hk:K σ'):stK P σ o t a x K:=by
 unfold xStore at e
 split at e
 ·rename_i g n r q cs mv hd hT hm
  split at e
  ·rename_i old obs' hold
   split at e
   ·rename_i hc
    obtain⟨h1,h2,h3,h4,hnb,h5⟩:=hc;split at e
    ·rename_i hb
     simp only[Option.some.injEq,Prod.mk.injEq] at e;obtain⟨rfl,rfl⟩:=e;exact⟨hd,g,n,r,q,old,cs,mv,hT,h1,h2,rfl,ypl1 hold ho,h3,hm,h4,hnb,h5,by rw[if_pos hb];exact hk⟩
    rename_i hb;simp only[Option.some.injEq,Prod.mk.injEq] at e;obtain⟨rfl,rfl⟩:=e;exact⟨hd,g,n,r,q,old,cs,mv,hT,h1,h2,rfl,ypl1 hold ho,h3,hm,h4,hnb,h5,by rw[if_neg hb];exact hk⟩
   cases e
  cases e
 cases e
def xStoreN (P:Program) (σ:St) (o:Oper) (t:TypeId) (a:SV) (e:TypeId) (h:HH):Option (St×List Prop) :=
 match o.dst,tyC P t,a with
 | none,some (_,1),.addr r q=>(match xOld σ r q h with
  | some (old,obs)=>if isOwnR (σ r)=true/\1<=old.length then some (stStruct σ r q [.sl (some e) []],obs) else none
  | none=>none)
 | _,_,_=>none
theorem yql1 {σ σ':St} {o:Oper} {t e:TypeId} {a:SV} {h:HH} {obs:List Prop} {K:St->Prop} (e':xStoreN P σ o t a e h=some (σ',obs)) (ho:allP obs) (hk:K σ'):stKc P σ o t a [.sl (some e) []] none K:=by
 unfold xStoreN at e'
 split at e'
 ·rename_i g r q hd hT
  split at e'
  ·rename_i old obs' hold
   split at e'
   ·rename_i hc
    simp only[Option.some.injEq,Prod.mk.injEq] at e'
    obtain⟨rfl,rfl⟩:=e'
    exact⟨hd,g,1,r,q,old,hT,by omega,hc.1,rfl,ypl1 hold ho,hc.2,rfl,rfl,by simp,by simpa [raws,goneO] using hk⟩
   cases e'
  cases e'
 cases e'
def xAdd (σ:St) (x:SV) (h:HH):Option (List (List C)×Option Nat×List Prop):=match xSl σ x h with
 | some (none,rows,obs)=>some (rows,none,obs)
 | some (some _,rows,obs)=>(match x with
  | .ref r [(0,0)] none=>(match σ r with
   | .ov false [.sl (some _) _]=>some (rows,some r,obs)
   | _=>none)
  | _=>none)
 | none=>none
theorem ybr1 {σ:St} {x:SV} {h:HH} {rows:List (List C)} {mv:Option Nat} {obs:List Prop} (e:xAdd σ x h=some (rows,mv,obs)) (ho:allP obs):addRows σ x=some (rows,mv):=by
 unfold xAdd at e
 split at e
 ·rename_i rows' obs' h1
  simp only[Option.some.injEq,Prod.mk.injEq] at e;obtain⟨rfl,rfl,rfl⟩:=e;simp[addRows,ycf1 h1 ho]
 ·rename_i t rows' obs' h1
  split at e
  ·rename_i r
   split at e
   ·rename_i t' rows2 h2
    simp only[Option.some.injEq,Prod.mk.injEq] at e;obtain⟨rfl,rfl,rfl⟩:=e;simp[addRows,ycf1 h1 ho,h2]
   cases e
  cases e
 cases e
def xApp (P:Program) (σ:St) (o:Oper) (t:TypeId) (s x:SV) (h:HH):Option (St×List Prop) :=
 match slE P t,xAdd σ x h with
 | some (e,sz),some (rows2,mv,obs)=>if apE P e=true then(match s with
  | .d false [.sl none []]=>some (putO o.dst (.ov false [.sl (some e) rows2]) (goneO σ mv),(rows2.length<=1099511627776)::(∀ row∈rows2,row.length=sz)::obs)
  | .ref r [(0,0)] none=>if mv=some r then none else(match σ r with
   | .ov false [.sl (some e') rows]=>if e'=e then some (putO o.dst (.ov false [.sl (some e) (rows++rows2)]) (gone (goneO σ mv) r),(rows.length+rows2.length<=1099511627776)::(∀ row∈rows2,row.length=sz)::obs) else none
   | _=>none)
  | _=>none) else none
 | _,_=>none
theorem yhw1 {σ σ':St} {o:Oper} {t:TypeId} {s x:SV} {h:HH} {obs:List Prop} {K:St->Prop} (e:xApp P σ o t s x h=some (σ',obs)) (ho:allP obs) (hk:K σ'):apK P σ o t s x K:=by
 unfold xApp at e
 split at e
 ·rename_i e' sz rows2 mv obs' hE hA
  split at e
  ·rename_i hap
   split at e
   ·simp only[Option.some.injEq,Prod.mk.injEq] at e
    obtain⟨rfl,rfl⟩:=e;exact⟨e',sz,rows2,mv,hE,hap,ybr1 hA ho.2.2,ho.2.1,ho.1,hk⟩
   ·rename_i r
    split at e
    ·cases e
    rename_i hmv;split at e
    ·rename_i e2 rows hσ
     split at e
     ·rename_i he
      simp only[Option.some.injEq,Prod.mk.injEq] at e;obtain⟨rfl,rfl⟩:=e;refine⟨e',sz,rows2,mv,hE,hap,ybr1 hA ho.2.2,ho.2.1,hmv,?_⟩
      simp only[hσ];exact⟨he,ho.1,hk⟩
     cases e
    cases e
   cases e
  cases e
 cases e
def xAps (P:Program) (σ:St) (o:Oper) (t t':TypeId) (s x:SV):Option (St×List Prop) :=
 match slE P t,P.underlying t',s,x with
 | some (e,1),some .string,.ref r [(0,0)] none,.p (.string b)=>if apE P e=true then(match σ r with
  | .ov false [.sl (some e') rows]=>if e'=e then some (putO o.dst (.ov false [.sl (some e) (rows++bytesR b)]) (gone σ r),[rows.length+b.size<=1099511627776]) else none
  | _=>none) else none
 | _,_,_,_=>none
theorem yiw1 {σ σ':St} {o:Oper} {t t':TypeId} {s x:SV} {obs:List Prop} {K:St->Prop} (e:xAps P σ o t t' s x=some (σ',obs)) (ho:allP obs) (hk:K σ'):∃ b,P.underlying t'=some .string/\x=.p (.string b)/\apsK P σ o t s b K:=by
 unfold xAps at e
 split at e
 ·rename_i e' r b hE hu
  split at e
  ·rename_i hap
   split at e
   ·rename_i e2 rows hσ
    split at e
    ·rename_i he
     simp only[Option.some.injEq,Prod.mk.injEq] at e;obtain⟨rfl,rfl⟩:=e;subst he;exact⟨b,hu,rfl,_,r,rows,hE,hap,rfl,hσ,ho.1,hk⟩
    cases e
   cases e
  cases e
 cases e
def xArg (σ:St) (d:Option (List C)) (x:SV):Option (Arg×List Prop):=match x,d with
 | .ref r (p::p2::q) none,some (c::cs)=>some (mkA false (eraR [c]),[getRow (rows1 (σ r)) (p::p2::q)=some (c::cs)])
 | x,_=>(match toArg σ x with
  | some a=>some (a,[])
  | none=>none)
theorem yjw1 {σ:St} {d:Option (List C)} {x:SV} {a:Arg} {obs:List Prop} (e:xArg σ d x=some (a,obs)) (ho:allP obs):toArg σ x=some a:=by
 unfold xArg at e
 split at e
 ·rename_i r p p2 q c cs
  simp only[Option.some.injEq,Prod.mk.injEq] at e;obtain⟨rfl,rfl⟩:=e;simp only[toArg,deref,ho.1]
 split at e
 ·simp only[Option.some.injEq,Prod.mk.injEq] at e
  obtain⟨rfl,_⟩:=e;assumption
 cases e
def xArgs (σ:St) (d:Option (List C)):List SV->Option (List Arg×List Prop)
 | []=>some ([],[])
 | x::l=>match xArg σ d x,xArgs σ d l with
  | some (a,o),some (axs,os)=>some (a::axs,o++os)
  | _,_=>none
theorem yrl1 {σ:St} {d:Option (List C)}:∀ {l:List SV} {axs:List Arg} {obs:List Prop},xArgs σ d l=some (axs,obs)->allP obs->toArgs σ l=some axs
 | [],axs,obs,e,_=>by
  simp only[xArgs,Option.some.injEq,Prod.mk.injEq] at e;obtain⟨rfl,_⟩:=e;rfl
 | x::l,axs,obs,e,ho=>by
  simp only[xArgs] at e;split at e
  ·rename_i a o as1 os h1 h2
   simp only[Option.some.injEq,Prod.mk.injEq] at e;obtain⟨rfl,rfl⟩:=e;obtain⟨h3,h4⟩:=allP_append.1 ho;simp only[toArgs,yjw1 h1 h3,yrl1 h2 h4]
  cases e
def xCall (P:Program) (σ:St) (o:Oper) (fn:Operand) (args:List Operand) (h:HH):Option (St×List Prop) :=
 match sOp.fnOf (evS σ fn),xArgs σ h.deep (args.map (evS σ)),h.call with
 | some (f,caps),some (as0,ob),some (axs,vals,b)=>if sOp.noPtr as0=true then
   some (putO o.dst (resSV vals) (if b then σ else frzAll ((args.map (evS σ)).flatMap rootOf) σ),asP as0 axs++(Meets P f (asO as0 axs++caps) { vals:=vals }::(smP b vals++ob))) else none
 | _,_,_=>none
theorem yjt1 {σ σ':St} {o:Oper} {fn:Operand} {args:List Operand} {h:HH} {obs:List Prop} {K:St->Prop} (e:xCall P σ o fn args h=some (σ',obs)) (ho:allP obs) (hk:K σ'):callK P σ o fn args K:=by
 unfold xCall at e
 split at e
 ·rename_i f caps as0 ob axs vals b h1 h2 h3
  split at e
  ·rename_i hp
   simp only[Option.some.injEq,Prod.mk.injEq] at e;obtain⟨rfl,rfl⟩:=e;obtain⟨h4,h5,h6⟩:=allP_append.1 ho;obtain⟨h7,h8⟩:=allP_append.1 h6;rw[yvu1 h4] at h5;exact⟨f,caps,as0,{ vals:=vals },h1,yrl1 h2 h8,hp,h5,rfl,b,yzv1 h7,hk⟩
  cases e
 cases e
def xLendOf (σ:St) (x:SV) (h:HH):Option (Nat×Option Path×SV×List Prop):=match x,h.deep with
 | .ref r q none,some (c::cs)=>if isOwnR (σ r)=true/\q≠[(0,0)] then some (r,some q,.ov false [c],[getRow (rows1 (σ r)) q=some (c::cs)]) else none
 | x,_=>(match lendOf σ x with
  | some (r,q,sv)=>some (r,q,sv,[])
  | none=>none)
theorem ysl1 {σ:St} {x:SV} {h:HH} {r:Nat} {q:Option Path} {sv:SV} {obs:List Prop} (e:xLendOf σ x h=some (r,q,sv,obs)) (ho:allP obs):lendOf σ x=some (r,q,sv):=by
 unfold xLendOf at e
 split at e
 ·rename_i r' q' c cs h1
  split at e
  ·rename_i hc
   simp only[Option.some.injEq,Prod.mk.injEq] at e;obtain⟨rfl,rfl,rfl,rfl⟩:=e;have h2:=ho.1;have h3:lendCell (σ r') r' q' none=some (r',some q',.ov false [c]):=by simp[lendCell,hc.1,h2]
   unfold lendOf;split
   ·rename_i heq;cases heq
   ·rename_i heq
    cases heq
    split
    ·rename_i g cs' hσ
     rw[if_neg hc.2,← hσ];exact h3
    exact h3
   rename_i hno;exact absurd rfl (hno _ _ _)
  cases e
 split at e
 ·rename_i h2
  simp only[Option.some.injEq,Prod.mk.injEq] at e;obtain⟨rfl,rfl,rfl,rfl⟩:=e;exact h2
 cases e
def xLend (P:Program) (σ:St) (o:Oper) (fn:Operand) (args:List Operand) (h:HH):Option (St×List Prop) :=
 match sOp.fnOf (evS σ fn),args,h.lend with
 | some (f,[]),x0::rest,some (axs,vals,sv',b)=>(match xLendOf σ (evS σ x0) h,toArgs σ (rest.map (evS σ)) with
  | some (r,q,sv,obs),some as0=>if(sOp.noPtr as0 && !((rest.map (evS σ)).flatMap rootOf).contains r&&lendSame sv sv')=true then
    some (putO o.dst (resSV vals) (lendBack (if b then σ else frzAll ((rest.map (evS σ)).flatMap rootOf) σ) r q sv'),asP as0 axs++(MeetsB P f sv (asO as0 axs) vals sv'::(smL b vals sv'++obs))) else none
  | _,_=>none)
 | _,_,_=>none
theorem ykt1 {σ σ':St} {o:Oper} {fn:Operand} {args:List Operand} {h:HH} {obs:List Prop} {K:St->Prop} (e:xLend P σ o fn args h=some (σ',obs)) (ho:allP obs) (hk:K σ'):lendK P σ o fn args K:=by
 unfold xLend at e
 split at e
 ·rename_i f x0 rest axs vals sv' b h1 h2
  split at e
  ·rename_i r q sv obs' as0 h3 h4
   split at e
   ·rename_i hc
    simp only[Option.some.injEq,Prod.mk.injEq] at e;obtain⟨rfl,rfl⟩:=e;obtain⟨h5,h6,h78⟩:=allP_append.1 ho;obtain⟨h7,h8⟩:=allP_append.1 h78;rw[yvu1 h5] at h6;replace h7:=yoz1 h7
    simp only[Bool.and_eq_true,Bool.not_eq_true',List.contains_eq_mem,decide_eq_false_iff_not] at hc;exact⟨f,x0,rest,r,q,sv,as0,vals,sv',h1,rfl,ysl1 h3 h8,h4,hc.1.1,hc.1.2,h6,hc.2,b,h7,hk⟩
   cases e
  cases e
 cases e
def xEat (P:Program) (σ:St) (o:Oper) (fn:Operand) (args:List Operand) (h:HH):Option (St×List Prop) :=
 match sOp.fnOf (evS σ fn),args,h.lend with
 | some (f,[]),x0::rest,some (axs,vals,.u,b)=>(match lendOf σ (evS σ x0),toArgs σ (rest.map (evS σ)) with
  | some (r,none,sv),some as0=>if(sOp.noPtr as0 && !((rest.map (evS σ)).flatMap rootOf).contains r)=true then
    some (putO o.dst (resSV vals) (gone (if b then σ else frzAll ((rest.map (evS σ)).flatMap rootOf) σ) r),asP as0 axs++(MeetsB P f sv (asO as0 axs) vals .u::smP b vals)) else none
  | _,_=>none)
 | _,_,_=>none
theorem ykw1 {σ σ':St} {o:Oper} {fn:Operand} {args:List Operand} {h:HH} {obs:List Prop} {K:St->Prop} (e:xEat P σ o fn args h=some (σ',obs)) (ho:allP obs) (hk:K σ'):eatK P σ o fn args K:=by
 unfold xEat at e
 split at e
 ·rename_i f x0 rest axs vals b h1 h2
  split at e
  ·rename_i r sv as0 h3 h4
   split at e
   ·rename_i hc
    simp only[Option.some.injEq,Prod.mk.injEq] at e;obtain⟨rfl,rfl⟩:=e;obtain⟨h5,h6,h7⟩:=allP_append.1 ho;rw[yvu1 h5] at h6;replace h7:=yzv1 h7
    simp only[Bool.and_eq_true,Bool.not_eq_true',List.contains_eq_mem,decide_eq_false_iff_not] at hc;exact⟨f,x0,rest,r,sv,as0,vals,h1,rfl,h3,h4,hc.1,hc.2,h6,b,h7,hk⟩
   cases e
  cases e
 cases e
def xOp0 (P:Program) (o:Oper) (σ:St) (h:HH):Option (St×List Prop) :=
 match o.op with
 | .assign x=>(match o.dst with | some d=>xAsg P σ o d x h | none=>none)
 | .store t a x=>(match nilSl P t x with
  | some e=>xStoreN P σ o t (evS σ a) e h
  | none=>xStore P σ o t (evS σ a) (evS σ x) h)
 | .box t x=>(match tyC P t,mvCells σ (evS σ x) with
  | some (_,n),some (cs,mv)=>if cs.length=n/\nb cs=true then some (putO o.dst (.box cs) (goneO σ mv),[]) else none
  | _,_=>none)
 | .call { callee:=.builtin .append,args:=args,argTypes:=ts }=>(match args.toList,ts.toList with
  | [s,x],[t,t']=>if t=t' then xApp P σ o t (apSrc σ s) (evS σ x) h else xAps P σ o t t' (apSrc σ s) (evS σ x)
  | _,_=>none)
 | .call { callee:=.value fn,args:=args,argTypes:=_ }=>(match h.lend with
  | some (_,_,.u,_)=>xEat P σ o fn args.toList h
  | some _=>xLend P σ o fn args.toList h
  | none=>xCall P σ o fn args.toList h)
 | .move (.tmp t)=>(match σ t with
  | .tup _=>(match o.dst with
   | some d=>if t=d then none else some (trans σ t d,[])
   | none=>none)
  | _=>(match xS P (evS σ) σ o h with
   | some (x,obs)=>some (putO o.dst x σ,obs)
   | none=>none))
 | .extract (.tmp t) k=>(match σ t with
  | .tup l=>(match l[k]? with
   | some (.ov g cs)=>some (putO o.dst (.ov g cs) (upd σ t (.tup (l.set k .u))),[])
   | some y=>if isDR y=true then some (putO o.dst y σ,[]) else none
   | none=>none)
  | _=>none)
 | .build t parts=>(match h.b with
  | some true=>(match sOp.buildC P (evS σ) t [],zeroC P t with
   | some _,some cs=>if parts.size=0 then some (putO o.dst (.ov true cs) σ,[]) else none
   | _,_=>none)
  | _=>(match xS P (evS σ) σ o h with
   | some (x,obs)=>some (putO o.dst x σ,obs)
   | none=>(match parts.toList with
    | [(0,x)]=>(match mvCells σ (evS σ x) with
     | some (cs,some r)=>if oneF P t=some cs.length then some (putO o.dst (.ov true cs) (gone σ r),[]) else none
     | _=>none)
    | _=>none)))
 | .slice t x lo hi c=>(match xS P (evS σ) σ o h with
  | some (y,obs)=>some (putO o.dst y σ,obs)
  | none=>(match lo,hi,c,slE P t,evS σ x with
   | none,some y,none,some (e,_),.ref r [(0,0)] none=>(match σ r,evS σ y with
    | .ov false [.sl (some e') rows],.p (.int _ n)=>if e'=e then some (putO o.dst (.ov false [.sl (some e) (rows.take n.toNat)]) (gone σ r),[0<=n,n<=rows.length]) else none
    | _,_=>none)
   | _,_,_,_,_=>none))
 | .buildSlice t n parts=>(match xS P (evS σ) σ o h with
  | some (x,obs)=>some (putO o.dst x σ,obs)
  | none=>(match slE P t,parts.toList with
   | some (e,sz),[(0,x)]=>(match mvCells σ (evS σ x) with
    | some (cs,some r)=>if apE P e=true/\n=1/\cs.length=sz/\0<sz/\sz<=16 then some (putO o.dst (.ov false [.sl (some e) [cs]]) (gone σ r),[]) else none
    | _=>none)
   | _,_=>none))
 | _=>(match xS P (evS σ) σ o h with
  | some (x,obs)=>some (putO o.dst x σ,obs)
  | none=>none)
theorem ytl1 {σ σ':St} {o:Oper} {h:HH} {obs:List Prop} {K:St->Prop} (e:xOp0 P o σ h=some (σ',obs)) (ho:allP obs) (hk:K σ'):pvOp P o σ K:=by
 have gen:∀ {x obs},xS P (evS σ) σ o h=some (x,obs)->allP obs->K (putO o.dst x σ)->sOp P (evS σ) σ o (fun x=>K (putO o.dst x σ)):=fun h1 h2 h3=>yza2 (K:=fun x=>K (putO o.dst x σ)) h1 h2 h3
 unfold xOp0 at e
 split at e
 ·rename_i x hop
  split at e
  ·rename_i d hd
   simp only[pvOp,hop,hd];exact ygw1 e ho hk
  cases e
 ·rename_i t a x hop
  simp only[pvOp,hop];split at e
  ·rename_i e1 h1
   exact .inr ⟨e1,h1,yql1 e ho hk⟩
  exact .inl (yfp1 e ho hk)
 ·rename_i t x hop
  simp only[pvOp,hop];split at e
  ·rename_i g n cs mv h1 h2
   split at e
   ·rename_i hn
    simp only[Option.some.injEq,Prod.mk.injEq] at e;obtain⟨rfl,rfl⟩:=e;exact⟨g,n,cs,mv,h1,h2,hn.1,hn.2,hk⟩
   cases e
  cases e
 ·rename_i args ts hop
  simp only[pvOp,hop];split at e
  ·rename_i s x t t' h1 h2
   split at e
   ·rename_i ht
    subst ht;exact .inl ⟨s,x,t,h1,h2,yhw1 e ho hk⟩
   obtain⟨b,h3,h4,h5⟩:=yiw1 e ho hk;exact .inr ⟨s,x,t,t',b,h1,h2,h3,h4,h5⟩
  cases e
 ·rename_i fn args ts hop
  simp only[pvOp,hop];split at e
  ·exact .inr (.inr (ykw1 e ho hk))
  ·exact .inr (.inl (ykt1 e ho hk))
  exact .inl (yjt1 e ho hk)
 ·rename_i t hop
  simp only[pvOp,hop];split at e
  ·rename_i l hl
   split at e
   ·rename_i d hd
    split at e
    ·cases e
    rename_i hne;simp only[Option.some.injEq,Prod.mk.injEq] at e;obtain⟨rfl,rfl⟩:=e;rw[hl];exact⟨d,hd,hne,hk⟩
   cases e
  rename_i hno;split at e
  ·rename_i x obs' hx
   simp only[Option.some.injEq,Prod.mk.injEq] at e;obtain⟨rfl,rfl⟩:=e;have:=gen hx ho hk
   split
   ·exact absurd (by assumption) (hno _)
   exact this
  cases e
 ·rename_i t k hop
  simp only[pvOp,hop];split at e
  ·rename_i l hl
   split at e
   ·rename_i g cs hy
    simp only[Option.some.injEq,Prod.mk.injEq] at e;obtain⟨rfl,rfl⟩:=e;exact⟨l,_,hl,hy,hk⟩
   ·rename_i y hy hno
    split at e
    ·rename_i hd
     simp only[Option.some.injEq,Prod.mk.injEq] at e;obtain⟨rfl,rfl⟩:=e;refine⟨l,y,hl,hno,?_⟩
     split
     ·exact absurd rfl (hy _ _)
     exact⟨hd,hk⟩
    cases e
   cases e
  cases e
 ·rename_i t parts hop
  simp only[pvOp,hop];split at e
  ·split at e
   ·rename_i cs0 cs h1 h2
    split at e
    ·rename_i hp
     simp only[Option.some.injEq,Prod.mk.injEq] at e;obtain⟨rfl,rfl⟩:=e;exact .inr (.inl ⟨cs0,cs,Array.eq_empty_of_size_eq_zero hp,h1,h2,hk⟩)
    cases e
   cases e
  split at e
  ·rename_i x obs' hx
   simp only[Option.some.injEq,Prod.mk.injEq] at e;obtain⟨rfl,rfl⟩:=e;exact .inl (gen hx ho hk)
  split at e
  ·rename_i x hp
   split at e
   ·rename_i cs r hm
    split at e
    ·rename_i h1
     simp only[Option.some.injEq,Prod.mk.injEq] at e;obtain⟨rfl,rfl⟩:=e;exact .inr (.inr ⟨x,cs,r,hp,h1,hm,hk⟩)
    cases e
   cases e
  cases e
 ·rename_i t x lo hi c hop
  simp only[pvOp,hop];split at e
  ·rename_i y obs' hx
   simp only[Option.some.injEq,Prod.mk.injEq] at e;obtain⟨rfl,rfl⟩:=e;exact .inl (gen hx ho hk)
  split at e
  ·rename_i y e1 sz r hE hX
   split at e
   ·rename_i e' rows k n hσ hy
    split at e
    ·rename_i he
     subst he;simp only[Option.some.injEq,Prod.mk.injEq] at e;obtain⟨rfl,rfl⟩:=e;obtain⟨h1,h2,_⟩:=ho;obtain⟨m,rfl⟩:=Int.eq_ofNat_of_zero_le h1;exact .inr ⟨_,sz,r,rows,y,k,m,rfl,rfl,rfl,hE,hX,hσ,hy,by omega,hk⟩
    cases e
   cases e
  cases e
 ·rename_i t n parts hop
  simp only[pvOp,hop];split at e
  ·rename_i x obs' hx
   simp only[Option.some.injEq,Prod.mk.injEq] at e;obtain⟨rfl,rfl⟩:=e;exact .inl (gen hx ho hk)
  split at e
  ·rename_i e' sz x hE hp
   split at e
   ·rename_i cs r hm
    split at e
    ·rename_i hc
     simp only[Option.some.injEq,Prod.mk.injEq] at e;obtain⟨rfl,rfl⟩:=e;exact .inr ⟨e',sz,x,cs,r,hE,hc.1,hp,hc.2.1,hm,hc.2.2.1,hc.2.2.2.1,hc.2.2.2.2,hk⟩
    cases e
   cases e
  cases e
 rename_i h1 h2 h3 h4 h5 h6 h7 h8 h9 h10
 split at e
 ·rename_i x obs' hx
  simp only[Option.some.injEq,Prod.mk.injEq] at e;obtain⟨rfl,rfl⟩:=e;have:=gen hx ho hk
  unfold pvOp;split
  ·exact absurd (by assumption) (h1 _)
  ·exact absurd (by assumption) (h2 _ _ _)
  ·exact absurd (by assumption) (h3 _ _)
  ·exact absurd (by assumption) (h4 _ _)
  ·exact absurd (by assumption) (h5 _ _ _)
  ·exact absurd (by assumption) (h6 _)
  ·exact absurd (by assumption) (h7 _ _)
  ·exact absurd (by assumption) (h8 _ _)
  ·exact absurd (by assumption) (h9 _ _ _ _ _)
  ·exact absurd (by assumption) (h10 _ _ _)
  exact this
 cases e
def xFix (σ:St) (h:HH):St×List Prop:=match h.fix with
 | some (k,x)=>(fun s=>if s=k then x else σ s,[σ k=x])
 | none=>(σ,[])
theorem yul1 {σ:St} {h:HH} (ho:allP (xFix σ h).2):(xFix σ h).1=σ:=by
 unfold xFix at ho ⊢
 split
 ·rename_i k x hk
  simp only[hk] at ho;funext s
  show(if s=k then x else σ s)=σ s
  split
  ·rename_i hs;rw[hs];exact ho.1.symm
  rfl
 rfl
def hintAt (hs:List (Nat×HH)) (k:Nat):HH:=match hs.lookup k with
 | some h=>h
 | none=>{}
def xOpF (P:Program) (o:Oper) (σ:St) (h:HH):Option (St×List Prop):=match h.pre,h.take with
 | none,none=>xOp0 P o σ h
 | none,some (t,c::cs)=>(match σ t with
  | .ref r q none=>if tkOk σ t r q=true then(match xOp0 P o (tkSt σ t r q c) h with
   | some (σ',obs)=>some (σ',(getRow (rows1 (σ r)) q=some (c::cs))::obs)
   | none=>none) else none
  | _=>none)
 | none,some (_,[])=>none
 | some (r,x),_=>(match xOp0 P o (fun s=>if s=r then x else frz r σ s) h with
  | some (σ',obs)=>some (σ',(frz r σ r=x)::obs)
  | none=>none)
theorem ycr1 {σ σ':St} {o:Oper} {h:HH} {obs:List Prop} {K:St->Prop} (e:xOpF P o σ h=some (σ',obs)) (ho:allP obs) (hk:K σ'):pvOpF P o σ K:=by
 unfold xOpF at e
 split at e
 ·exact .inl (ytl1 e ho hk)
 ·rename_i t c cs _ _
  split at e
  ·rename_i r q ht
   split at e
   ·rename_i hok
    split at e
    ·rename_i σ2 obs2 h2
     simp only[Option.some.injEq,Prod.mk.injEq] at e;obtain⟨rfl,rfl⟩:=e;exact .inr (.inr ⟨t,r,q,c,cs,ht,hok,ho.1,ytl1 h2 ho.2 hk⟩)
    cases e
   cases e
  cases e
 ·cases e
 rename_i _ r x _
 split at e
 ·rename_i σ2 obs2 h2
  simp only[Option.some.injEq,Prod.mk.injEq] at e;obtain⟨rfl,rfl⟩:=e;obtain⟨h3,h4⟩:=ho;have e2:(fun s=>if s=r then x else frz r σ s)=frz r σ:=by
   funext s
   by_cases hs:s=r
   ·subst hs;rw[if_pos rfl];exact h3.symm
   rw[if_neg hs]
  rw[e2] at h2;exact .inr (.inl ⟨r,ytl1 h2 h4 hk⟩)
 cases e
def xGuard (ops:Array Oper) (o:Oper) (σ:St) (h:HH):Option (Bool×List Prop):=match o.guard with
 | none=>some (true,[])
 | some (j,want)=>match(ops[j]?).bind (·.dst) with
  | some d=>(match σ d,h.g with
   | .p (.bool b),some t=>some (t==want,[b=t])
   | .p (.tuple vs),_=>if vs.size=0 then some (false,[]) else none
   | _,_=>none)
  | none=>none
theorem ygz {ops:Array Oper} {o:Oper} {σ:St} {h:HH} {t:Bool} {obs:List Prop} {run skip:Prop} (e:xGuard ops o σ h=some (t,obs)) (ho:allP obs) (hk:if t then run else skip):gOp ops o σ run skip:=by
 unfold xGuard at e
 unfold gOp
 split at e
 ·rename_i hg
  simp only[Option.some.injEq,Prod.mk.injEq] at e;obtain⟨rfl,rfl⟩:=e;simp only[hg];exact hk
 rename_i j want hg
 simp only[hg]
 split at e
 ·rename_i d hd
  refine⟨d,hd,?_⟩
  split at e
  ·rename_i b t' h1 h2
   simp only[Option.some.injEq,Prod.mk.injEq] at e;obtain⟨rfl,rfl⟩:=e;simp only[h1];rw[ho.1];by_cases hw:t'=want
   ·subst hw;simpa using hk
   rw[if_neg hw];have:(t'==want)=false:=by simpa using hw
   simpa [this] using hk
  ·rename_i vs h1
   split at e
   ·rename_i hv
    simp only[Option.some.injEq,Prod.mk.injEq] at e;obtain⟨rfl,rfl⟩:=e;simp only[h1];exact⟨hv,hk⟩
   cases e
  cases e
 cases e
def xL (P:Program) (ops:Array Oper) (hs:List (Nat×HH)):Nat->List Oper->St->Option (St×List Prop)
 | _,[],σ=>some (σ,[])
 | k,o::l,σ=>match xGuard ops o σ (hintAt hs k) with
  | some (true,o1)=>(match xOpF P o σ (hintAt hs k) with
   | some (σ1,o2)=>(match xL P ops hs (k+1) l (xFix σ1 (hintAt hs k)).1 with
    | some (σ2,o3)=>some (σ2,o1++(o2++((xFix σ1 (hintAt hs k)).2++o3)))
    | none=>none)
   | none=>none)
  | some (false,o1)=>(match xL P ops hs (k+1) l (putO o.dst (.p (.tuple #[])) σ) with
   | some (σ2,o3)=>some (σ2,o1++o3)
   | none=>none)
  | none=>none
theorem ywu1 {ops:Array Oper} {hs:List (Nat×HH)} {K:St->Prop}:∀ (l:List Oper) (k:Nat) (σ σ':St) (obs:List Prop),xL P ops hs k l σ=some (σ',obs)->allP obs->K σ'->pvL P ops l σ K
 | [],k,σ,σ',obs,e,ho,hk=>by
  simp only[xL,Option.some.injEq,Prod.mk.injEq] at e;obtain⟨rfl,rfl⟩:=e;exact hk
 | o::l,k,σ,σ',obs,e,ho,hk=>by
  simp only[xL] at e;split at e
  ·rename_i o1 hg
   split at e
   ·rename_i σ1 o2 h1
    split at e
    ·rename_i σ2 o3 h2
     simp only[Option.some.injEq,Prod.mk.injEq] at e;obtain⟨rfl,rfl⟩:=e;rw[allP_append,allP_append,allP_append] at ho;refine ygz hg ho.1 ?_
     rw[if_pos rfl];refine ycr1 h1 ho.2.1 ?_
     rw[yul1 ho.2.2.1] at h2;exact ywu1 l (k+1) _ _ _ h2 ho.2.2.2 hk
    cases e
   cases e
  ·rename_i o1 hg
   split at e
   ·rename_i σ2 o3 h2
    simp only[Option.some.injEq,Prod.mk.injEq] at e;obtain⟨rfl,rfl⟩:=e;rw[allP_append] at ho;refine ygz hg ho.1 ?_
    simp only[Bool.false_eq_true,if_false];exact ywu1 l (k+1) _ _ _ h2 ho.2 hk
   cases e
  cases e
def xDSt (P:Program) (rt:Nat->SV) (o:Oper) (σ:St) (r:Nat):Option (St×List Prop) :=
 match o.op with
 | .store t (.tmp d) x=>(match o.guard,o.dst,rt r,tyC P t,σ r,evS σ x with
  | none,none,.tup [],some (_,n),.box old,.p v =>
   if(d==r&&decide (0<n)&&old.length==n&&(raws old).isSome&&v.cells.toList.all scal&&v.cells.size==n)=true then some (upd σ r (.box (cellsV v)),[]) else none
  | _,_,_,_,_,_=>none)
 | _=>none
theorem ylw1 {rt:Nat->SV} {o:Oper} {σ σ':St} {r:Nat} {obs:List Prop} {K:St->Prop} (e:xDSt P rt o σ r=some (σ',obs)) (hk:K σ'):∃ y,dStore P rt o σ r y/\K (upd σ r y):=by
 unfold xDSt at e
 split at e
 ·rename_i t d x hop
  split at e
  ·rename_i _ g n old v h1 h2 h3 h4 h5 h6
   split at e
   ·rename_i hc
    simp only[Bool.and_eq_true,decide_eq_true_eq,beq_iff_eq] at hc;obtain⟨⟨⟨⟨⟨rfl,c1⟩,c2⟩,c3⟩,c4⟩,c5⟩:=hc;simp only[Option.some.injEq,Prod.mk.injEq] at e;obtain⟨rfl,rfl⟩:=e;exact⟨_,⟨h1,h2,h3,t,x,_,n,old,v,hop,h4,c1,h5,c2,c3,h6,c4,c5,rfl⟩,hk⟩
   cases e
  cases e
 cases e
def xDLend (P:Program) (rt:Nat->SV) (o:Oper) (σ:St) (r:Nat) (h:HH):Option (St×List Prop) :=
 match o.op with
 | .call { callee:=.value fn,args:=args,argTypes:=_ }=>(match args.toList with
  | x0::rest=>(match sOp.fnOf (evS σ fn),evS σ x0,σ r,rt r,toArgs (rtL rt o σ) (rest.map (evS σ)),h.lend with
   | some (f,[]),.addr r' [(0,0)],.box cs,.tup [],some as0,some (axs,vals,.box cs',_) =>
    if(r'==r&&sOp.noPtr as0&&(wnR cs'||((rest.map (evS σ)).flatMap rootOf).isEmpty))=true then(match o.dst with
     | some d=>if(!isRoot (σ d)&&d != r&&okW rt d (resSV vals))=true then some (upd (upd σ d (resSV vals)) r (.box cs'),asP as0 axs++(MeetsB P f (.box cs) (asO as0 axs) vals (.box cs')::smP true vals)) else none
     | none=>some (upd σ r (.box cs'),asP as0 axs++(MeetsB P f (.box cs) (asO as0 axs) vals (.box cs')::smP true vals))) else none
   | _,_,_,_,_,_=>none)
  | []=>none)
 | _=>none
theorem ygp1 {rt:Nat->SV} {o:Oper} {σ σ':St} {r:Nat} {h:HH} {obs:List Prop} {K:St->Prop} (e:xDLend P rt o σ r h=some (σ',obs)) (ho:allP obs) (hk:K σ'):∃ d y,dLend P rt o σ r d y/\K (upd (putW σ d) r y):=by
 unfold xDLend at e
 split at e
 ·rename_i fn args ts hop
  split at e
  ·rename_i x0 rest hargs
   split at e
   ·rename_i f r' cs as0 axs vals cs' b h1 h2 h3 h4 h5 h6
    split at e
    ·rename_i hc
     simp only[Bool.and_eq_true,beq_iff_eq,Bool.or_eq_true,List.isEmpty_iff] at hc;obtain⟨⟨rfl,hp⟩,hw⟩:=hc;split at e
     ·rename_i d hd
      split at e
      ·rename_i hc
       simp only[Bool.and_eq_true,Bool.not_eq_true',bne_iff_ne,ne_eq] at hc;simp only[Option.some.injEq,Prod.mk.injEq] at e;obtain⟨rfl,rfl⟩:=e;obtain⟨ho1,ho2,ho3⟩:=allP_append.1 ho;rw[yvu1 ho1] at ho2
       replace ho3:vals.all simpleR=true:=by simpa using yzv1 ho3
       exact⟨some (d,resSV vals),_,⟨h4,fn,args,ts,f,x0,rest,as0,vals,cs,cs',hop,hargs,h1,h2,h3,h5,hp,hw,ho2,ho3,rfl,by rw[hd];exact⟨hc.1.1,hc.1.2,hc.2,rfl⟩⟩,hk⟩
      cases e
     rename_i hd;simp only[Option.some.injEq,Prod.mk.injEq] at e;obtain⟨rfl,rfl⟩:=e;obtain⟨ho1,ho2,ho3⟩:=allP_append.1 ho;rw[yvu1 ho1] at ho2;replace ho3:vals.all simpleR=true:=by simpa using yzv1 ho3
     exact⟨none,_,⟨h4,fn,args,ts,f,x0,rest,as0,vals,cs,cs',hop,hargs,h1,h2,h3,h5,hp,hw,ho2,ho3,rfl,by rw[hd]⟩,hk⟩
    cases e
   cases e
  cases e
 cases e
def xDEat (P:Program) (rt:Nat->SV) (o:Oper) (σ:St) (r:Nat) (h:HH):Option (St×List Prop) :=
 match o.dst,o.guard,rt r with
 | some d,none,.tup [.u]=>if(d==r||isRoot (σ d))=true then none else(match o.op with
  | .move (.tmp t)=>if t=r then(match σ r with
   | .ov g cs=>if okW rt d (.ov g cs)=true then some (upd (upd σ r .u) d (.ov g cs),[]) else none
   | _=>none) else none
  | .call { callee:=.builtin .append,args:=args,argTypes:=ts }=>(match args.toList,ts.toList with
   | [.tmp z,y],[t,t']=>if z=r/\t=t' then(match slE P t,σ r,xSl (rtL rt o σ) (evS σ y) h with
    | some (e,sz),.ov false [.sl (some e') rows],some (none,rows2,obs)=>if e'=e/\apE P e=true/\okW rt d (.ov false [.sl (some e) (rows++rows2)])=true then some (upd (upd σ r .u) d (.ov false [.sl (some e) (rows++rows2)]),(rows.length+rows2.length<=1099511627776)::(∀ row∈rows2,row.length=sz)::obs) else none
    | _,_,_=>none) else none
   | _,_=>none)
  | _=>none)
 | _,_,_=>none
theorem ylt1 {rt:Nat->SV} {o:Oper} {σ σ':St} {r:Nat} {h:HH} {obs:List Prop} {K:St->Prop} (e:xDEat P rt o σ r h=some (σ',obs)) (ho:allP obs) (hk:K σ'):∃ d x,dEat P rt o σ r d x/\K (upd (upd σ r .u) d x):=by
 unfold xDEat at e
 split at e
 ·rename_i d h1 h2 h3
  split at e
  ·cases e
  rename_i hc;have hne:d≠r:=by rintro rfl;simp at hc
  have hnr:isRoot (σ d)=false:=by cases h9:isRoot (σ d) <;> simp_all
  split at e
  ·rename_i t hop
   split at e
   ·rename_i htr
    subst htr;split at e
    ·rename_i g cs hs
     split at e
     ·rename_i hw
      simp only[Option.some.injEq,Prod.mk.injEq] at e;obtain⟨rfl,rfl⟩:=e;exact⟨d,_,⟨h3,h2,h1,hne,hnr,hw,.inl ⟨hop,⟨g,cs,hs⟩,hs.symm⟩⟩,hk⟩
     cases e
    cases e
   cases e
  ·rename_i args ts hop
   split at e
   ·rename_i z y t t' ha hts
    split at e
    ·rename_i hc2
     obtain⟨rfl,rfl⟩:=hc2;split at e
     ·rename_i e1 sz e2 rows rows2 obs' h4 h5 h6
      split at e
      ·rename_i hc3
       obtain⟨rfl,h7,h8⟩:=hc3;simp only[Option.some.injEq,Prod.mk.injEq] at e;obtain⟨rfl,rfl⟩:=e;obtain⟨ho1,ho2,ho3⟩:=ho;exact⟨d,_,⟨h3,h2,h1,hne,hnr,h8,.inr ⟨args,ts,y,t,e2,sz,rows,rows2,hop,ha,hts,h4,h7,h5,ycf1 h6 ho3,ho2,ho1,rfl⟩⟩,hk⟩
      cases e
     cases e
    cases e
   cases e
  cases e
 cases e
def bth (h:HH) (x:SV):SV:=match h.pre with
 | some _=>frzAt x
 | none=>x
theorem yqz1 (h:HH) (x:SV):bth h x=x\/bth h x=frzAt x:=by unfold bth;split <;> simp
def xDOp (P:Program) (rt:Nat->SV) (e:Option Nat) (o:Oper) (σ:St) (h:HH):Option (St×List Prop) :=
 match e with
 | some r=>(match h.lend with
  | none=>(match rt r with
   | .tup [.u]=>xDEat P rt o σ r h
   | _=>xDSt P rt o σ r)
  | some _=>xDLend P rt o σ r h)
 | none=>(match o.dst with
  | some d=>if(isRoot (σ d)||(stOf o).isSome)=true then none else(match o.op with
   | .assign x=>if(isDR (evS σ x)&&okW rt d (evS σ x))=true then some (upd σ d (evS σ x),[]) else none
   | _=>(match xS P (evS σ) (rtL rt o σ) o h with
    | some (x,obs)=>if okW rt d (bth h x)=true then some (upd σ d (bth h x),obs) else none
    | none=>none))
  | none=>none)
theorem ymw1 {rt:Nat->SV} {en:Option Nat} {o:Oper} {σ σ':St} {h:HH} {obs:List Prop} {K:St->Prop} (e:xDOp P rt en o σ h=some (σ',obs)) (ho:allP obs) (hk:K σ'):dOp P rt en o σ K:=by
 unfold xDOp at e
 split at e
 ·rename_i r
  split at e
  ·split at e
   ·exact .inr (.inr (ylt1 e ho hk))
   exact .inl (ylw1 e hk)
  exact .inr (.inl (ygp1 e ho hk))
 split at e
 ·rename_i d hd
  split at e
  ·cases e
  rename_i hr;have hr':isRoot (σ d)=false/\stOf o=none:=by
   cases h5:isRoot (σ d) <;> cases h6:stOf o <;> simp_all
  refine⟨d,hd,hr'.2,hr'.1,?_⟩
  split at e
  ·rename_i x hop
   split at e
   ·rename_i hw
    simp only[Option.some.injEq,Prod.mk.injEq] at e;obtain⟨rfl,rfl⟩:=e;have hw2:=Bool.and_eq_true_iff.1 hw;simp only[hop];exact⟨hw2.1,hw2.2,hk⟩
   cases e
  rename_i hno;split at e
  ·rename_i x obs' hx
   split at e
   ·rename_i hw
    simp only[Option.some.injEq,Prod.mk.injEq] at e;obtain⟨rfl,rfl⟩:=e;have:=yza2 (K:=fun x=>∃ y,(y=x\/y=frzAt x)/\okW rt d y=true/\K (upd σ d y)) hx ho ⟨_,yqz1 h x,hw,hk⟩
    split
    ·exact absurd (by assumption) (hno _)
    exact this
   cases e
  cases e
 cases e
def xD (P:Program) (ops:Array Oper) (rt:Nat->SV) (T:List (Nat×Nat)) (hs:List (Nat×HH)):Nat->List Oper->St->Option (St×List Prop)
 | _,[],σ=>some (σ,[])
 | k,o::l,σ=>match xGuard ops o σ (hintAt hs k) with
  | some (true,o1)=>(match xDOp P rt (T.lookup k) o σ (hintAt hs k) with
   | some (σ1,o2)=>(match xD P ops rt T hs (k+1) l (xFix σ1 (hintAt hs k)).1 with
    | some (σ2,o3)=>some (σ2,o1++(o2++((xFix σ1 (hintAt hs k)).2++o3)))
    | none=>none)
   | none=>none)
  | some (false,o1)=>(match o.dst with
   | some d=>if(isRoot (σ d)||(stOf o).isSome || !okW rt d (.p (.tuple #[])))=true then none else(match xD P ops rt T hs (k+1) l (upd σ d (.p (.tuple #[]))) with
    | some (σ2,o3)=>some (σ2,o1++o3)
    | none=>none)
   | none=>none)
  | none=>none
theorem yrz1 {ops:Array Oper} {rt:Nat->SV} {T:List (Nat×Nat)} {hs:List (Nat×HH)} {K:St->Prop}:∀ (l:List Oper) (k:Nat) (σ σ':St) (obs:List Prop),xD P ops rt T hs k l σ=some (σ',obs)->allP obs->K σ'->pvD P ops rt T k l σ K
 | [],k,σ,σ',obs,e,ho,hk=>by
  simp only[xD,Option.some.injEq,Prod.mk.injEq] at e;obtain⟨rfl,rfl⟩:=e;exact hk
 | o::l,k,σ,σ',obs,e,ho,hk=>by
  simp only[xD] at e;split at e
  ·rename_i o1 hg
   split at e
   ·rename_i σ1 o2 h1
    split at e
    ·rename_i σ2 o3 h2
     simp only[Option.some.injEq,Prod.mk.injEq] at e;obtain⟨rfl,rfl⟩:=e;rw[allP_append,allP_append,allP_append] at ho;refine ygz hg ho.1 ?_
     rw[if_pos rfl];refine ymw1 h1 ho.2.1 ?_
     rw[yul1 ho.2.2.1] at h2;exact yrz1 l (k+1) _ _ _ h2 ho.2.2.2 hk
    cases e
   cases e
  ·rename_i o1 hg
   split at e
   ·rename_i d hd
    split at e
    ·cases e
    rename_i hr;split at e
    ·rename_i σ2 o3 h2
     simp only[Option.some.injEq,Prod.mk.injEq] at e;obtain⟨rfl,rfl⟩:=e;rw[allP_append] at ho;refine ygz hg ho.1 ?_
     simp only[Bool.false_eq_true,if_false];have hr':isRoot (σ d)=false/\stOf o=none/\okW rt d (.p (.tuple #[]))=true:=by
      cases h5:isRoot (σ d) <;> cases h6:stOf o <;> cases h7:okW rt d (.p (.tuple #[])) <;> simp_all
     exact⟨d,hd,hr'.2.1,hr'.1,hr'.2.2,yrz1 l (k+1) _ _ _ h2 ho.2 hk⟩
    cases e
   cases e
  cases e
end Go.PV

/-
 A walk over pure values: code by rules over lists of slots;loops that are reckoned.
 Conditions: none.
-/
namespace Go.PV
variable {P:Program} {N:Nat}
abbrev LS:=List (Nat×SV)
def refsOk (l:LS):Bool:=l.all fun x=>refOk (l.map (·.1)) x.2
def readL (σ:St) (l:LS):LS:=l.map fun x=>(x.1,σ x.1)
theorem yaj {σ:St} {l:LS} (h1:refsOk l=true) (h2:readL σ l=l):agree l σ:=by
 refine⟨h1,?_⟩
 clear h1
 have:∀ (l':LS),(∀ x∈readL σ l',x∈l' )->True:=fun _ _=>trivial
 unfold readL at h2
 intro x hx
 have key:∀ (l:LS),l.map (fun x=>(x.1,σ x.1))=l->∀ x∈l,σ x.1=x.2:=by
  intro l;induction l with
  | nil=>simp
  | cons y l ih =>
   intro h x hx;simp only[List.map_cons,List.cons.injEq] at h;rcases List.mem_cons.1 hx with rfl | hx
   ·exact congrArg Prod.snd h.1
   exact ih h.2 x hx
 exact key l h2 x hx
def wk (l l':LS):Prop:=agree l' (ofL l)
theorem yry1 {l l':LS} (h1:refsOk l'=true) (h2:readL (ofL l) l'=l'):wk l l':=yaj h1 h2
def OkL (P:Program) (N:Nat) (c:Code) (l:LS) (Q:Ex->LS->Prop):Prop :=
 Ok P N c (ofL l) fun e σ=>∃ l',(σ=ofL l'\/agree l' σ)/\Q e l'
theorem OkL.mono {c:Code} {l:LS} {Q Q':Ex->LS->Prop} (h:OkL P N c l Q) (hq:∀ e l,Q e l->Q' e l):OkL P N c l Q':=fun k hB w0 A I a w L hI hR =>
 wp_mono (h k hB w0 A I a w L hI hR) fun e a w h=>by
  cases e <;> first | exact h.elim | (obtain⟨σ,L,h1,l',h2,h3⟩:=h;exact⟨σ,L,h1,l',h2,hq _ _ h3⟩)
theorem OkL.weak {c:Code} {l l':LS} {Q:Ex->LS->Prop} (h:OkL P N c l' Q) (hw:wk l l'):OkL P N c l Q:=fun k hB w0 A I a w L hI hR =>
 h k hB w0 A I a w L hI (yrf hR hw)
def seqL (K:LS->Prop) (Q:Ex->LS->Prop):Ex->LS->Prop:=fun e l=>match e with
 | .normal=>K l
 | e=>Q e l
def blockL (id:Nat) (Q:Ex->LS->Prop):Ex->LS->Prop:=fun e l=>match e with
 | .exit i=>if i=id then Q .normal l else Q (.exit i) l
 | e=>Q e l
theorem yib {a b:Code} {l:LS} {Q:Ex->LS->Prop} (h:OkL P N a l (seqL (fun l'=>OkL P N b l' Q) Q)):OkL P N (.seq a b) l Q:=fun k hB w0 A I x w L hI hR=>by
 simp only[codeB,Bool.and_eq_true] at hB
 refine wp_seq (wp_mono (h k hB.1 w0 A I x w L hI hR) fun e x w h=>?_)
 cases e with
 | normal =>
  obtain⟨σ,L,h1,l',h2,h3⟩:=h;refine h3 k hB.2 w0 A I x w L hI ?_
  rcases h2 with rfl | h2
  ·exact h1
  exact yrf h1 h2
 | exit id=>exact h
 | ret=>exact h
 | _=>exact h.elim
theorem yia {l:LS} {Q:Ex->LS->Prop} (h:Q .normal l):OkL P N .skip l Q:=fun _ _ w0 A I a w L hI hR=>wp_skip ⟨_,L,hR,l,.inl rfl,h⟩
theorem yzc {id:Nat} {l:LS} {Q:Ex->LS->Prop} (h:Q (.exit id) l):OkL P N (.exit id) l Q:=fun _ _ w0 A I a w L hI hR=>wp_exit ⟨_,L,hR,l,.inl rfl,h⟩
theorem yra {l:LS} {Q:Ex->LS->Prop} (h:Q .ret l):OkL P N .ret l Q:=fun _ _ w0 A I a w L hI hR=>wp_ret ⟨_,L,hR,l,.inl rfl,h⟩
theorem ymt1 {c:Operand} {b:Bool} {x y:Code} {l:LS} {Q:Ex->LS->Prop} (hc:evS (ofL l) c=.p (.bool b)) (h1:b=true->OkL P N x l Q) (h2:b=false->OkL P N y l Q):OkL P N (.cond c x y) l Q:=fun k hB w0 A I a w L hI hR=>by
 simp only[codeB,Bool.and_eq_true] at hB
 refine wp_cond (yjk1 hR hc) ?_
 cases b
 ·exact h2 rfl k hB.2 w0 A I a w L hI hR
 exact h1 rfl k hB.1 w0 A I a w L hI hR
theorem yja {id:Nat} {c:Code} {l:LS} {Q:Ex->LS->Prop} (h:OkL P N c l (blockL id Q)):OkL P N (.block id c) l Q:=fun k hB w0 A I a w L hI hR=>by
 refine wp_block (wp_mono (h k hB w0 A I a w L hI hR) fun e a w h=>?_)
 cases e with
 | normal=>exact h
 | exit i =>
  obtain⟨σ',L',h1,l',h2,h3⟩:=h;simp only[Exit.inBlock];unfold blockL at h3;split
  ·rename_i hi
   simp only[hi,if_true] at h3;exact⟨σ',L',h1,l',h2,h3⟩
  rename_i hi;simp only[hi,if_false] at h3;exact⟨σ',L',h1,l',h2,h3⟩
 | ret=>exact h
 | _=>exact h.elim
theorem ywb {X:Type} {a b:Code} {l:LS} {Q:Ex->LS->Prop} (J:X->LS) (K:X->Prop) (hb:∀ x,K x->OkL P N b (J x) Q) (ha:OkL P N a l (seqL (fun l'=>∃ x,K x/\wk l' (J x)) Q)):OkL P N (.seq a b) l Q :=
 yib (ha.mono fun e l' h=>by
  cases e with
  | normal=>obtain⟨x,h1,h2⟩:=h;exact(hb x h1).weak h2
  | _=>exact h)
def ptBox:SV->SV
 | .box cs=>.d false [.pt (eraR cs)]
 | x=>x
theorem Rel.learn {M:Nat} {w0:World} {A:Nat->Prop} {I:Bor} {σ:St} {a:Act} {w:World} {L:Lab} {r:Nat} {sv:SV} (hR:Rel P N M w0 A I σ a w L) (hr:r<N) (hu:σ r=.u) (hn:refOf sv=none) (hl:isLab sv=false)
  (hs:∀ (tm:Nat->Value) (σ:St) (s:Nat),RelS P (Zof w0 A L w) L w tm σ s (a.tmps.getD r undef) sv):Rel P N M w0 A I (fun s=>if s=r then sv else σ s) a w L:=by
 refine⟨hR.dfr,hR.siz,hR.ev,hR.inj,hR.lab,fun s h=>?_,hR.hA,hR.pin,fun s=>?_⟩
 ·have:s≠r:=by omega
  simp only[if_neg this];exact hR.out s h
 by_cases h:s=r
 ·subst h;simp only[if_true];exact hs _ _ _
 simp only[if_neg h]
 refine(hR.slot s).keep (fun b h=>⟨h,rfl⟩) (fun b q _ h=>⟨h,rfl⟩) fun x hx hrt=>?_
 have hxr:x≠r:=by rintro rfl;rw[hu] at hrt;cases hrt
 exact⟨fun _ _ h=>⟨h,rfl⟩,rfl,by simp only[if_neg hxr];exact hrt,by simp only[if_neg hxr]⟩
theorem Rel.frzBox {w0:World} {A:Nat->Prop} {I:Bor} {σ:St} {a:Act} {w:World} {L:Lab} {r:Nat} {cs:List C} (hR:Rel P N N w0 A I σ a w L) (hr:σ r=.box cs) :
  ∃ L',Rel P N N w0 A I (fun s=>if s=r then .d false [.pt (eraR cs)] else killSV r (σ s)) a w L':=by
 have hrN:r<N:=by
  rcases Nat.lt_or_ge r N with h | h
  ·exact h
  have:=hR.out r h;rw[hr] at this;cases this
 have h1:=hR.take (r:=r) (f:=fun _=>none) (Nat.le_refl N) rfl fun q l h=>by cases h
 refine⟨mapL L r (fun _=>none),?_⟩
 have h2:=h1.learn (r:=r) (sv:=.d false [.pt (eraR cs)]) hrN (by simp[gone]) rfl rfl (fun tm σ' s=>by
  have hs:=hR.slot r;rw[hr] at hs;obtain⟨b,e1,e2,arr,e,e3,e4,e5⟩:=hs;show FrzV _ _ false (a.tmps.getD r undef) [.pt (eraR cs)]
  have hz:∀ b',Zof w0 A L w b'->Zof w0 A (mapL L r fun _=>none) w b'/\w.heap[b']?=w.heap[b']?:=fun b' h=>⟨⟨by simp[mapL,h.1],h.2⟩,rfl⟩
  have hnew:∀ b' q,L b'=some (r,q)->Zof w0 A (mapL L r fun _=>none) w b'/\w.heap[b']?=w.heap[b']?:=fun b' q h=>by
   have:=hR.lab b' _ h
   refine⟨⟨by simp[mapL,h],this.1,?_⟩,rfl⟩
   rcases this.2.1 with h | h
   ·exact .inr h
   exact .inl (hR.hA.2 b' h)
  rw[show a.tmps.getD r undef=.pointer (some ⟨b,0,none⟩) from e1];refine⟨⟨rfl,rfl⟩,fun j c hj=>?_⟩
  cases j with
  | succ j=>simp at hj
  | zero =>
   simp at hj
   subst hj;refine .pt (fun j=>arr.getD j undef) (hnew b _ e2).1 (fun j c hj=>?_) fun j c hj=>?_
   ·obtain⟨c0,h3,rfl⟩:=ycu hj
    have hlt:j<arr.size:=by rw[e4];exact(List.getElem?_eq_some_iff.1 h3).1
    simp[World.cell?,e3,hlt]
   obtain⟨c0,h3,rfl⟩:=ycu hj;exact(e5 j c0 h3).1.freeze hz fun b' q hb=>hnew b' _ hb)
 have e:(fun s=>if s=r then SV.d false [.pt (eraR cs)] else gone σ r s)=fun s=>if s=r then .d false [.pt (eraR cs)] else killSV r (σ s):=by
  funext s
  unfold gone;split <;> rfl
 rw[e] at h2
 exact h2
theorem ysz1 {c:Code} {l:LS} {Q:Ex->LS->Prop} (r:Nat) (cs cs':List C) (l':LS) (hr:ofL l r=.box cs) (he:eraR cs=cs') (h1:refsOk l'=true) (h2:readL (fun s=>if s=r then .d false [.pt cs'] else killSV r (ofL l s)) l'=l') (h:OkL P N c l' Q):OkL P N c l Q:=fun k hB w0 A I a w L hI hR=>by
 obtain⟨L',h3⟩:=hR.frzBox hr
 rw[he] at h3
 exact h k hB w0 A I a w L' hI (yrf h3 (yaj h1 h2))
theorem q_n {K:LS->Prop} {Q:Ex->LS->Prop} {l:LS} (h:K l):seqL K Q .normal l:=h
theorem q_x {K:LS->Prop} {Q:Ex->LS->Prop} {i:Nat} {l:LS} (h:Q (.exit i) l):seqL K Q (.exit i) l:=h
theorem q_r {K:LS->Prop} {Q:Ex->LS->Prop} {l:LS} (h:Q .ret l):seqL K Q .ret l:=h
theorem b_n {Q:Ex->LS->Prop} {i:Nat} {l:LS} (h:Q .normal l):blockL i Q .normal l:=h
theorem b_r {Q:Ex->LS->Prop} {i:Nat} {l:LS} (h:Q .ret l):blockL i Q .ret l:=h
theorem b_x {Q:Ex->LS->Prop} {i:Nat} {l:LS} (h:Q .normal l):blockL i Q (.exit i) l:=by simpa [blockL] using h
def RegOk (P:Program) (N:Nat) (c:Code) (l0 l1:LS):Prop:=∀ Q:Ex->LS->Prop,Q .normal l1->OkL P N c l0 Q
def xGo (P:Program) (ops:List Oper) (hs:List (Nat×HH)) (l0 l1:LS):Option (LS×List Prop):=match xL P ops.toArray hs 0 ops (ofL l0) with
 | some (σ',obs)=>if refsOk l1=true then some (readL σ' l1,obs) else none
 | none=>none
theorem r_go {id:Nat} {ops:List Oper} {l0:LS} (l1:LS) (hs:List (Nat×HH)) (obs:List Prop) (e:xGo P ops hs l0 l1=some (l1,obs)) (ho:allP obs):RegOk P N (.region id ops.toArray false) l0 l1:=by
 intro Q hq
 refine yar _ _ _ ?_
 show pvL P ops.toArray ops.toArray.toList (ofL l0) _
 rw[List.toList_toArray]
 unfold xGo at e
 split at e
 ·rename_i σ' obs' h1
  split at e
  ·rename_i hr
   simp only[Option.some.injEq,Prod.mk.injEq] at e;obtain⟨h2,rfl⟩:=e;exact ywu1 _ _ _ _ _ h1 ho ⟨l1,.inr (yaj hr h2),hq⟩
  cases e
 cases e
def okLn (r:Nat):SV->Bool
 | .ref r' _ _=>r' != r
 | .addr r' q=>r' != r||(match q with | [(0,_)]=>true | _=>false)
 | _=>true
theorem ynw1 {r:Nat} {x:SV} (h:okLn r x=true):killLn r x=x:=by
 cases x with
 | ref r' q n=>simp[okLn] at h;simp[killLn,h]
 | addr r' q =>
  by_cases hr:r'=r
  ·subst hr
   rcases q with _ | ⟨⟨i,o⟩,_ | ⟨z,q⟩⟩
   ·simp[okLn] at h
   ·cases i with
    | zero=>simp[killLn]
    | succ i=>simp[okLn] at h
   cases i <;> simp[okLn] at h
  simp[killLn,hr]
 | _=>rfl
def okSV (r:Nat):SV->Bool
 | .ref r' _ _=>r' != r
 | .addr r' _=>r' != r
 | _=>true
theorem yow1 {r:Nat} {x:SV} (h:okSV r x=true):killSV r x=x:=by
 cases x with
 | ref r' q n=>simp[okSV] at h;simp[killSV,h]
 | addr r' q=>simp[okSV] at h;simp[killSV,h]
 | _=>rfl
def hidB (T:List (Nat×Nat)) (l:LS):Bool:=(T.map (·.2)).all fun r=>if eatT T r=true then(!isRoot (ofL l r)||isOvS (ofL l r))&&l.all fun x=>okSV r x.2 else(!isRoot (ofL l r)||isBox (ofL l r))&&l.all fun x=>okLn r x.2
theorem yvl1:∀ (l:LS) (s:Nat),ofL l s=.u\/∃ x∈l,ofL l s=x.2
 | [],_=>.inl rfl
 | (k,x)::l,s=>by
  simp only[ofL,upd];by_cases h:s=k
  ·rw[if_pos h];exact .inr ⟨(k,x),List.mem_cons_self,rfl⟩
  rw[if_neg h];rcases yvl1 l s with h1 | ⟨y,h1,h2⟩
  ·exact .inl h1
  exact .inr ⟨y,List.mem_cons_of_mem _ h1,h2⟩
theorem ypw1 {T:List (Nat×Nat)} {l:LS} (h:hidB T l=true):hid T (ofL l):=by
 intro r hr
 have h0:=List.all_eq_true.1 h r hr
 split
 ·rename_i he
  simp only[he,if_true] at h0;have h1:=Bool.and_eq_true_iff.1 h0;refine⟨fun hroot=>?_,fun s=>?_⟩
  ·have:=h1.1
   rw[hroot] at this;simpa using this
  rcases yvl1 l s with h2 | ⟨x,h2,h3⟩
  ·rw[h2];rfl
  rw[h3];exact yow1 (List.all_eq_true.1 h1.2 x h2)
 rename_i he
 simp only[he,Bool.false_eq_true,if_false] at h0
 have h1:=Bool.and_eq_true_iff.1 h0
 refine⟨fun hroot=>?_,fun s=>?_⟩
 ·have:=h1.1
  rw[hroot] at this;simpa using this
 rcases yvl1 l s with h2 | ⟨x,h2,h3⟩
 ·rw[h2];rfl
 rw[h3];exact ynw1 (List.all_eq_true.1 h1.2 x h2)
def xGoD (P:Program) (n:Nat) (T:List (Nat×Nat)) (ops:List Oper) (hs:List (Nat×HH)) (l0 l1:LS):Option (LS×List Prop):=if(drawB ops.toArray n T&&hidB T l0)=true then(match xD P ops.toArray (rtOf T (ofL l0)) T hs 0 (ops.take n) (ofL l0) with
 | some (σ',o1)=>(match xL P ops.toArray hs n (ops.drop n) σ' with
  | some (σ2,o2)=>if refsOk l1=true then some (readL σ2 l1,o1++o2) else none
  | none=>none)
 | none=>none) else none
theorem ytz1 {id:Nat} {ops:List Oper} {l0:LS} (hm:P.follows .mixedOrders=true) (n:Nat) (T:List (Nat×Nat)) (l1:LS) (hs:List (Nat×HH)) (obs:List Prop) (e:xGoD P n T ops hs l0 l1=some (l1,obs)) (ho:allP obs):RegOk P N (.region id ops.toArray true) l0 l1:=by
 intro Q hq
 refine yar _ _ _ ?_
 unfold xGoD at e
 split at e
 ·rename_i hB
  simp only[Bool.and_eq_true] at hB;refine⟨hm,n,T,hB.1,ypw1 hB.2,?_⟩
  rw[List.toList_toArray];split at e
  ·rename_i σ' o1 h1
   split at e
   ·rename_i σ2 o2 h2
    split at e
    ·rename_i hr
     simp only[Option.some.injEq,Prod.mk.injEq] at e;obtain⟨h3,rfl⟩:=e;rw[allP_append] at ho;exact yrz1 _ _ _ _ _ h1 ho.1 (ywu1 _ _ _ _ _ h2 ho.2 ⟨l1,.inr (yaj hr h3),hq⟩)
    cases e
   cases e
  cases e
 cases e
theorem yrc {c:Code} {l0 l1:LS} {Q:Ex->LS->Prop} (h:RegOk P N c l0 l1) (hq:Q .normal l1):OkL P N c l0 Q:=h Q hq
theorem ylb {c b:Code} {l0 l1:LS} {Q:Ex->LS->Prop} (h:RegOk P N c l0 l1) (hq:OkL P N b l1 Q):OkL P N (.seq c b) l0 Q:=yib (h _ hq)
section
variable {X Y:Type}
def iterO (body:X->Option (X ⊕ Y)):Nat->X->Option Y
 | 0,_=>none
 | n+1,x=>match body x with
  | some (.inl x')=>iterO body n x'
  | some (.inr y)=>some y
  | none=>none
open Classical in
noncomputable def loopO (body:X->Option (X ⊕ Y)) (x:X):Option Y:=if h:∃ n y,iterO body n x=some y then some (Classical.choose (Classical.choose_spec h)) else none
theorem yef1 {body:X->Option (X ⊕ Y)}:∀ (n m:Nat) (x:X) (y y':Y),iterO body n x=some y->iterO body m x=some y'->y=y'
 | 0,_,_,_,_,h,_=>by cases h
 | _+1,0,_,_,_,_,h=>by cases h
 | n+1,m+1,x,y,y',h1,h2=>by
  simp only[iterO] at h1 h2;split at h1
  ·rename_i x' hb
   rw[hb] at h2;exact yef1 n m x' y y' h1 h2
  ·rename_i z hb
   rw[hb] at h2;exact Option.some.inj (h1.symm.trans h2)
  cases h1
theorem loopO_some {body:X->Option (X ⊕ Y)} {x:X} {y:Y}:loopO body x=some y↔∃ n,iterO body n x=some y:=by
 unfold loopO
 constructor
 ·intro h
  split at h
  ·rename_i hx
   have:=Classical.choose_spec (Classical.choose_spec hx)
   simp only[Option.some.injEq] at h;rw[h] at this;exact⟨_,this⟩
  cases h
 rintro⟨n,hn⟩
 have hx:∃ n y,iterO body n x=some y:=⟨n,y,hn⟩
 rw[dif_pos hx]
 exact congrArg some (yef1 _ _ _ _ _ (Classical.choose_spec (Classical.choose_spec hx)) hn)
theorem yuj (body:X->Option (X ⊕ Y)) (x:X):loopO body x=match body x with
  | some (.inl x')=>loopO body x'
  | some (.inr y)=>some y
  | none=>none:=by
 apply Option.ext
 intro y
 rw[loopO_some]
 constructor
 ·rintro⟨n,hn⟩
  cases n with
  | zero=>cases hn
  | succ n =>
   simp only[iterO] at hn;split at hn
   ·exact loopO_some.2 ⟨n,hn⟩
   ·exact hn
   cases hn
 intro h
 split at h
 ·rename_i x' hb
  obtain⟨n,hn⟩:=loopO_some.1 h;exact⟨n+1,by simp only[iterO,hb];exact hn⟩
 ·rename_i z hb
  exact⟨1,by simp only[iterO,hb];exact h⟩
 cases h
def loopQ (o:X ⊕ Y) (J:X->LS) (Q:Ex->LS->Prop):Ex->LS->Prop:=fun e l'=>match e with
 | .normal=>∃ x',o=.inl x'/\wk l' (J x')
 | e=>Q e l'
theorem yfd {c:Code} {l:LS} {Q:Ex->LS->Prop} {body:X->Option (X ⊕ Y)} {x0:X} {y:Y} (J:X->LS) (h:loopO body x0=some y) (h0:wk l (J x0))
  (hr:∀ x o,body x=some o->(∀ y',o=.inr y'->y'=y)->OkL P N c (J x) (loopQ o J Q)):OkL P N (.loop c) l Q:=by
 refine OkL.weak ?_ h0
 intro k hB w0 A I a w L hI hR
 obtain⟨n,hn⟩:=loopO_some.1 h
 refine yfi1 (X:=X×Nat) (fun z a w=>iterO body z.2 z.1=some y/\∃ L,Rel P N N w0 A I (ofL (J z.1)) a w L) (fun z=>z.2) (x0,n) ⟨hn,L,hR⟩ fun z a w ⟨hz,L,hR⟩=>?_
 obtain⟨x,m⟩:=z
 cases m with
 | zero=>cases hz
 | succ m =>
  simp only[iterO] at hz;have go:∀ o,body x=some o->(∀ x',o=.inl x'->iterO body m x'=some y)->(∀ y',o=.inr y'->y'=y)->c.wp P (Exit.then (fun a' w'=>∃ z':X×Nat,(iterO body z'.2 z'.1=some y/\∃ L,Rel P N N w0 A I (ofL (J z'.1)) a' w' L)/\z'.2<m+1) (lift P N w0 A I fun e σ=>∃ l',(σ=ofL l'\/agree l' σ)/\Q e l')) a w:=fun o hb h1 h2=>by
   refine wp_mono (hr x o hb h2 k hB w0 A I a w L hI hR) fun e a w h=>?_
   cases e with
   | normal =>
    obtain⟨σ,L,h3,l',h4,x',h5,h6⟩:=h;refine⟨(x',m),⟨h1 x' h5,L,?_⟩,Nat.lt_succ_self m⟩
    rcases h4 with rfl | h4
    ·exact yrf h3 h6
    exact yrf (yrf h3 h4) h6
   | exit id=>exact h
   | ret=>exact h
   | _=>exact h.elim
  split at hz
  ·rename_i x' hb
   exact go _ hb (fun x'' h=>by cases h;exact hz) (fun y' h=>by cases h)
  ·rename_i y' hb
   exact go _ hb (fun x'' h=>by cases h) (fun y'' h=>by cases h;exact Option.some.inj hz)
  cases hz
end
theorem lq_n {X Y:Type} {o:X ⊕ Y} {J:X->LS} {Q:Ex->LS->Prop} {l:LS} (x':X) (h1:o=.inl x') (h2:wk l (J x')):loopQ o J Q .normal l:=⟨x',h1,h2⟩
theorem lq_x {X Y:Type} {o:X ⊕ Y} {J:X->LS} {Q:Ex->LS->Prop} {l:LS} {i:Nat} (h:Q (.exit i) l):loopQ o J Q (.exit i) l:=h
theorem lq_r {X Y:Type} {o:X ⊕ Y} {J:X->LS} {Q:Ex->LS->Prop} {l:LS} (h:Q .ret l):loopQ o J Q .ret l:=h
def endL (P:Program) (fn:Func) (args:List Arg) (res:Res):Ex->LS->Prop
 | .exit _,_=>False
 | _,l=>∃ ls,retVs P (ofL l) fn.results.toList=some ls/\ovOk ls=true/\ls.map (·.1)=res.vals/\outsOf (ofL l) ((List.range args.length).zip args)=some res.outs
end Go.PV

/-
 A walk over pure values: a contract from rules.
 Conditions: none.
-/
namespace Go.PV
variable {P:Program} {N:Nat} {w0:World} {A:Nat->Prop} {I:Bor}
theorem ygi1 {f:FuncId} {fn:Func} {c:Code} {args:List Arg} {res:Res} (hc:callable P f=true) (hf:P.funcs[f]?=some fn) (hb:fn.body=some c)
  (hN:(decide (args.length<=fn.ntmps)&&codeB 0 fn.ntmps c&&args.all notPtrA)=true) {l0:LS} (hl0:(List.range args.length).zip (args.map argSV)=l0) (h:OkL P fn.ntmps c l0 (endL P fn args res)):Meets P f args res:=by
 simp only[Bool.and_eq_true,decide_eq_true_eq] at hN
 refine⟨hc,fun w A vals h1 h4=>?_⟩
 refine calls_of_wp hf hb ?_
 have hR:=ycp1 (P:=P) (N:=fn.ntmps) h1 hN.1.1 h4
 refine wp_mono (h 0 hN.1.2 w A nob _ w _ rfl (by subst hl0;exact hR)) fun e a' w' hl=>?_
 cases e with
 | normal =>
  obtain⟨σ,L,h5,l',h6,h7⟩:=hl;obtain⟨ls,g1,g2,g3,g4⟩:=h7;exact yxv1 (σ:=ofL l') (L:=L) (by
   rcases h6 with rfl | h6
   ·exact h5
   exact yrf h5 h6) ⟨ls,g1,g2,g3⟩
 | ret =>
  obtain⟨σ,L,h5,l',h6,h7⟩:=hl;obtain⟨ls,g1,g2,g3,g4⟩:=h7;exact yxv1 (σ:=ofL l') (L:=L) (by
   rcases h6 with rfl | h6
   ·exact h5
   exact yrf h5 h6) ⟨ls,g1,g2,g3⟩
 | exit id =>
  obtain⟨σ,L,h5,l',h6,h7⟩:=hl;exact h7.elim
 | _=>exact hl.elim
def endLB (P:Program) (fn:Func) (vals:List RV) (x':SV):Ex->LS->Prop
 | .exit _,_=>False
 | _,l=>∃ ls,retVs P (ofL l) fn.results.toList=some ls/\ovOk ls=true/\(ls.all fun y=> !isOvR y.1||y.2 != 0)=true/\ls.map (·.1)=vals/\ofL l 0=x'
theorem ywl1 {f:FuncId} {fn:Func} {c:Code} {x x':SV} {args:List Arg} {vals:List RV} (hc:callable P f=true) (hf:P.funcs[f]?=some fn) (hb:fn.body=some c)
  (hN:(decide (args.length+1<=fn.ntmps)&&codeB 1 fn.ntmps c&&args.all notPtrA)=true) (hx':(isOwnR x'||match x' with | .u=>true | _=>false)=true) {l0:LS} (hl0:(List.range (args.length+1)).zip (x::args.map argSV)=l0) (h:OkL P fn.ntmps c l0 (endLB P fn vals x')):MeetsB P f x args vals x':=by
 simp only[Bool.and_eq_true,decide_eq_true_eq] at hN
 refine⟨hc,fun w A L0 v0 vs h1 h2 h3 h4 h5=>?_⟩
 refine calls_of_wp hf hb ?_
 have hR:=yaf1 (P:=P) (N:=fn.ntmps) h1 h2 h3 hN.1.1 h4 h5
 refine wp_mono (h 1 hN.1.2 w _ _ _ w _ rfl (by subst hl0;exact hR)) fun e a' w' hl=>?_
 cases e with
 | normal =>
  obtain⟨σ,L,h5,l',h6,h7⟩:=hl;obtain⟨ls,g1,g2,g0,g3,g4⟩:=h7;exact yzq1 (σ:=ofL l') (L:=L) (by
   rcases h6 with rfl | h6
   ·exact h5
   exact yrf h5 h6) ⟨⟨ls,g1,g2,g0,g3⟩,g4,hx'⟩
 | ret =>
  obtain⟨σ,L,h5,l',h6,h7⟩:=hl;obtain⟨ls,g1,g2,g0,g3,g4⟩:=h7;exact yzq1 (σ:=ofL l') (L:=L) (by
   rcases h6 with rfl | h6
   ·exact h5
   exact yrf h5 h6) ⟨⟨ls,g1,g2,g0,g3⟩,g4,hx'⟩
 | exit id =>
  obtain⟨σ,L,h5,l',h6,h7⟩:=hl;exact h7.elim
 | _=>exact hl.elim
theorem yuz1 {fn:Func} {vals:List RV} {x':SV} {l:LS} {ls:List (RV×Nat)} (h1:retVs P (ofL l) fn.results.toList=some ls) (h2:ovOk ls=true) (h0:(ls.all fun y=> !isOvR y.1||y.2 != 0)=true) (h3:ls.map (·.1)=vals) (h4:ofL l 0=x'):endLB P fn vals x' .ret l:=⟨ls,h1,h2,h0,h3,h4⟩
theorem yvz1 {fn:Func} {vals:List RV} {x':SV} {l:LS} {ls:List (RV×Nat)} (h1:retVs P (ofL l) fn.results.toList=some ls) (h2:ovOk ls=true) (h0:(ls.all fun y=> !isOvR y.1||y.2 != 0)=true) (h3:ls.map (·.1)=vals) (h4:ofL l 0=x'):endLB P fn vals x' .normal l:=⟨ls,h1,h2,h0,h3,h4⟩
theorem ywz1 {fn:Func} {args:List Arg} {vals:List RV} {l:LS} {ls:List (RV×Nat)} (h1:retVs P (ofL l) fn.results.toList=some ls) (h2:ovOk ls=true) (h3:ls.map (·.1)=vals) (h4:outsOf (ofL l) ((List.range args.length).zip args)=some []):endL P fn args { vals:=vals } .ret l:=⟨ls,h1,h2,h3,h4⟩
theorem yon {α:Type} {b:Bool} {x y:Option α} {r:α} (hb:b=true) (h:(if b=true then x else y)=some r):x=some r:=by rwa [if_pos hb] at h
theorem ypn {α:Type} {b:Bool} {x y:Option α} {r:α} (hb:b=false) (h:(if b=true then x else y)=some r):y=some r:=by rwa [if_neg (by simp[hb])] at h
theorem bind_some' {α β:Type} {x:Option α} {f:α->Option β} {r:β} (h:x.bind f=some r):∃ a,x=some a/\f a=some r:=Option.bind_eq_some_iff.1 h
def idxO {α:Type} (xs:List α) (i:Int):Option α:=if 0<=i then xs[i.toNat]? else none
theorem yba {α:Type} {xs:List α} {i:Int} {x:α} (h:idxO xs i=some x):0<=i/\xs[i.toNat]?=some x:=by
 unfold idxO at h
 split at h
 ·exact⟨by assumption,h⟩
 cases h
theorem yda {α β:Type} {xs:List α} {n:Nat} {x:α} (f:α->β) (h:xs[n]?=some x):(xs.map f)[n]?=some (f x):=by simp[h]
def eI (n:Int):List C:=[.raw (.int .i64 n)]
def eU (k:IntKind) (n:Int):List C:=[.raw (.int k n)]
def eB (b:Bool):List C:=[.raw (.bool b)]
def eT (s:ByteArray):List C:=[.raw (.string s)]
def eP {α β:Type} (f:α->List C) (g:β->List C) (x:α×β):List C:=f x.1++g x.2
def eF {α:Type} (f:α->List C) (l:List α):List C:=[.sl none (l.map f)]
def eO {α:Type} (t:TypeId) (f:α->List C) (l:List α):List C:=[.sl (some t) (l.map f)]
end Go.PV

/-
  The library's sort,its compacting,the program's comparison,at this seat.
  Conditions: none.
-/
import Derived.WalkKit
import Derived.Lib.RowBridge
import Derived.Deep.QuietTactic
import Derived.BigQuiet
import Derived.Deep.LoopGhost
import Derived.Lib.SliceRun
import Derived.Laws.StructEq
import Derived.Ground.SlsfProg
import Derived.Test.YtcmcgkkjkaahcaaGreatPvCx
import Derived.Test.YtcmcgkkjkaahcaaGreatProg
set_option linter.all false
namespace Go.Proofs
open Go.Shelf
def Tryz.sortL_ren:Go.Shelf.Ren:=⟨fun | 6=>198 | 15=>208 | 14=>207 | 28=>218 | 29=>219 | 20=>210 | 21=>211 | 22=>212 | 23=>213 | 24=>214 | 25=>215 | 26=>216 | 27=>217 | 46=>220 | 47=>221 | 48=>222 | 49=>223 | 50=>224 | 57=>225 | n=>n,fun | 22=>30 | 24=>27 | 25=>46 | 3=>3 | 39=>136 | 0=>0 | 53=>152 | 55=>71 | 4=>4 | 46=>146 | 45=>145 | 50=>33 | 5=>5 | 9=>9 | 66=>154 | 70=>158 | 76=>160 | 77=>161 | n=>n,fun | n=>n⟩
theorem Tryz.sortL:Go.Proofs.SlLaysF0.n6 Tryz.prog Tryz.sortL_ren:={
  mixed:=by kernel_rfl
  f6:=⟨Tryz.f198.name,by decide,Tryz.func198.trans (congrArg some (by kernel_rfl))⟩
  f14:=⟨Tryz.f207.name,by decide,Tryz.func207.trans (congrArg some (by kernel_rfl))⟩
  f15:=Tryz.func208.trans (congrArg some (by kernel_rfl))
  f20:=⟨Tryz.f210.name,by decide,Tryz.func210.trans (congrArg some (by kernel_rfl))⟩
  f21:=⟨Tryz.f211.name,by decide,Tryz.func211.trans (congrArg some (by kernel_rfl))⟩
  f22:=⟨Tryz.f212.name,by decide,Tryz.func212.trans (congrArg some (by kernel_rfl))⟩
  f23:=⟨Tryz.f213.name,by decide,Tryz.func213.trans (congrArg some (by kernel_rfl))⟩
  f24:=⟨Tryz.f214.name,by decide,Tryz.func214.trans (congrArg some (by kernel_rfl))⟩
  f25:=⟨Tryz.f215.name,by decide,Tryz.func215.trans (congrArg some (by kernel_rfl))⟩
  f26:=⟨Tryz.f216.name,by decide,Tryz.func216.trans (congrArg some (by kernel_rfl))⟩
  f27:=⟨Tryz.f217.name,by decide,Tryz.func217.trans (congrArg some (by kernel_rfl))⟩
  f28:=Tryz.func218.trans (congrArg some (by kernel_rfl))
  f29:=Tryz.func219.trans (congrArg some (by kernel_rfl))
  f46:=⟨Tryz.f220.name,by decide,Tryz.func220.trans (congrArg some (by kernel_rfl))⟩
  f47:=Tryz.func221.trans (congrArg some (by kernel_rfl))
  f48:=Tryz.func222.trans (congrArg some (by kernel_rfl))
  f49:=⟨Tryz.f223.name,by decide,Tryz.func223.trans (congrArg some (by kernel_rfl))⟩
  f50:=⟨Tryz.f224.name,by decide,Tryz.func224.trans (congrArg some (by kernel_rfl))⟩
  f57:=⟨Tryz.f225.name,by decide,Tryz.func225.trans (congrArg some (by kernel_rfl))⟩
  t0:=Tryz.underlying0
  a0:=Tryz.isAgg0
  z0:=Tryz.sizeOf0
  v0:=Tryz.zeroValue0
  t3:=Tryz.underlying3
  a3:=Tryz.isAgg3
  z3:=Tryz.sizeOf3
  v3:=Tryz.zeroValue3
  t4:=Tryz.underlying4
  a4:=Tryz.isAgg4
  z4:=Tryz.sizeOf4
  v4:=Tryz.zeroValue4
  t5:=Tryz.underlying5
  a5:=Tryz.isAgg5
  z5:=Tryz.sizeOf5
  v5:=Tryz.zeroValue5
  t9:=Tryz.underlying9
  a9:=Tryz.isAgg9
  z9:=Tryz.sizeOf9
  v9:=Tryz.zeroValue9
  t22:=Tryz.underlying30
  a22:=Tryz.isAgg30
  z22:=Tryz.sizeOf30
  v22:=Tryz.zeroValue30
  t25:=Tryz.underlying46
  a25:=Tryz.isAgg46
  z25:=Tryz.sizeOf46
  v25:=Tryz.zeroValue46
  t39:=Tryz.underlying136
  a39:=Tryz.isAgg136
  z39:=Tryz.sizeOf136
  v39:=Tryz.zeroValue136
  t45:=Tryz.underlying145
  a45:=Tryz.isAgg145
  z45:=Tryz.sizeOf145
  v45:=Tryz.zeroValue145
  t46:=Tryz.underlying146
  a46:=Tryz.isAgg146
  z46:=Tryz.sizeOf146
  v46:=Tryz.zeroValue146
  t50:=Tryz.underlying33
  a50:=Tryz.isAgg33
  z50:=Tryz.sizeOf33
  v50:=Tryz.zeroValue33
  t53:=Tryz.underlying152
  a53:=Tryz.isAgg152
  z53:=Tryz.sizeOf152
  v53:=Tryz.zeroValue152
  t55:=Tryz.underlying71
  a55:=Tryz.isAgg71
  z55:=Tryz.sizeOf71
  v55:=Tryz.zeroValue71
  t66:=Tryz.underlying154
  a66:=Tryz.isAgg154
  z66:=Tryz.sizeOf154
  v66:=Tryz.zeroValue154
  t70:=Tryz.underlying158
  a70:=Tryz.isAgg158
  z70:=Tryz.sizeOf158
  v70:=Tryz.zeroValue158
  t76:=Tryz.underlying160
  a76:=Tryz.isAgg160
  z76:=Tryz.sizeOf160
  v76:=Tryz.zeroValue160
  t77:=Tryz.underlying161
  a77:=Tryz.isAgg161
  z77:=Tryz.sizeOf161
  v77:=Tryz.zeroValue161 }
end Go.Proofs
namespace Go.PV
open Go Go.Proofs Go.RowKit Go.Lib Go.Sort
set_option maxHeartbeats 4000000 in
theorem cmp_calls (x y:Int×Int) (hx:okR x=true) (hy:okR y=true) (W:World):Calls Tryz.prog 95 #[.agg #[.int .i64 x.1,.int .i64 x.2],.agg #[.int .i64 y.1,.int .i64 y.2]] W fun e w'=>e=.returned (.int .i64 (cmpF x y))/\∃ q os',w'=grow (W.drewN q) os':=by
  have mixed:Tryz.prog.follows .mixedOrders=true:=by kernel_rfl
  have p:=okR_iff.1 hx
  have r:=okR_iff.1 hy
  have m1:=ylr1 (a:=x.1) (b:=y.2) (by omega) (by omega) (by omega) (by omega)
  have m2:=ylr1 (a:=y.1) (b:=x.2) (by omega) (by omega) (by omega) (by omega)
  have w1:=yni1 m1.1 m1.2
  have w2:=yni1 m2.1 m2.2
  clear p r m1 m2 hx hy
  by_cases h1:x.1*y.2<y.1*x.2
  · have e:cmpF x y = -1:=by unfold cmpF;rw[if_pos h1]
    rw[e]
    go_enter Tryz.func95,Tryz.ntmps95
    go_wp2
    go_quiet (fail)
    go_wp2
    go_ret
    exact⟨rfl,_,#[_,_],rfl⟩
  · by_cases h2:y.1*x.2<x.1*y.2
    · have e:cmpF x y=1:=by unfold cmpF;rw[if_neg h1,if_pos h2]
      rw[e]
      go_enter Tryz.func95,Tryz.ntmps95
      go_wp2
      go_quiet (fail)
      go_wp2
      go_ret
      exact⟨rfl,_,#[_,_],rfl⟩
    · have e:cmpF x y=0:=by unfold cmpF;rw[if_neg h1,if_neg h2]
      rw[e]
      go_enter Tryz.func95,Tryz.ntmps95
      go_wp2
      go_quiet (fail)
      go_wp2
      go_ret
      exact⟨rfl,_,#[_,_],rfl⟩
set_option maxHeartbeats 4000000 in
set_option maxRecDepth 1000000 in
theorem compact_calls (b n cap:Nat) (d:Nat->Int×Int) (w0 w:World) (hn:n<=cap) (hc:cap<=9223372036854775807) (hH:Wc w0 w b n (cap*2) 27 d) :
  Calls Tryz.prog 199 #[.slice (some ⟨b,0,none⟩) n cap] w fun e' w'=>∃ F,e'=.returned (.slice (some ⟨b,0,none⟩) (cpF d n).length cap)/\Wc w0 w' b n (cap*2) 27 F/\∀ i,i<(cpF d n).length->(cpF d n)[i]?=some (F i):=by
  have mixed:Tryz.prog.follows .mixedOrders=true:=by kernel_rfl
  have heq:∀ (x y:Int×Int) (W:World),Sem.run Tryz.prog (binOp .eql 27 (.agg #[.int .i64 x.1,.int .i64 x.2]) (.agg #[.int .i64 y.1,.int .i64 y.2])) W=.ok (.bool (decide (x=y))) W:=fun x y W=>by
    rw[run_eql_struct,(ymp1 (P:=Tryz.prog) (t:=27) (k:=.i64) (by kernel_rfl) W).1]
    exact congrArg (fun z=>Result.ok (Value.bool z) W) (yfm1 x y)
  have hne:∀ (x y:Int×Int) (W:World),Sem.run Tryz.prog (binOp .neq 27 (.agg #[.int .i64 x.1,.int .i64 x.2]) (.agg #[.int .i64 y.1,.int .i64 y.2])) W=.ok (.bool (!decide (x=y))) W:=fun x y W=>by
    rw[run_neq_struct,(ymp1 (P:=Tryz.prog) (t:=27) (k:=.i64) (by kernel_rfl) W).1]
    exact congrArg (fun z=>Result.ok (Value.bool (!z)) W) (yfm1 x y)
  have hgd:∀ (op:BinOp) (a b:Operand) (x y:Int×Int) (W:World),Sem.run Tryz.prog (eqGuard op 27 a b (.agg #[.int .i64 x.1,.int .i64 x.2]) (.agg #[.int .i64 y.1,.int .i64 y.2])) W=.ok () W:=fun op a b x y W=>run_eqGuard_agg W op 27 a b _ _ (by kernel_rfl)
  by_cases h2:n<2
  · go_enter Tryz.func199,Tryz.ntmps199
    go_wp2
    go_ret
    obtain⟨e1,e2⟩:=yli1 d n fun j h1 h2=>by omega
    exact⟨d,by rw[e1];rfl,hH,fun i hi=>e2 i (by omega)⟩
  · have hinf:(Tryz.prog.info? 27).map (fun i=>(i.size,i.zero))=some (2,some (.agg #[.int .i64 0,.int .i64 0])):=by kernel_rfl
    have hund:Tryz.prog.underlying 30=some (.slice 27):=by kernel_rfl
    have HI:Aside ((Tryz.prog.info? 27).map (fun i=>(i.size,i.zero))=some (2,some (.agg #[.int .i64 0,.int .i64 0]))):=hinf
    have HU:Aside (Tryz.prog.underlying 30=some (.slice 27)):=hund
    clear hinf hund
    go_enter Tryz.func199,Tryz.ntmps199
    go_wp2
    go_loopg [3] n (fun g s3 wr=>∃ k:Nat,1<=k/\k<=n/\n-k<=g/\s3=.int .i64 k/\Wc w0 wr b n (cap*2) 27 d/\∀ j,1<=j->j<k->d j≠d (j-1))
    case atStart=>exact⟨1,Nat.le_refl _,by omega,by omega,rfl,hH,fun j h1 h2=>by omega⟩
    case round =>
      obtain⟨k,hk1,hk,hg,rfl,hW,hall⟩:=hrel
      by_cases hlt:k<n
      · obtain⟨c1,c1'⟩:=hW.cell hlt
        obtain⟨c0,c0'⟩:=hW.cell (show k-1<n by omega)
        have A:Aside (Wc w0 wr b n (cap*2) 27 d):=hW
        have B:Aside (∀ j,1<=j->j<k->d j≠d (j-1)):=hall
        clear hW hall hH
        generalize hx:d k=x at c1 c1'
        generalize hy:d (k-1)=y at c0 c0'
        have X:Aside (d k=x/\d (k-1)=y):=⟨hx,hy⟩
        clear hx hy
        have hw:=yki1 (k:=k) hk1 (by omega)
        have b1:(k:Int)<(n:Int):=by omega
        have b2:(0:Int)<=((k-1:Nat):Int):=by omega
        have b3:((k-1:Nat):Int)<(n:Int):=by omega
        by_cases hdup:x=y
        · subst hdup
          go_wp2
          go_quiet (fail)
          go_wp2
          clear c0 c1 c0' c1'
          go_loopg [3,5] n (fun g s3 s5 wr=>∃ (kk k2:Nat) (F:Nat->Int×Int),s3=.int .i64 kk/\s5=.int .i64 k2/\1<=kk/\1<=k2/\k+k2<=n/\n-(k+k2)<=g/\Wc w0 wr b n (cap*2) 27 F/\kk+1<=k+k2/\kk=(cpF d (k+k2)).length/\(∀ i,i<kk->(cpF d (k+k2))[i]?=some (F i))/\∀ i,kk<=i->F i=d i)
          case atStart =>
            obtain⟨e1,e2⟩:=yli1 d k B.out
            have e3:cpF d (k+1)=cpF d k:=yjr1 hk1 (by rw[X.out.1,X.out.2])
            exact⟨k,1,d,rfl,rfl,hk1,Nat.le_refl _,by omega,by omega,A.out.drew _,by omega,by rw[e3,e1],fun i hi=>by rw[e3];exact e2 i hi,fun _ _=>rfl⟩
          case round =>
            obtain⟨kk,k2,F,rfl,rfl,h0,h1,hle,hg2,hW,hkk,hlen,hF1,hF2⟩:=hrel
            by_cases hlt2:k+k2<n
            · obtain⟨cm,cm'⟩:=hW.cell hlt2
              obtain⟨cp,cp'⟩:=hW.cell (show k+k2-1<n by omega)
              obtain⟨ck,ck'⟩:=hW.cell (show kk<n by omega)
              have f0:=hW.free (kk*2)
              have f1:=hW.free (kk*2+1)
              rw[hF2 (k+k2) (by omega)] at cm cm'
              rw[hF2 (k+k2-1) (by omega)] at cp cp'
              rw[show(k+k2)*2=k*2+k2*2 by omega] at cm cm'
              rw[show(k+k2-1)*2=k*2+(k2-1)*2 by omega] at cp cp'
              generalize hu:d (k+k2)=u at cm cm'
              generalize hv:d (k+k2-1)=v at cp cp'
              generalize F kk=old at ck ck'
              have W2:Aside (Wc w0 wr b n (cap*2) 27 F):=hW
              have I2:Aside (kk=(cpF d (k+k2)).length/\(∀ i,i<kk->(cpF d (k+k2))[i]?=some (F i))/\∀ i,kk<=i->F i=d i):=⟨hlen,hF1,hF2⟩
              have U:Aside (d (k+k2)=u/\d (k+k2-1)=v):=⟨hu,hv⟩
              clear hW hlen hF1 hF2 hu hv
              have hw2:=yki1 (k:=k2) h1 (by omega)
              have d1:(k2:Int)<((n-k:Nat):Int):=by omega
              have d2:(0:Int)<=((k2-1:Nat):Int):=by omega
              have d3:((k2-1:Nat):Int)<((n-k:Nat):Int):=by omega
              have d4:(kk:Int)<(n:Int):=by omega
              by_cases huv:u=v
              · subst huv
                go_wp2
                go_quiet (fail)
                go_wp2
                go_roundg (n-(k+(k2+1)))
                case measure=>omega
                case rel =>
                  have e3:cpF d (k+(k2+1))=cpF d (k+k2):=yjr1 (m:=k+k2) (by omega) (by rw[U.out.1,U.out.2])
                  exact⟨kk,k2+1,F,rfl,by go_num,h0,by omega,by omega,Nat.le_refl _,W2.out.drew _,by omega,by rw[e3];exact I2.out.1,fun i hi=>by rw[e3];exact I2.out.2.1 i hi,I2.out.2.2⟩
              · go_wp2
                go_quiet (fail)
                go_wp2
                go_roundg (n-(k+(k2+1)))
                case measure=>omega
                case rel =>
                  have e3:cpF d (k+(k2+1))=cpF d (k+k2)++[u]:=by
                    have:=yex1 (d:=d) (m:=k+k2) (by rw[U.out.1,U.out.2];exact huv)
                    rw[U.out.1] at this
                    exact this
                  refine⟨kk+1,k2+1,fun i=>if i=kk then u else F i,by go_num,by go_num,by omega,by omega,by omega,Nat.le_refl _,(W2.out.drew nq).set (by omega) u,by omega,by rw[e3,List.length_append,← I2.out.1];rfl,fun i hi=>?_,fun i hi=>?_⟩
                  · rw[e3]
                    by_cases e:i=kk
                    · subst e
                      rw[List.getElem?_append_right (by rw[← I2.out.1];omega),← I2.out.1];simp
                    · rw[List.getElem?_append_left (by rw[← I2.out.1];omega)];simp only[if_neg e];exact I2.out.2.1 i (by omega)
                  · simp only[if_neg (show ¬ i=kk by omega)];exact I2.out.2.2 i (by omega)
            · have hend:k+k2=n:=by omega
              have I2:Aside (kk=(cpF d (k+k2)).length/\(∀ i,i<kk->(cpF d (k+k2))[i]?=some (F i))/\∀ i,kk<=i->F i=d i):=⟨hlen,hF1,hF2⟩
              obtain⟨arr,g1,g2,g3⟩:=hW.at'
              obtain⟨inf,i1,i2,i3⟩:∃ inf,Tryz.prog.info? 27=some inf/\inf.size=2/\inf.zero=some (.agg #[.int .i64 0,.int .i64 0]):=by
                have h:=HI.out
                cases hx:Tryz.prog.info? 27 with
                | none=>rw[hx] at h;cases h
                | some inf =>
                  rw[hx] at h
                  simp only[Option.map_some,Option.some.injEq,Prod.mk.injEq] at h
                  exact⟨inf,rfl,h.1,h.2⟩
              have hck:¬ cap=kk:=by omega
              obtain⟨w',arr',q1,q2,q3,q4,q5⟩:=yji1 (P:=Tryz.prog) (t:=30) (e:=27) (ty:=0) HU.out i1 i3 (by rw[i2];rfl) (by simp[Value.cells,Value.oneCell']) (w:=wr) (g:=b) (cap:=cap) (n:=kk) (len:=n) g1 (by rw[i2];exact g2) (by omega) hn
              rw[if_neg hck,i2] at q1
              simp only[Option.map_some,Addr.add,Nat.zero_add,show ¬ kk*2=0 by omega,if_false] at q1
              rw[i2] at q4
              have hW':Wc w0 w' b n (cap*2) 27 (fun i=>if i<kk then F i else(0,0)):=by
                refine⟨q2.os.trans hW.os,q2.tape.trans hW.tape,q2.output.trans hW.output,q2.size.trans hW.size,fun j hj=>(q2.oth j hj).trans (hW.oth j hj),arr',q2.at',by rw[q3,g2],fun i hi=>?_⟩
                have lt:i*2+1<arr'.size:=by rw[q3,g2];omega
                rw[i2] at q5
                have gd:∀ o,o<2->arr'[i*2+o]?=some (arr'.getD (i*2+o) undef):=fun o ho=>by
                  rw[Array.getD_eq_getD_getElem?,Array.getElem?_eq_getElem (by omega)];rfl
                have ge:∀ o,o<2->arr[i*2+o]?=some (arr.getD (i*2+o) undef):=fun o ho=>by
                  rw[Array.getD_eq_getD_getElem?,Array.getElem?_eq_getElem (by rw[← q3];omega)];rfl
                have z0:=gd 0 (by omega)
                have z1:=gd 1 (by omega)
                simp only[Nat.add_zero] at z0
                rw[z0,z1]
                by_cases hik:i<kk
                · have y0:=ge 0 (by omega)
                  have y1:=ge 1 (by omega)
                  have p0:=q4 i 0 hik (by omega)
                  have p1:=q4 i 1 hik (by omega)
                  simp only[Nat.add_zero] at y0 p0
                  rw[p0,p1,← y0,← y1]
                  simp only[if_pos hik]
                  exact g3 i hi
                · have p0:=q5 i 0 (by omega) hi (by omega)
                  have p1:=q5 i 1 (by omega) hi (by omega)
                  simp only[Nat.add_zero] at p0
                  rw[p0,p1]
                  simp only[if_neg hik]
                  exact⟨rfl,rfl⟩
              have WW:Aside (Wc w0 w' b n (cap*2) 27 (fun i=>if i<kk then F i else(0,0))):=hW'
              clear hW hW' hlen hF1 hF2 g1 g2 g3 q2 q3 q4 q5 i1 i3
              have d4:(kk:Int)<=(n:Int):=by omega
              go_wp2
              go_ret
              have I3:=I2.out
              rw[hend] at I3
              exact⟨_,by rw[← I3.1];rfl,WW.out,fun i hi=>by rw[← I3.1] at hi;simp only[if_pos hi];exact I3.2.1 i hi⟩
        · go_wp2
          go_quiet (fail)
          go_wp2
          go_roundg (n-(k+1))
          case measure=>omega
          case rel=>exact⟨k+1,by omega,by omega,Nat.le_refl _,by go_num,A.out.drew _,fun j h1 h2=>by
            by_cases e:j=k
            · subst e;rw[X.out.1,X.out.2];exact hdup
            · exact B.out j h1 (by omega)⟩
      · have:k=n:=by omega
        subst this
        go_wp2
        go_ret
        obtain⟨e1,e2⟩:=yli1 d k hall
        exact⟨d,by rw[e1];rfl,hW,fun i hi=>e2 i (by omega)⟩
theorem compact_none (w:World):Calls Tryz.prog 199 #[.slice none 0 0] w fun e' w'=>e'=.returned (.slice none 0 0)/\w'=w:=by
  have mixed:Tryz.prog.follows .mixedOrders=true:=by kernel_rfl
  go_enter Tryz.func199,Tryz.ntmps199
  go_wp2
  go_ret
  exact⟨rfl,rfl⟩
theorem sort_calls (b cap:Nat) (d:Array FR) (w:World) (hH:HoldsK encF 2 w b 0 d) (hb:b<w.heap.size) (hsz:d.size<4611686018427387904) :
    Calls Tryz.prog 198 #[.slice (some ⟨b,0,none⟩) d.size cap,.func (.func 95) #[] #[]] w fun e w'=>e=.returned (.tuple #[])/\∃ n os,w'=sortWorldK encF 2 w b 0 n (d.toList.mergeSort fun x y=> !(ltOf cfF) y x).toArray os :=
  AnyQ.slices_SortFunc_total Tryz.sortL 2 (fun w=>Tryz.isAgg27 ..) (fun w=>Tryz.sizeOf27 ..) encF (fun _=>rfl) (fun x v hv=>by
    simp only[encF,List.mem_cons,List.not_mem_nil,or_false] at hv
    rcases hv with rfl | rfl <;> rfl) cfF yzz1 95 #[] b 0 cap d w (enters_of Tryz.func95 (by kernel_rfl) rfl) (fun m os dk _ x y=>cmp_calls x.1 y.1 x.2 y.2 _) hH hb hsz yaa2
theorem sort_none (w:World):Calls Tryz.prog 198 #[.slice none 0 0,.func (.func 95) #[] #[]] w fun e' w'=>e'=.returned (.tuple #[])/\w'=w :=
  AnyF.slices_SortFunc_none (P:=Tryz.prog) (ρ:=Tryz.sortL_ren) Tryz.sortL none 0 (.func (.func 95) #[] #[]) w
theorem meets_sortS {l:List (Int×Int)} (hok:∀ x∈l,okR x=true) (hl:l.length<4611686018427387904):MeetsB Tryz.prog 198 (.ov false [.sl (some 27) (l.map (eP eI eI))]) [.v (.func (.func 95) #[] #[])] [] (.ov false [.sl (some 27) ((sortR l).map (eP eI eI))]) :=
  yim1 (by kernel_rfl) (by kernel_rfl) hok hl sort_calls sort_none
theorem meets_compactS {l:List (Int×Int)}:MeetsB Tryz.prog 199 (.ov false [.sl (some 27) (l.map (eP eI eI))]) [] [.ov false [.sl (some 27) ((cpL l).map (eP eI eI))]] .u :=
  yhf1 (by kernel_rfl) (by kernel_rfl) compact_calls compact_none
end Go.PV

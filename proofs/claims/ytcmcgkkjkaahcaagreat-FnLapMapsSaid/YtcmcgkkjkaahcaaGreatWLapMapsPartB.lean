/-
  Walks through the functions that the law reaches: each answers as its plain definition does.
  Conditions: none.
-/
import Derived.KernelRfl
import Derived.Test.YtcmcgkkjkaahcaaGreatWLapMapsPartA
import Derived.Test.YtcmcgkkjkaahcaaGreatProg
import Derived.Test.YtcmcgkkjkaahcaaGreatSrtYtcmcgkkjkaahcaaGreat
import Derived.Test.YtcmcgkkjkaahcaaGreatPvCx
open Go Go.PV Go.Proofs
set_option linter.all false
namespace Go.PV
attribute [local irreducible] pvC pvL pvD sOp seqQ blockQ Meets MeetsB Ok OkL RegOk agree endQ seqL blockL loopQ endL endLB OkD TakesR MeetsD
theorem yca1 {a0:(List Qp)} {a1:Int}  {r:((List (List Qr))×Bool)} (h:ymn a0 a1=some r):Meets Tryz.prog 133 [.d false (sP a0),wI a1] { vals:=[rO 30 (eO 27 eRt) r.1,.p (.bool r.2)] }:=by
 refine mo Tryz.func133 [dP 0 a0,pI 1 a1] ?_
 unfold ymn at h
 refine kG [dP 0 a0,pI 1 a1] [] trivial ?_
 refine kG [dP 0 a0,pI 1 a1,bX 6 [.raw (.bool false)]] [] trivial ?_
 obtain⟨v1,hv1,h⟩:=bs h
 obtain⟨v2,hv2,h⟩:=bs h
 refine kG [dP 0 a0,pI 1 a1,bX 6 [.raw (.bool false)],vL 7 30 (eO 27 eRt) ([[v1,v2]])] [hC 0 [.p (vRt v1)],hC 1 [.p (vRt v2)]] (A2 (ybe hv1) (yki hv2)) ?_
 obtain⟨v3,hv3,h⟩:=bs h
 refine kG [dP 0 a0,pI 1 a1,bX 6 [.raw (.bool false)],vL 7 30 (eO 27 eRt) ([[v1,v2]]),vL 8 27 eRt v3] [hC 1 [rO 27 eRt v3]] (A2 (yjf1 hv3) (sR' 27 v3)) ?_
 refine ywb (J:=fun (x:(List (List Qr)))=>[vL 7 30 (eO 27 eRt) x]) (K:=fun x=>yyo x=some r) (fun x4 h=>?_) ?_
 ·unfold yyo at h
  refine kG [vL 4 30 (eO 27 eRt) x4,pB 5 true] [] trivial ?_
  refine yra ?_
  obtain rfl:=oi h
  exact er [(.ov false [.sl (some 30) (x4.map (eO 27 eRt))],4),(.p (.bool true),5)]
 refine kG [dP 0 a0,bX 6 [.raw (.bool false)],vL 7 30 (eO 27 eRt) ([[v1,v2]]),vL 8 27 eRt v3,pI 20 a1,pI 21 0] [] trivial ?_
 refine yja ?_
 obtain⟨y6,hl_x5,hk_x5⟩:=bs h
 clear h
 refine yfd (J:=fun (x:(Bool×(List (List Qr))×Int))=>[dP 0 a0,bX 6 [.raw (.bool x.1)],vL 7 30 (eO 27 eRt) x.2.1,vL 8 27 eRt v3,pI 20 a1,pI 21 x.2.2]) hl_x5 wkk (fun x5 o_x5 h hy_x5=>?_)
 unfold yfi at h
 refine kG [dP 0 a0,bX 6 [.raw (.bool x5.1)],vL 7 30 (eO 27 eRt) x5.2.1,vL 8 27 eRt v3,pI 20 a1,pI 21 x5.2.2,pB 22 (decide (x5.2.2<a1))] [] trivial ?_
 refine yib (kI h (fun hc5_6 h=>?_) (fun hc5_6 h=>?_))
 ·refine yia (q_n (ywb (J:=fun (x:(Bool×(List (List Qr))))=>[dP 0 a0,bX 6 [.raw (.bool x.1)],vL 7 30 (eO 27 eRt) x.2,vL 8 27 eRt v3,pI 20 a1,pI 21 x5.2.2]) (K:=fun x=>yml x5 x=some o_x5) (fun x8 h=>?_) ?_))
  ·unfold yml at h
   refine yrc (r_gq [dP 0 a0,bX 6 [.raw (.bool x8.1)],vL 7 30 (eO 27 eRt) x8.2,vL 8 27 eRt v3,pI 20 a1,pI 21 (w64 (x5.2.2+1))] [] trivial) ?_
   exact lqn (x8.1,x8.2,(w64 (x5.2.2+1))) h
  refine yja ?_
  obtain⟨v9,hv9,h⟩:=bs h
  refine kG [dP 0 a0,bX 6 [.raw (.bool x5.1)],vL 7 30 (eO 27 eRt) x5.2.1,vL 8 27 eRt v3,(9,.ref 7 [(0,0),((Int.toNat (w64 ((x5.2.1.length:Int)-1))),0)] none),pI 20 a1,pI 21 x5.2.2] [hN 2 x5.2.1,hR 4 [.sl (some 27) (v9.map eRt)],hR 5 [.sl (some 27) (v9.map eRt)]] (A5 (lF (eO 27 eRt) x5.2.1) (yba hv9).1 (yda (eO 27 eRt) (yba hv9).2) (show frR [.sl (some 27) (v9.map eRt)]=false from rfl) (gW 30 (eO 27 eRt) hv9)) ?_
  obtain⟨v10,hv10,h⟩:=bs h
  obtain⟨v11,hv11,h⟩:=bs h
  refine kG [dP 0 a0,bX 6 [.raw (.bool v11.2)],vL 7 30 (eO 27 eRt) x5.2.1,vL 8 27 eRt v3,(9,.ref 7 [(0,0),((Int.toNat (w64 ((x5.2.1.length:Int)-1))),0)] none),vL 10 27 eRt ([v11.1]),pI 20 a1,pI 21 x5.2.2] [(2,{deep:=some [.sl (some 27) (v9.map eRt)],row:=some (eRt v10)}),hR 3 (eRt v10),hT 4 [.p (vRt v11.1)] (.box [.raw (.bool v11.2)])] (A5 (yba hv10).1 (yda eRt (yba hv10).2) (gW 30 (eO 27 eRt) hv9) (show getRow [[.sl (some 30) (x5.2.1.map (eO 27 eRt))]] [(0,0),((Int.toNat (w64 ((x5.2.1.length:Int)-1))),0),((Int.toNat 0),0)]=some (eRt v10) from((gr0 rfl).trans ((grs (yda (eO 27 eRt) (yba hv9).2) rfl).trans (gre (yda eRt (yba hv10).2))))) (ytf hv11)) ?_
  refine ywb (J:=fun (x:(Bool×(List Qr)))=>[dP 0 a0,bX 6 [.raw (.bool x.1)],vL 7 30 (eO 27 eRt) x5.2.1,vL 8 27 eRt v3,vL 10 27 eRt x.2,pI 20 a1,pI 21 x5.2.2]) (K:=fun x=>ynl x5 x=some o_x5) (fun x12 h=>?_) ?_
  ·unfold ynl at h
   refine yib (ylb (l1:=[dP 0 a0,bX 6 [.raw (.bool x12.1)],vL 7 30 (eO 27 eRt) x5.2.1,vL 8 27 eRt v3,vL 10 27 eRt x12.2,pI 20 a1,pI 21 x5.2.2,pB 80 (x12.1||(decide ((w64 ((x12.2.length:Int)-1))>4096)))]) ?_ ?_)
   ·rcases ft x12.1 with ha1 | ha1
    ·exact RegOk.of_eq (r_gq [dP 0 a0,bX 6 [.raw (.bool x12.1)],vL 7 30 (eO 27 eRt) x5.2.1,vL 8 27 eRt v3,vL 10 27 eRt x12.2,pI 20 a1,pI 21 x5.2.2,pB 80 true] [(3,gT),(4,gT),(5,gT),(6,gT),(7,bT)] (A5 ha1 ha1 ha1 ha1 ha1)) (by simp[ha1])
    exact RegOk.of_eq (r_gq [dP 0 a0,bX 6 [.raw (.bool x12.1)],vL 7 30 (eO 27 eRt) x5.2.1,vL 8 27 eRt v3,vL 10 27 eRt x12.2,pI 20 a1,pI 21 x5.2.2,pB 80 (decide ((w64 ((x12.2.length:Int)-1))>4096))] [(3,gF),(4,{g:=some false,n:=some x12.2.length}),(5,gF),(6,gF),(7,bF)] (A6 ha1 ha1 (lF eRt x12.2) ha1 ha1 ha1)) (by simp[ha1])
   refine kI h (fun hc7_12 h=>?_) (fun hc7_12 h=>?_)
   ·refine kG [vN 4 30,pB 5 false] [] trivial ?_
    refine yra (q_r (b_r (q_r (lq_r ?_))))
    refine b_r (q_r ?_)
    have hyy:=hy_x5 _ (oi h).symm
    subst hyy
    have h:=hk_x5
    dsimp only[Sum.elim] at h
    obtain rfl:=oi h
    exact er [(.ov false (oN 30),4),(.p (.bool false),5)]
   refine yia (q_n ?_)
   obtain⟨u14,hu14,h⟩:=bs h
   refine yrc (r_gq [dP 0 a0,bX 6 [.raw (.bool x12.1)],vL 7 30 (eO 27 eRt) (x5.2.1++[x12.2]),vL 8 27 eRt v3,pI 20 a1,pI 21 x5.2.2] [(3,{fix:=some (vL 84 30 (eO 27 eRt) (x5.2.1++[x12.2]))})] (A3 (lG' (eO 27 eRt) hu14) (show ∀ row∈((([x12.2]).map (eO 27 eRt)):List (List C)),row.length=1 from(ynb fun _=>rfl)) (aP' 30 (eO 27 eRt) x5.2.1 ([x12.2])))) ?_
   refine b_n (q_n ?_)
   exact jx (x12.1,(x5.2.1++[x12.2])) h
  refine kG [dP 0 a0,bX 6 [.raw (.bool v11.2)],vL 7 30 (eO 27 eRt) x5.2.1,vL 8 27 eRt v3,(9,.ref 7 [(0,0),((Int.toNat (w64 ((x5.2.1.length:Int)-1))),0)] none),vL 10 27 eRt ([v11.1]),pI 11 1,pI 20 a1,pI 21 x5.2.2] [] trivial ?_
  refine yja ?_
  obtain⟨y16,hl_x15,hk_x15⟩:=bs h
  clear h
  refine yfd (J:=fun (x:(Bool×(List Qr)×Int))=>[dP 0 a0,bX 6 [.raw (.bool x.1)],vL 7 30 (eO 27 eRt) x5.2.1,vL 8 27 eRt v3,(9,.ref 7 [(0,0),((Int.toNat (w64 ((x5.2.1.length:Int)-1))),0)] none),vL 10 27 eRt x.2.1,pI 11 x.2.2,pI 20 a1,pI 21 x5.2.2]) hl_x15 wkk (fun x15 o_x15 h hy_x15=>?_)
  unfold yeg at h
  refine yib (kG [dP 0 a0,bX 6 [.raw (.bool x15.1)],vL 7 30 (eO 27 eRt) x5.2.1,vL 8 27 eRt v3,(9,.ref 7 [(0,0),((Int.toNat (w64 ((x5.2.1.length:Int)-1))),0)] none),vL 10 27 eRt x15.2.1,pI 11 x15.2.2,pI 20 a1,pI 21 x5.2.2,pB 38 (decide (x15.2.2<(v9.length:Int)))] [(2,{deep:=some [.sl (some 27) (v9.map eRt)],n:=some v9.length})] (A2 (lF eRt v9) (gW 30 (eO 27 eRt) hv9)) ?_)
  refine kI h (fun hc10_16 h=>?_) (fun hc10_16 h=>?_)
  ·refine yia (q_n (ywb (J:=fun (x:(Bool×(List Qr)))=>[dP 0 a0,bX 6 [.raw (.bool x.1)],vL 7 30 (eO 27 eRt) x5.2.1,vL 8 27 eRt v3,(9,.ref 7 [(0,0),((Int.toNat (w64 ((x5.2.1.length:Int)-1))),0)] none),vL 10 27 eRt x.2,pI 11 x15.2.2,pI 20 a1,pI 21 x5.2.2]) (K:=fun x=>yol x15 x=some o_x15) (fun x18 h=>?_) ?_))
   ·unfold yol at h
    refine yrc (r_gq [dP 0 a0,bX 6 [.raw (.bool x18.1)],vL 7 30 (eO 27 eRt) x5.2.1,vL 8 27 eRt v3,(9,.ref 7 [(0,0),((Int.toNat (w64 ((x5.2.1.length:Int)-1))),0)] none),vL 10 27 eRt x18.2,pI 11 (w64 (x15.2.2+1)),pI 20 a1,pI 21 x5.2.2] [] trivial) ?_
    exact lqn (x18.1,x18.2,(w64 (x15.2.2+1))) h
   refine yja (ywb (J:=fun (x:(Bool×(List Qr)))=>[dP 0 a0,bX 6 [.raw (.bool x.1)],vL 7 30 (eO 27 eRt) x5.2.1,vL 8 27 eRt v3,(9,.ref 7 [(0,0),((Int.toNat (w64 ((x5.2.1.length:Int)-1))),0)] none),vL 10 27 eRt x.2,pI 11 x15.2.2,pI 20 a1,pI 21 x5.2.2]) (K:=fun x=>ypl a0 v9 x15 x=some o_x15) (fun x19 h=>?_) ?_)
   ·unfold ypl at h
    obtain⟨v20,hv20,h⟩:=bs h
    obtain⟨v21,hv21,h⟩:=bs h
    obtain⟨u22,hu22,h⟩:=bs h
    refine yrc (r_gq [dP 0 a0,bX 6 [.raw (.bool v21.2)],vL 7 30 (eO 27 eRt) x5.2.1,vL 8 27 eRt v3,(9,.ref 7 [(0,0),((Int.toNat (w64 ((x5.2.1.length:Int)-1))),0)] none),vL 10 27 eRt (x19.2++[v21.1]),pI 11 x15.2.2,pI 20 a1,pI 21 x5.2.2] [(4,{deep:=some [.sl (some 27) (v9.map eRt)],row:=some (eRt v20)}),hR 5 (eRt v20),hT 6 [.p (vRt v21.1)] (.box [.raw (.bool v21.2)]),(8,{fix:=some (vL 72 27 eRt (x19.2++[v21.1]))})] (B6 (yba hv20).1 (yda eRt (yba hv20).2) (gW 30 (eO 27 eRt) hv9) (show getRow [[.sl (some 30) (x5.2.1.map (eO 27 eRt))]] [(0,0),((Int.toNat (w64 ((x5.2.1.length:Int)-1))),0),((Int.toNat x15.2.2),0)]=some (eRt v20) from((gr0 rfl).trans ((grs (yda (eO 27 eRt) (yba hv9).2) rfl).trans (gre (yda eRt (yba hv20).2))))) (ytf hv21) (lG' eRt hu22) (A2 (show ∀ row∈((([v21.1]).map eRt):List (List C)),row.length=2 from(ynb fun _=>rfl)) (aP' 27 eRt x19.2 ([v21.1]))))) ?_
    refine b_n (q_n ?_)
    exact jx (v21.2,(x19.2++[v21.1])) h
   obtain⟨v23,hv23,h⟩:=bs h
   obtain⟨v24,hv24,h⟩:=bs h
   obtain⟨v25,hv25,h⟩:=bs h
   refine ylb (r_dq yfa 13 [] [dP 0 a0,bX 6 [.raw (.bool x15.1)],vL 7 30 (eO 27 eRt) x5.2.1,vL 8 27 eRt v3,(9,.ref 7 [(0,0),((Int.toNat (w64 ((x5.2.1.length:Int)-1))),0)] none),vL 10 27 eRt x15.2.1,pI 11 x15.2.2,pI 20 a1,pI 21 x5.2.2,vL 51 27 eRt v25,pL 52 v25,pI 53 0] [(4,{deep:=some [.sl (some 27) (v9.map eRt)],row:=some (eRt v23)}),hR 5 (eRt v23),(8,{deep:=some [.sl (some 27) (v9.map eRt)],row:=some (eRt v24)}),hR 9 (eRt v24),(10,(cS [.d false [.sl none (v3.map eRt)],.v (vRt v23),.v (vRt v24)] [rO 27 eRt v25])),hN 11 v25] (B6 (yba hv23).1 (yda eRt (yba hv23).2) (gW 30 (eO 27 eRt) hv9) (show getRow [[.sl (some 30) (x5.2.1.map (eO 27 eRt))]] [(0,0),((Int.toNat (w64 ((x5.2.1.length:Int)-1))),0),((Int.toNat (w64 (x15.2.2-1))),0)]=some (eRt v23) from((gr0 rfl).trans ((grs (yda (eO 27 eRt) (yba hv9).2) rfl).trans (gre (yda eRt (yba hv23).2))))) (yba hv24).1 (yda eRt (yba hv24).2) (A6 (gW 30 (eO 27 eRt) hv9) (show getRow [[.sl (some 30) (x5.2.1.map (eO 27 eRt))]] [(0,0),((Int.toNat (w64 ((x5.2.1.length:Int)-1))),0),((Int.toNat x15.2.2),0)]=some (eRt v24) from((gr0 rfl).trans ((grs (yda (eO 27 eRt) (yba hv9).2) rfl).trans (gre (yda eRt (yba hv24).2))))) (show([.d false [.sl none (eraL (v3.map eRt))],.v (vRt v23),.v (vRt v24)]:List Arg)=[.d false [.sl none (v3.map eRt)],.v (vRt v23),.v (vRt v24)] from(by simp only[ywa (h:=eRt) (yyx er_I er_I)])) (yiv hv25) (sR' 27 v25) (lF eRt v25)))) ?_
   refine yja ?_
   obtain⟨y27,hl_x26,hk_x26⟩:=bs h
   clear h
   refine yfd (J:=fun (x:(Bool×(List Qr)×Int))=>[dP 0 a0,bX 6 [.raw (.bool x.1)],vL 7 30 (eO 27 eRt) x5.2.1,vL 8 27 eRt v3,(9,.ref 7 [(0,0),((Int.toNat (w64 ((x5.2.1.length:Int)-1))),0)] none),vL 10 27 eRt x.2.1,pI 11 x15.2.2,pI 20 a1,pI 21 x5.2.2,vL 51 27 eRt v25,pL 52 v25,pI 53 x.2.2]) hl_x26 wkk (fun x26 o_x26 h hy_x26=>?_)
   unfold ydg at h
   refine kG [dP 0 a0,bX 6 [.raw (.bool x26.1)],vL 7 30 (eO 27 eRt) x5.2.1,vL 8 27 eRt v3,(9,.ref 7 [(0,0),((Int.toNat (w64 ((x5.2.1.length:Int)-1))),0)] none),vL 10 27 eRt x26.2.1,pI 11 x15.2.2,pI 20 a1,pI 21 x5.2.2,vL 51 27 eRt v25,pL 52 v25,pI 53 x26.2.2,pB 54 (decide (x26.2.2<(v25.length:Int)))] [] trivial ?_
   refine yib (kI h (fun hc15_27 h=>?_) (fun hc15_27 h=>?_))
   ·refine yia (q_n (yib (yja ?_)))
    obtain⟨v29,hv29,h⟩:=bs h
    refine kG [dP 0 a0,bX 6 [.raw (.bool x26.1)],vL 7 30 (eO 27 eRt) x5.2.1,vL 8 27 eRt v3,(9,.ref 7 [(0,0),((Int.toNat (w64 ((x5.2.1.length:Int)-1))),0)] none),vL 10 27 eRt x26.2.1,pI 11 x15.2.2,bR 13 v29,pI 20 a1,pI 21 x5.2.2,vL 51 27 eRt v25,pL 52 v25,pI 53 x26.2.2] [hR 0 (eRt v29),hR 1 (eRt v29)] (A3 (yba hv29).1 (yda eRt (yba hv29).2) (gW 27 eRt hv29)) ?_
    obtain⟨v30,hv30,h⟩:=bs h
    obtain⟨u31,hu31,h⟩:=bs h
    refine yrc (r_gq [dP 0 a0,bX 6 [.raw (.bool v30.2)],vL 7 30 (eO 27 eRt) x5.2.1,vL 8 27 eRt v3,(9,.ref 7 [(0,0),((Int.toNat (w64 ((x5.2.1.length:Int)-1))),0)] none),vL 10 27 eRt (x26.2.1++[v30.1]),pI 11 x15.2.2,pI 20 a1,pI 21 x5.2.2,vL 51 27 eRt v25,pL 52 v25,pI 53 x26.2.2] [hT 3 [.p (vRt v30.1)] (.box [.raw (.bool v30.2)]),(5,{fix:=some (vL 62 27 eRt (x26.2.1++[v30.1]))})] (A4 (ytf hv30) (lG' eRt hu31) (show ∀ row∈((([v30.1]).map eRt):List (List C)),row.length=2 from(ynb fun _=>rfl)) (aP' 27 eRt x26.2.1 ([v30.1])))) ?_
    refine b_n (q_n (yrc (r_gq [dP 0 a0,bX 6 [.raw (.bool v30.2)],vL 7 30 (eO 27 eRt) x5.2.1,vL 8 27 eRt v3,(9,.ref 7 [(0,0),((Int.toNat (w64 ((x5.2.1.length:Int)-1))),0)] none),vL 10 27 eRt (x26.2.1++[v30.1]),pI 11 x15.2.2,pI 20 a1,pI 21 x5.2.2,vL 51 27 eRt v25,pL 52 v25,pI 53 (w64 (x26.2.2+1))] [] trivial) ?_))
    exact lqn (v30.2,(x26.2.1++[v30.1]),(w64 (x26.2.2+1))) h
   refine yzc (q_x (lq_x (b_x ?_)))
   have hyy:=hy_x26 _ (oi h).symm
   subst hyy
   have h:=hk_x26
   refine q_n ?_
   exact jx (x26.1,x26.2.1) h
  refine yzc (q_x (lq_x (b_x ?_)))
  have hyy:=hy_x15 _ (oi h).symm
  subst hyy
  have h:=hk_x15
  refine q_n ?_
  exact jx (x15.1,x15.2.1) h
 refine yzc (q_x (lq_x (b_x ?_)))
 have hyy:=hy_x5 _ (oi h).symm
 subst hyy
 have h:=hk_x5
 dsimp only[Sum.elim] at h
 refine q_n ?_
 exact jx x5.2.1 h
theorem yks {a0:(List Qp)} {a1:Int}  {r:((List (List Qr))×Bool)} (h:yod a0 a1=some r):Meets Tryz.prog 81 [.d false (sP a0),wI a1] { vals:=[rO 30 (eO 27 eRt) r.1,.p (.bool r.2)] }:=by
 refine mo Tryz.func81 [dP 0 a0,pI 1 a1] ?_
 unfold yod at h
 refine kG [dP 0 a0,pI 1 a1] [] trivial ?_
 refine yib ?_
 obtain⟨v1,hv1,h⟩:=bs h
 obtain⟨w3,hw3,h⟩:=bs h
 refine ylb (l1:=[dP 0 a0,pI 1 a1,pB 13 w3]) ?_ ?_
 ·clear h
  rcases ft (!v1) with ha0 | ha0
  ·replace hw3:=yon ha0 hw3
   have hw3:=oi hw3
   subst hw3
   exact(r_gq [dP 0 a0,pI 1 a1,pB 13 true] [hC 1 [.p (.bool v1)],(4,gT),(5,gT),(6,gT),(7,bT)] (A5 (ywh hv1) ha0 ha0 ha0 ha0))
  obtain⟨v2,hv2,hw3⟩:=bs (ypn ha0 hw3)
  have hw3:=oi hw3
  subst hw3
  exact(r_gq [dP 0 a0,pI 1 a1,pB 13 (!v2)] [hC 1 [.p (.bool v1)],(4,gF),(5,(gN [.p (.bool v2)])),(6,gF),(7,bF)] (A6 (ywh hv1) ha0 ha0 (yud hv2) ha0 ha0))
 refine kI h (fun hc2_3 h=>?_) (fun hc2_3 h=>?_)
 ·refine kG [vN 4 30,pB 5 false] [] trivial ?_
  refine yra (q_r ?_)
  obtain rfl:=oi h
  exact er [(.ov false (oN 30),4),(.p (.bool false),5)]
 refine yia (q_n ?_)
 obtain⟨v5,hv5,h⟩:=bs h
 refine kG [vL 4 30 (eO 27 eRt) v5.1,pB 5 v5.2] [hC 2 [rO 30 (eO 27 eRt) v5.1,.p (.bool v5.2)]] (A2 (yca1 hv5) (show List.all [rO 30 (eO 27 eRt) v5.1,.p (.bool v5.2)] simpleR=true from(sa_o (wnR1 (ysc (wn_O (wn_P wn_I wn_I))) rfl) (sa_p rfl)))) ?_
 refine yra ?_
 obtain rfl:=oi h
 exact er [(.ov false [.sl (some 30) (v5.1.map (eO 27 eRt))],4),(.p (.bool v5.2),5)]
theorem ymy {a0:(List Qp)} {a1:Int}  {r:(Int×Bool)} (h:yvg a0 a1=some r):Meets Tryz.prog 26 [.d false (sP a0),wI a1] { vals:=[.p (iV r.1),.p (.bool r.2)] }:=by
 refine mo Tryz.func26 [dP 0 a0,pI 1 a1] ?_
 unfold yvg at h
 refine kG [dP 0 a0,pI 1 a1] [] trivial ?_
 obtain⟨v1,hv1,h⟩:=bs h
 refine kG [pI 1 a1,vL 6 30 (eO 27 eRt) v1.1,pB 7 v1.2] [hC 2 [rO 30 (eO 27 eRt) v1.1,.p (.bool v1.2)]] (A2 (yks hv1) (show List.all [rO 30 (eO 27 eRt) v1.1,.p (.bool v1.2)] simpleR=true from(sa_o (wnR1 (ysc (wn_O (wn_P wn_I wn_I))) rfl) (sa_p rfl)))) ?_
 refine yib (kG [pI 1 a1,vL 6 30 (eO 27 eRt) v1.1,pB 15 (!v1.2)] [] trivial ?_)
 refine kI h (fun hc2_1 h=>?_) (fun hc2_1 h=>?_)
 ·refine kG [pI 4 0,pB 5 false] [] trivial ?_
  refine yra (q_r ?_)
  obtain rfl:=oi h
  exact er [(.p (iV 0),4),(.p (.bool false),5)]
 refine yia (q_n ?_)
 obtain⟨v3,hv3,h⟩:=bs h
 refine kG [pI 4 (w64 ((v3.length:Int)-1)),pB 5 true] [hR 2 [.sl (some 27) (v3.map eRt)],hR 3 [.sl (some 27) (v3.map eRt)],(4,{deep:=some [.sl (some 27) (v3.map eRt)],n:=some v3.length})] (A6 (yba hv3).1 (yda (eO 27 eRt) (yba hv3).2) (show frR [.sl (some 27) (v3.map eRt)]=false from rfl) (gW 30 (eO 27 eRt) hv3) (lF eRt v3) (gW 30 (eO 27 eRt) hv3)) ?_
 refine yra ?_
 obtain rfl:=oi h
 exact er [(.p (iV (w64 ((v3.length:Int)-1))),4),(.p (.bool true),5)]
theorem yjv {a0:Qr}  {r:Bool} (h:ygm a0=some r):Meets Tryz.prog 163 [.v (vRt a0)] { vals:=[.p (.bool r)] }:=by
 refine mo Tryz.func163 [(0,.p (vRt a0))] ?_
 unfold ygm at h
 refine kG [bR 1 a0] [] trivial ?_
 obtain⟨v1,hv1,h⟩:=bs h
 obtain⟨w3,hw3,h⟩:=bs h
 refine ylb (l1:=[pB 2 w3]) ?_ ?_
 ·clear h
  rcases ft v1 with ha0 | ha0
  ·obtain⟨v2,hv2,hw3⟩:=bs (yon ha0 hw3)
   have hw3:=oi hw3
   subst hw3
   exact(r_gq [pB 2 v2] [hC 1 [.p (.bool v1)],(3,gT),(4,gT),(5,gT),(6,gT),(7,{g:=some true,call:=some (none,[.p (.bool v2)],true)}),(8,bT)] (B6 (ybr hv1) ha0 ha0 ha0 ha0 ha0 (A2 (yng hv2) ha0)))
  replace hw3:=ypn ha0 hw3
  have hw3:=oi hw3
  subst hw3
  exact(r_gq [pB 2 false] [hC 1 [.p (.bool v1)],(3,gF),(4,gF),(5,gF),(6,gF),(7,gF),(8,bF)] (B6 (ybr hv1) ha0 ha0 ha0 ha0 ha0 (A1 ha0)))
 refine yra ?_
 obtain rfl:=oi h
 exact er [(.p (.bool w3),2)]
theorem ytc {a0:Qr}  {r:Bool} (h:yif a0=some r):Meets Tryz.prog 125 [.v (vRt a0)] { vals:=[.p (.bool r)] }:=by
 refine mo Tryz.func125 [(0,.p (vRt a0))] ?_
 unfold yif at h
 refine kG [bR 1 a0] [] trivial ?_
 obtain⟨v1,hv1,h⟩:=bs h
 refine ylb (l1:=[pB 2 (v1&&(decide (a0.2<=100)))]) ?_ ?_
 ·rcases ft v1 with ha0 | ha0
  ·exact RegOk.of_eq (r_gq [pB 2 (decide (a0.2<=100))] [hC 1 [.p (.bool v1)],(3,gT),(4,gT),(5,gT),(6,bT)] (A5 (yjv hv1) ha0 ha0 ha0 ha0)) (by simp[ha0])
  exact RegOk.of_eq (r_gq [pB 2 false] [hC 1 [.p (.bool v1)],(3,gF),(4,gF),(5,gF),(6,bF)] (A5 (yjv hv1) ha0 ha0 ha0 ha0)) (by simp[ha0])
 refine yra ?_
 obtain rfl:=oi h
 exact er [(.p (.bool (v1&&(decide (a0.2<=100)))),2)]
theorem ygc {a0:(List Qp)}  {r:Bool} (h:yxc a0=some r):Meets Tryz.prog 92 [.d false (sP a0)] { vals:=[.p (.bool r)] }:=by
 refine mo Tryz.func92 [dP 0 a0] ?_
 unfold yxc at h
 refine kG [dP 0 a0] [] trivial ?_
 refine yib ?_
 obtain⟨v1,hv1,h⟩:=bs h
 refine kG [dP 0 a0,pB 8 (!v1)] [hN 1 a0,hC 2 [.p (.bool v1)]] (A2 (lnP a0) (yng hv1)) ?_
 refine kI h (fun hc2_1 h=>?_) (fun hc2_1 h=>?_)
 ·refine kG [pB 2 false] [] trivial ?_
  refine yra (q_r ?_)
  obtain rfl:=oi h
  exact er [(.p (.bool false),2)]
 refine yia (q_n (ywb (J:=fun (x:Unit)=>[dP 0 a0]) (K:=fun x=>yxn a0 x=some r) (fun x3 h=>?_) ?_))
 ·unfold yxn at h
  obtain⟨v4,hv4,h⟩:=bs h
  obtain⟨v5,hv5,h⟩:=bs h
  obtain⟨v6,hv6,h⟩:=bs h
  obtain⟨w10,hw10,h⟩:=bs h
  refine ylb (l1:=[pB 2 w10]) ?_ ?_
  ·clear h
   rcases ft (v6==0) with ha1 | ha1
   ·obtain⟨v7,hv7,hw10⟩:=bs (yon ha1 hw10)
    obtain⟨v8,hv8,hw10⟩:=bs hw10
    obtain⟨v9,hv9,hw10⟩:=bs hw10
    have hw10:=oi hw10
    subst hw10
    exact(r_dq yfa 16 [] [pB 2 (v9==0)] [hR 1 (ePt v4),hC 4 [.p (vRt v5)],hC 5 [.p (iV v6)],(8,gT),(9,gT),(10,{g:=some true,n:=some a0.length}),(11,gT),(12,{g:=some true,row:=some (ePt v7)}),(13,gT),(14,gT),(15,{g:=some true,call:=some (none,[.p (vRt v8)],true)}),(16,{g:=some true,call:=some (none,[.p (iV v9)],true)}),(17,gT),(18,bT)] (B6 (yba hv4).1 (yda ePt (yba hv4).2) (yla hv5) (ybc hv6) ha1 ha1 (B6 ha1 (lnP a0) ha1 ha1 (yba hv7).1 (yda ePt (yba hv7).2) (B6 ha1 ha1 ha1 (yla hv8) ha1 (ybc hv9) (A2 ha1 ha1)))))
   replace hw10:=ypn ha1 hw10
   have hw10:=oi hw10
   subst hw10
   exact(r_dq yfa 16 [] [pB 2 false] [hR 1 (ePt v4),hC 4 [.p (vRt v5)],hC 5 [.p (iV v6)],(8,gF),(9,gF),(10,gF),(11,gF),(12,gF),(13,gF),(14,gF),(15,gF),(16,gF),(17,gF),(18,bF)] (B6 (yba hv4).1 (yda ePt (yba hv4).2) (yla hv5) (ybc hv6) ha1 ha1 (B6 ha1 ha1 ha1 ha1 ha1 ha1 (A3 ha1 ha1 ha1))))
  refine yra ?_
  obtain rfl:=oi h
  exact er [(.p (.bool w10),2)]
 refine kG [dP 0 a0,dP 9 a0,pL 10 a0,pI 11 0] [hN 1 a0] (A1 (lnP a0)) ?_
 refine yja ?_
 obtain⟨y12,hl_x11,hk_x11⟩:=bs h
 clear h
 refine yfd (J:=fun (x:Int)=>[dP 0 a0,dP 9 a0,pL 10 a0,pI 11 x]) hl_x11 wkk (fun x11 o_x11 h hy_x11=>?_)
 unfold ybl at h
 refine kG [dP 0 a0,dP 9 a0,pL 10 a0,pI 11 x11,pB 12 (decide (x11<(a0.length:Int)))] [] trivial ?_
 refine yib (kI h (fun hc5_12 h=>?_) (fun hc5_12 h=>?_))
 ·refine yia (q_n (yib (yja ?_)))
  obtain⟨v14,hv14,h⟩:=bs h
  refine kG [dP 0 a0,pI 3 x11,bP 4 v14,dP 9 a0,pL 10 a0,pI 11 x11] [hR 1 (ePt v14)] (A2 (yba hv14).1 (yda ePt (yba hv14).2)) ?_
  obtain⟨v15,hv15,h⟩:=bs h
  obtain⟨w19,hw19,h⟩:=bs h
  refine ylb (l1:=[dP 0 a0,dP 9 a0,pL 10 a0,pI 11 x11,pB 41 w19]) ?_ ?_
  ·clear h
   rcases ft (!v15) with ha2 | ha2
   ·replace hw19:=yon ha2 hw19
    have hw19:=oi hw19
    subst hw19
    exact(r_dq yfa 22 [] [dP 0 a0,dP 9 a0,pL 10 a0,pI 11 x11,pB 41 true] [hC 2 [.p (.bool v15)],(5,gT),(6,gT),(7,gT),(8,gT),(9,bT),(11,gT),(12,gT),(13,gT),(24,gT),(25,bT)] (B6 (ytc hv15) ha2 ha2 ha2 ha2 ha2 (A5 tT tT tT tT tT)))
   obtain⟨v16,hv16,hw19⟩:=bs (ypn ha2 hw19)
   rcases ft (!v16) with ha3 | ha3
   ·replace hw19:=yon ha3 hw19
    have hw19:=oi hw19
    subst hw19
    exact(r_dq yfa 22 [] [dP 0 a0,dP 9 a0,pL 10 a0,pI 11 x11,pB 41 true] [hC 2 [.p (.bool v15)],(5,gF),(6,gF),(7,(gN [.p (.bool v16)])),(8,gF),(9,bF),(11,gT),(12,gT),(13,gT),(24,gT),(25,bT)] (B6 (ytc hv15) ha2 ha2 ha2 (ytc hv16) ha2 (A6 ha2 ha3 ha3 ha3 ha3 ha3)))
   replace hw19:=ypn ha3 hw19
   rcases ft (decide (x11>0)) with ha4 | ha4
   ·obtain⟨v17,hv17,hw19⟩:=bs (yon ha4 hw19)
    obtain⟨v18,hv18,hw19⟩:=bs hw19
    have hw19:=oi hw19
    subst hw19
    exact(r_dq yfa 22 [] [dP 0 a0,dP 9 a0,pL 10 a0,pI 11 x11,pB 41 (decide (v18>=0))] [hC 2 [.p (.bool v15)],(5,gF),(6,gF),(7,(gN [.p (.bool v16)])),(8,gF),(9,bF),(11,gF),(12,gF),(13,gF),(14,gT),(15,gT),(16,gT),(17,{g:=some true,row:=some (ePt v17)}),(18,gT),(19,gT),(20,gT),(21,gT),(22,{g:=some true,call:=some (none,[.p (iV v18)],true)}),(23,gT),(24,gFbT),(25,bF)] (B6 (ytc hv15) ha2 ha2 ha2 (ytc hv16) ha2 (B6 ha2 ha3 ha3 ha3 ha4 ha4 (B6 ha4 ha4 (yba hv17).1 (yda ePt (yba hv17).2) ha4 ha4 (B6 ha4 ha4 ha4 (ybc hv18) ha4 ha3 (A2 ha4 ha3))))))
   replace hw19:=ypn ha4 hw19
   have hw19:=oi hw19
   subst hw19
   exact(r_dq yfa 22 [] [dP 0 a0,dP 9 a0,pL 10 a0,pI 11 x11,pB 41 false] [hC 2 [.p (.bool v15)],(5,gF),(6,gF),(7,(gN [.p (.bool v16)])),(8,gF),(9,bF),(11,gF),(12,gF),(13,gF),(14,gF),(15,gF),(16,gF),(17,gF),(18,gF),(19,gF),(20,gF),(21,gF),(22,gF),(23,gF),(24,gFbF),(25,bF)] (B6 (ytc hv15) ha2 ha2 ha2 (ytc hv16) ha2 (B6 ha2 ha3 ha3 ha3 ha4 ha4 (B6 ha4 ha4 ha4 ha4 ha4 ha4 (A5 ha4 ha4 ha3 ha4 ha3)))))
  refine kI h (fun hc6_19 h=>?_) (fun hc6_19 h=>?_)
  ·refine kG [pB 2 false] [] trivial ?_
   refine yra (b_r (q_r (lq_r ?_)))
   refine b_r (q_r ?_)
   have hyy:=hy_x11 _ (oi h).symm
   subst hyy
   have h:=hk_x11
   dsimp only[Sum.elim] at h
   obtain rfl:=oi h
   exact er [(.p (.bool false),2)]
  refine yia (b_n (q_n (yrc (r_gq [dP 0 a0,dP 9 a0,pL 10 a0,pI 11 (w64 (x11+1))] [] trivial) ?_)))
  exact lqn (w64 (x11+1)) h
 refine yzc (q_x (lq_x (b_x ?_)))
 have hyy:=hy_x11 _ (oi h).symm
 subst hyy
 have h:=hk_x11
 dsimp only[Sum.elim] at h
 refine q_n ?_
 exact jx () h
theorem yym {a0:Qr} {a1:Qr}  {r:(Qr×Bool)} (h:yyk a0 a1=some r):Meets Tryz.prog 76 [.v (vRt a0),.v (vRt a1)] { vals:=[.p (vRt r.1),.p (.bool r.2)] }:=by
 refine mo Tryz.func76 [(0,.p (vRt a0)),(1,.p (vRt a1))] ?_
 unfold yyk at h
 refine kG [bR 2 a0,bR 3 a1,bX 4 zR] [] trivial ?_
 obtain⟨v1,hv1,h⟩:=bs h
 refine kG [bR 4 v1.1,pB 5 v1.2] [hC 16 [.p (vRt v1.1),.p (.bool v1.2)]] (A1 (yyb hv1)) ?_
 refine yra ?_
 obtain rfl:=oi h
 exact er [(.p (vRt v1.1),4),(.p (.bool v1.2),5)]
theorem yzx {a0:Qr} {a1:Qr}  {r:(Qr×Bool)} (h:yrq a0 a1=some r):Meets Tryz.prog 197 [.v (vRt a0),.v (vRt a1)] { vals:=[.p (vRt r.1),.p (.bool r.2)] }:=by
 refine mo Tryz.func197 [(0,.p (vRt a0)),(1,.p (vRt a1))] ?_
 unfold yrq at h
 refine kG [bR 2 a0,bR 3 a1,bX 4 zR] [] trivial ?_
 refine yib (kG [bR 2 a0,bR 3 a1,bX 4 zR,pB 8 (a1.1==0)] [] trivial ?_)
 refine kI h (fun hc2_0 h=>?_) (fun hc2_0 h=>?_)
 ·refine kG [bX 4 zR,pB 5 false] [] trivial ?_
  refine yra (q_r ?_)
  obtain rfl:=oi h
  exact er [(.p (.agg #[.int .i64 0,.int .i64 0]),4),(.p (.bool false),5)]
 refine yia (q_n ?_)
 obtain⟨v2,hv2,h⟩:=bs h
 refine kG [bR 4 v2.1,pB 5 v2.2] [hC 10 [.p (vRt v2.1),.p (.bool v2.2)]] (A1 (yyb hv2)) ?_
 refine yra ?_
 obtain rfl:=oi h
 exact er [(.p (vRt v2.1),4),(.p (.bool v2.2),5)]
theorem ybj {a0:Qp} {a1:Qp}  {r:Qr} (h:yee a0 a1=some r):Meets Tryz.prog 176 [.v (vPt a0),.v (vPt a1)] { vals:=[.p (vRt r)] }:=by
 refine mo Tryz.func176 [(0,.p (vPt a0)),(1,.p (vPt a1))] ?_
 unfold yee at h
 refine kG [bP 2 a0,bP 3 a1,bX 4 zR] [] trivial ?_
 obtain⟨v1,hv1,h⟩:=bs h
 refine kG [bP 2 a0,bP 3 a1,bX 4 zR,bR 5 v1.1] [hC 4 [.p (vRt v1.1),.p (.bool v1.2)]] (A1 (yym hv1)) ?_
 obtain⟨v2,hv2,h⟩:=bs h
 refine kG [bX 4 zR,bR 5 v1.1,bR 7 v2.1] [hC 4 [.p (vRt v2.1),.p (.bool v2.2)]] (A1 (yym hv2)) ?_
 obtain⟨v3,hv3,h⟩:=bs h
 refine kG [bX 4 zR,bR 9 v3.1] [hC 2 [.p (vRt v3.1),.p (.bool v3.2)]] (A1 (yzx hv3)) ?_
 refine kG [bR 4 v3.1] [] trivial ?_
 refine yra ?_
 obtain rfl:=oi h
 exact er [(.p (vRt v3.1),4)]
theorem yls {a0:(List Qp)}  {r:(List Qr)} (h:ylk a0=some r):Meets Tryz.prog 144 [.d false (sP a0)] { vals:=[rO 27 eRt r] }:=by
 refine mo Tryz.func144 [dP 0 a0] ?_
 unfold ylk at h
 refine kG [dP 0 a0] [] trivial ?_
 refine kG [dP 0 a0,vN 3 27] [] trivial ?_
 refine ywb (J:=fun (x:(List Qr))=>[vL 3 27 eRt x]) (K:=fun x=>yuo x=some r) (fun x1 h=>?_) ?_
 ·unfold yuo at h
  refine kG [vL 2 27 eRt x1] [] trivial ?_
  refine yra ?_
  obtain rfl:=oi h
  exact er [(.ov false [.sl (some 27) (x1.map eRt)],2)]
 refine kG [dP 0 a0,vN 3 27,pI 4 1] [] trivial ?_
 refine yja ?_
 obtain⟨y3,hl_x2,hk_x2⟩:=bs h
 clear h
 refine yfd (J:=fun (x:((List Qr)×Int))=>[dP 0 a0,vL 3 27 eRt x.1,pI 4 x.2]) hl_x2 wkk (fun x2 o_x2 h hy_x2=>?_)
 unfold yai at h
 refine yib (kG [dP 0 a0,vL 3 27 eRt x2.1,pI 4 x2.2,pB 8 (decide (x2.2<(a0.length:Int)))] [hN 2 a0] (A1 (lnP a0)) ?_)
 refine kI h (fun hc5_3 h=>?_) (fun hc5_3 h=>?_)
 ·refine yia (q_n (yib (yja ?_)))
  obtain⟨v5,hv5,h⟩:=bs h
  obtain⟨v6,hv6,h⟩:=bs h
  obtain⟨v7,hv7,h⟩:=bs h
  obtain⟨u8,hu8,h⟩:=bs h
  refine yrc (r_dq yfa 12 [] [dP 0 a0,vL 3 27 eRt (x2.1++[v7]),pI 4 x2.2] [hR 4 (ePt v5),hR 8 (ePt v6),hC 10 [.p (vRt v7)],(12,{fix:=some (vL 23 27 eRt (x2.1++[v7]))})] (B6 (yba hv5).1 (yda ePt (yba hv5).2) (yba hv6).1 (yda ePt (yba hv6).2) (ybj hv7) (lG' eRt hu8) (A2 (show ∀ row∈((([v7]).map eRt):List (List C)),row.length=2 from(ynb fun _=>rfl)) (aP' 27 eRt x2.1 ([v7]))))) ?_
  refine b_n (q_n (yrc (r_gq [dP 0 a0,vL 3 27 eRt (x2.1++[v7]),pI 4 (w64 (x2.2+1))] [] trivial) ?_))
  exact lqn ((x2.1++[v7]),(w64 (x2.2+1))) h
 refine yzc (q_x (lq_x (b_x ?_)))
 have hyy:=hy_x2 _ (oi h).symm
 subst hyy
 have h:=hk_x2
 refine q_n ?_
 exact jx x2.1 h
theorem yuk {a0:(List Qp)}  {r:Bool} (h:yye a0=some r):Meets Tryz.prog 111 [.d false (sP a0)] { vals:=[.p (.bool r)] }:=by
 refine mo Tryz.func111 [dP 0 a0] ?_
 unfold yye at h
 refine kG [dP 0 a0] [] trivial ?_
 refine ywb (J:=fun (x:Unit)=>[]) (K:=fun x=>ycl x=some r) (fun x1 h=>?_) ?_
 ·unfold ycl at h
  refine kG [pB 2 true] [] trivial ?_
  refine yra ?_
  obtain rfl:=oi h
  exact er [(.p (.bool true),2)]
 obtain⟨v2,hv2,h⟩:=bs h
 refine kG [vL 6 27 eRt v2,pL 7 v2,pI 8 0] [hC 1 [rO 27 eRt v2],hN 2 v2] (A3 (yls hv2) (sR' 27 v2) (lF eRt v2)) ?_
 refine yja ?_
 obtain⟨y4,hl_x3,hk_x3⟩:=bs h
 clear h
 refine yfd (J:=fun (x:Int)=>[vL 6 27 eRt v2,pL 7 v2,pI 8 x]) hl_x3 wkk (fun x3 o_x3 h hy_x3=>?_)
 unfold ybi at h
 refine kG [vL 6 27 eRt v2,pL 7 v2,pI 8 x3,pB 9 (decide (x3<(v2.length:Int)))] [] trivial ?_
 refine yib (kI h (fun hc5_4 h=>?_) (fun hc5_4 h=>?_))
 ·refine yia (q_n (yib (yja ?_)))
  obtain⟨v6,hv6,h⟩:=bs h
  refine kG [bR 4 v6,vL 6 27 eRt v2,pL 7 v2,pI 8 x3] [hR 0 (eRt v6),hR 1 (eRt v6)] (A3 (yba hv6).1 (yda eRt (yba hv6).2) (gW 27 eRt hv6)) ?_
  refine kG [vL 6 27 eRt v2,pL 7 v2,pI 8 x3,pB 14 (v6.1==0)] [] trivial ?_
  refine kI h (fun hc6_6 h=>?_) (fun hc6_6 h=>?_)
  ·refine kG [pB 2 false] [] trivial ?_
   refine yra (b_r (q_r (lq_r ?_)))
   refine b_r (q_r ?_)
   have hyy:=hy_x3 _ (oi h).symm
   subst hyy
   have h:=hk_x3
   dsimp only[Sum.elim] at h
   obtain rfl:=oi h
   exact er [(.p (.bool false),2)]
  refine yia (b_n (q_n (yrc (r_gq [vL 6 27 eRt v2,pL 7 v2,pI 8 (w64 (x3+1))] [] trivial) ?_)))
  exact lqn (w64 (x3+1)) h
 refine yzc (q_x (lq_x (b_x ?_)))
 have hyy:=hy_x3 _ (oi h).symm
 subst hyy
 have h:=hk_x3
 dsimp only[Sum.elim] at h
 refine q_n ?_
 exact jx () h
theorem yxt {a0:(List Qp)} {a1:Int}  {r:Bool} (h:yjd a0 a1=some r):Meets Tryz.prog 82 [.d false (sP a0),wI a1] { vals:=[.p (.bool r)] }:=by
 refine mo Tryz.func82 [dP 0 a0,pI 1 a1] ?_
 unfold yjd at h
 refine kG [dP 0 a0,pI 1 a1] [] trivial ?_
 obtain⟨v1,hv1,h⟩:=bs h
 obtain⟨w4,hw4,h⟩:=bs h
 refine ylb (l1:=[pB 4 w4]) ?_ ?_
 ·clear h
  rcases ft v1 with ha0 | ha0
  ·obtain⟨v2,hv2,hw4⟩:=bs (yon ha0 hw4)
   rcases ft v2 with ha1 | ha1
   ·obtain⟨v3,hv3,hw4⟩:=bs (yon ha1 hw4)
    have hw4:=oi hw4
    subst hw4
    exact(r_gq [pB 4 v3] [hC 1 [.p (.bool v1)],(3,gT),(4,{g:=some true,call:=some (none,[.p (.bool v2)],true)}),(5,bT),(7,gT),(8,{g:=some true,call:=some (none,[.p (.bool v3)],true)}),(9,bT)] (B6 (ygc hv1) ha0 ha0 (yuk hv2) ha0 ha1 (A3 ha1 (yng hv3) ha1)))
   replace hw4:=ypn ha1 hw4
   have hw4:=oi hw4
   subst hw4
   exact(r_gq [pB 4 false] [hC 1 [.p (.bool v1)],(3,gT),(4,{g:=some true,call:=some (none,[.p (.bool v2)],true)}),(5,bT),(7,gF),(8,gF),(9,bF)] (B6 (ygc hv1) ha0 ha0 (yuk hv2) ha0 ha1 (A2 ha1 ha1)))
  replace hw4:=ypn ha0 hw4
  have hw4:=oi hw4
  subst hw4
  exact(r_gq [pB 4 false] [hC 1 [.p (.bool v1)],(3,gF),(4,gF),(5,bF),(7,gF),(8,gF),(9,bF)] (B6 (ygc hv1) ha0 ha0 ha0 fF fF (A1 fF)))
 refine yra ?_
 obtain rfl:=oi h
 exact er [(.p (.bool w4),4)]
theorem yun {a0:(List Qp)}  {r:(List (List Int))} (h:ymk a0=some r):Meets Tryz.prog 93 [.d false (sP a0)] { vals:=[rO 50 (eO 3 eI) r] }:=by
 refine mo Tryz.func93 [dP 0 a0] ?_
 unfold ymk at h
 refine kG [dP 0 a0] [] trivial ?_
 refine kG [dP 0 a0,vN 3 50] [] trivial ?_
 refine ywb (J:=fun (x:(List (List Int)))=>[vL 3 50 (eO 3 eI) x]) (K:=fun x=>ymr x=some r) (fun x1 h=>?_) ?_
 ·unfold ymr at h
  refine kG [vL 2 50 (eO 3 eI) x1] [] trivial ?_
  refine yra ?_
  obtain rfl:=oi h
  exact er [(.ov false [.sl (some 50) (x1.map (eO 3 eI))],2)]
 obtain⟨v2,hv2,h⟩:=bs h
 refine kG [vN 3 50,vL 9 27 eRt v2,pL 10 v2,pI 11 0] [hC 1 [rO 27 eRt v2],hN 2 v2] (A3 (yls hv2) (sR' 27 v2) (lF eRt v2)) ?_
 refine yja ?_
 obtain⟨y4,hl_x3,hk_x3⟩:=bs h
 clear h
 refine yfd (J:=fun (x:((List (List Int))×Int))=>[vL 3 50 (eO 3 eI) x.1,vL 9 27 eRt v2,pL 10 v2,pI 11 x.2]) hl_x3 wkk (fun x3 o_x3 h hy_x3=>?_)
 unfold ypi at h
 refine kG [vL 3 50 (eO 3 eI) x3.1,vL 9 27 eRt v2,pL 10 v2,pI 11 x3.2,pB 12 (decide (x3.2<(v2.length:Int)))] [] trivial ?_
 refine yib (kI h (fun hc5_4 h=>?_) (fun hc5_4 h=>?_))
 ·refine yia (q_n (yib (yja ?_)))
  obtain⟨v6,hv6,h⟩:=bs h
  refine kG [vL 3 50 (eO 3 eI) x3.1,pI 4 x3.2,bR 5 v6,vL 9 27 eRt v2,pL 10 v2,pI 11 x3.2] [hR 1 (eRt v6),hR 2 (eRt v6)] (A3 (yba hv6).1 (yda eRt (yba hv6).2) (gW 27 eRt hv6)) ?_
  obtain⟨v7,hv7,h⟩:=bs h
  refine kG [vL 3 50 (eO 3 eI) x3.1,pI 4 x3.2,pI 6 v7,vL 9 27 eRt v2,pL 10 v2,pI 11 x3.2] [hC 2 [.p (iV v7)]] (A1 (ygv hv7)) ?_
  refine yib (kG [vL 3 50 (eO 3 eI) x3.1,pI 4 x3.2,pI 6 v7,pL 7 x3.1,vL 9 27 eRt v2,pL 10 v2,pI 11 x3.2] [hN 1 x3.1] (A1 (lF (eO 3 eI) x3.1)) ?_)
  obtain⟨w10,hw10,h⟩:=bs h
  refine ylb (l1:=[vL 3 50 (eO 3 eI) x3.1,pI 4 x3.2,pI 6 v7,pL 7 x3.1,vL 9 27 eRt v2,pL 10 v2,pI 11 x3.2,pB 33 w10]) ?_ ?_
  ·clear h
   rcases ft (decide ((x3.1.length:Int)>0)) with ha1 | ha1
   ·obtain⟨v8,hv8,hw10⟩:=bs (yon ha1 hw10)
    obtain⟨v9,hv9,hw10⟩:=bs hw10
    have hw10:=oi hw10
    subst hw10
    exact(r_gq [vL 3 50 (eO 3 eI) x3.1,pI 4 x3.2,pI 6 v7,pL 7 x3.1,vL 9 27 eRt v2,pL 10 v2,pI 11 x3.2,pB 33 (v9==v7)] [(3,gT),(4,gT),(5,gT),(6,{g:=some true,row:=some [.sl (some 3) (v8.map eI)]}),(7,{g:=some true,row:=some [.sl (some 3) (v8.map eI)]}),(8,{g:=some true,deep:=some [.sl (some 3) (v8.map eI)],row:=some (eI v9)}),(9,{g:=some true,row:=some (eI v9)}),(10,gT),(11,gT),(12,bT)] (B6 ha1 ha1 ha1 ha1 (yba hv8).1 (yda (eO 3 eI) (yba hv8).2) (B6 ha1 (show frR [.sl (some 3) (v8.map eI)]=false from rfl) (gW 50 (eO 3 eI) hv8) ha1 (yba hv9).1 (yda eI (yba hv9).2) (A6 (gW 50 (eO 3 eI) hv8) ha1 (show getRow [[.sl (some 50) (x3.1.map (eO 3 eI))]] [(0,0),((Int.toNat (w64 ((x3.1.length:Int)-1))),0),((Int.toNat 2),0)]=some (eI v9) from((gr0 rfl).trans ((grs (yda (eO 3 eI) (yba hv8).2) rfl).trans (gre (yda eI (yba hv9).2))))) ha1 ha1 ha1))))
   replace hw10:=ypn ha1 hw10
   have hw10:=oi hw10
   subst hw10
   exact(r_gq [vL 3 50 (eO 3 eI) x3.1,pI 4 x3.2,pI 6 v7,pL 7 x3.1,vL 9 27 eRt v2,pL 10 v2,pI 11 x3.2,pB 33 false] [(3,gF),(4,gF),(5,gF),(6,gF),(7,gF),(8,gF),(9,gF),(10,gF),(11,gF),(12,bF)] (B6 ha1 ha1 ha1 ha1 ha1 ha1 (A4 ha1 ha1 ha1 ha1)))
  refine kI h (fun hc7_10 h=>?_) (fun hc7_10 h=>?_)
  ·obtain⟨v12,hv12,h⟩:=bs h
   obtain⟨v13,hv13,h⟩:=bs h
   refine kG [vL 3 50 (eO 3 eI) (x3.1.set (Int.toNat (w64 ((x3.1.length:Int)-1))) (v12.set (Int.toNat 1) (w64 (x3.2+1)))),vL 9 27 eRt v2,pL 10 v2,pI 11 x3.2] [hR 3 [.sl (some 3) (v12.map eI)],hR 4 [.sl (some 3) (v12.map eI)],(7,{deep:=some [.sl (some 3) (v12.map eI)],row:=some (eI v13)}),(8,{row:=some (eI v13),fix:=some (vL 3 50 (eO 3 eI) (x3.1.set (Int.toNat (w64 ((x3.1.length:Int)-1))) (v12.set (Int.toNat 1) (w64 (x3.2+1)))))})] (B6 (yba hv12).1 (yda (eO 3 eI) (yba hv12).2) (show frR [.sl (some 3) (v12.map eI)]=false from rfl) (gW 50 (eO 3 eI) hv12) (yba hv13).1 (yda eI (yba hv13).2) (A3 (gW 50 (eO 3 eI) hv12) (show getRow [[.sl (some 50) (x3.1.map (eO 3 eI))]] [(0,0),((Int.toNat (w64 ((x3.1.length:Int)-1))),0),((Int.toNat 1),0)]=some (eI v13) from((gr0 rfl).trans ((grs (yda (eO 3 eI) (yba hv12).2) rfl).trans (gre (yda eI (yba hv13).2))))) (show(SV.ov false [.sl (some 50) (setL (x3.1.map (eO 3 eI)) [((Int.toNat (w64 ((x3.1.length:Int)-1))),0),((Int.toNat 1),0)] [rI (w64 (x3.2+1))])]:SV)=.ov false [.sl (some 50) ((x3.1.set (Int.toNat (w64 ((x3.1.length:Int)-1))) (v12.set (Int.toNat 1) (w64 (x3.2+1)))).map (eO 3 eI))] from(congrArg (fun z=>SV.ov false [.sl (some 50) z]) (set2 (f:=(eO 3 eI)) (y:=(v12.set (Int.toNat 1) (w64 (x3.2+1)))) (yba hv12).2 rfl (set1 (f:=eI) (y:=(w64 (x3.2+1))) (yba hv13).2 rfl) rfl))))) ?_
   refine yzc (q_x (b_x (q_n (yrc (r_gq [vL 3 50 (eO 3 eI) (x3.1.set (Int.toNat (w64 ((x3.1.length:Int)-1))) (v12.set (Int.toNat 1) (w64 (x3.2+1)))),vL 9 27 eRt v2,pL 10 v2,pI 11 (w64 (x3.2+1))] [] trivial) ?_))))
   exact lqn ((x3.1.set (Int.toNat (w64 ((x3.1.length:Int)-1))) (v12.set (Int.toNat 1) (w64 (x3.2+1)))),(w64 (x3.2+1))) h
  refine yia (q_n ?_)
  obtain⟨u14,hu14,h⟩:=bs h
  refine yrc (r_gq [vL 3 50 (eO 3 eI) (x3.1++[[x3.2,(w64 (x3.2+1)),v7]]),vL 9 27 eRt v2,pL 10 v2,pI 11 x3.2] [(7,{fix:=some (vL 49 50 (eO 3 eI) (x3.1++[[x3.2,(w64 (x3.2+1)),v7]]))})] (A3 (lG' (eO 3 eI) hu14) (show ∀ row∈((([[x3.2,(w64 (x3.2+1)),v7]]).map (eO 3 eI)):List (List C)),row.length=1 from(ynb fun _=>rfl)) (aP' 50 (eO 3 eI) x3.1 ([[x3.2,(w64 (x3.2+1)),v7]])))) ?_
  refine b_n (q_n (yrc (r_gq [vL 3 50 (eO 3 eI) (x3.1++[[x3.2,(w64 (x3.2+1)),v7]]),vL 9 27 eRt v2,pL 10 v2,pI 11 (w64 (x3.2+1))] [] trivial) ?_))
  exact lqn ((x3.1++[[x3.2,(w64 (x3.2+1)),v7]]),(w64 (x3.2+1))) h
 refine yzc (q_x (lq_x (b_x ?_)))
 have hyy:=hy_x3 _ (oi h).symm
 subst hyy
 have h:=hk_x3
 refine q_n ?_
 exact jx x3.1 h
theorem ytb1 {a0:(List Qp)}  {r:(List Qr)} (h:ylf a0=some r):Meets Tryz.prog 84 [.d false (sP a0)] { vals:=[rO 27 eRt r] }:=by
 refine mo Tryz.func84 [dP 0 a0] ?_
 unfold ylf at h
 refine kG [dP 0 a0] [] trivial ?_
 refine kG [dP 0 a0,vN 3 27] [] trivial ?_
 refine ywb (J:=fun (x:(List Qr))=>[vL 3 27 eRt x]) (K:=fun x=>yeq x=some r) (fun x1 h=>?_) ?_
 ·unfold yeq at h
  refine kG [vL 2 27 eRt x1] [] trivial ?_
  refine yra ?_
  obtain rfl:=oi h
  exact er [(.ov false [.sl (some 27) (x1.map eRt)],2)]
 obtain⟨v2,hv2,h⟩:=bs h
 obtain⟨u3,hu3,h⟩:=bs h
 refine kG [dP 0 a0,vN 3 27,dL 8 (eF eI) (v2.drop (Int.toNat 1)),pL 9 (v2.drop (Int.toNat 1)),pI 10 0] [hC 1 [rO 50 (eO 3 eI) v2],(2,{pre:=some (dL 7 (eF eI) v2),fix:=some (dL 8 (eF eI) (v2.drop (Int.toNat 1)))}),hN 3 (v2.drop (Int.toNat 1))] (B6 (yun hv2) (show List.all [rO 50 (eO 3 eI) v2] simpleR=true from(sa_o (wnR1 (ysc (wn_O wn_I)) rfl) rfl)) (show(SV.d false (eraR [.sl (some 50) (v2.map (eO 3 eI))]):SV)=.d false [.sl none (v2.map (eF eI))] from(congrArg (fun z=>SV.d false z) (ybs (ywa (yhp1 er_I)) rfl))) (show(Int.toNat 1)<=(v2.map (eF eI)).length from(by have hg:=(ycb hu3);first | (simp only[List.length_map];omega) | omega)) (show(v2.map (eF eI)).length<=(v2.map (eF eI)).length from(Nat.le_refl _)) (show ∀ row∈(v2.map (eF eI)),row.length=1 from(ynb fun _=>rfl)) (A3 (show(0:Int)<=1 from(by have hg:=(ycb hu3);omega)) (show(SV.d false [.sl none (((v2.map (eF eI)).take (v2.map (eF eI)).length).drop (Int.toNat 1))]:SV)=.d false [.sl none ((v2.drop (Int.toNat 1)).map (eF eI))] from(congrArg (fun z=>SV.d false [.sl none z]) yxz1)) (lF (eF eI) (v2.drop (Int.toNat 1))))) ?_
 refine yja ?_
 obtain⟨y5,hl_x4,hk_x4⟩:=bs h
 clear h
 refine yfd (J:=fun (x:((List Qr)×Int))=>[dP 0 a0,vL 3 27 eRt x.1,dL 8 (eF eI) (v2.drop (Int.toNat 1)),pL 9 (v2.drop (Int.toNat 1)),pI 10 x.2]) hl_x4 wkk (fun x4 o_x4 h hy_x4=>?_)
 unfold ykf at h
 refine kG [dP 0 a0,vL 3 27 eRt x4.1,dL 8 (eF eI) (v2.drop (Int.toNat 1)),pL 9 (v2.drop (Int.toNat 1)),pI 10 x4.2,pB 11 (decide (x4.2<((v2.drop (Int.toNat 1)).length:Int)))] [] trivial ?_
 refine yib (kI h (fun hc5_5 h=>?_) (fun hc5_5 h=>?_))
 ·refine yia (q_n (yib (yja ?_)))
  obtain⟨v7,hv7,h⟩:=bs h
  refine kG [dP 0 a0,vL 3 27 eRt x4.1,dL 5 eI v7,dL 8 (eF eI) (v2.drop (Int.toNat 1)),pL 9 (v2.drop (Int.toNat 1)),pI 10 x4.2] [hR 0 [.sl none (v7.map eI)]] (A2 (yba hv7).1 (yda (eF eI) (yba hv7).2)) ?_
  obtain⟨v8,hv8,h⟩:=bs h
  obtain⟨v9,hv9,h⟩:=bs h
  obtain⟨u10,hu10,h⟩:=bs h
  refine yrc (r_gq [dP 0 a0,vL 3 27 eRt (x4.1++[v9.1]),dL 8 (eF eI) (v2.drop (Int.toNat 1)),pL 9 (v2.drop (Int.toNat 1)),pI 10 x4.2] [hR 3 (eI v8),hR 5 (ePt v9),(9,{fix:=some (vL 23 27 eRt (x4.1++[v9.1]))})] (B6 (yba hv8).1 (yda eI (yba hv8).2) (yba hv9).1 (yda ePt (yba hv9).2) (lG' eRt hu10) (show ∀ row∈((([v9.1]).map eRt):List (List C)),row.length=2 from(ynb fun _=>rfl)) (A1 (aP' 27 eRt x4.1 ([v9.1]))))) ?_
  refine b_n (q_n (yrc (r_gq [dP 0 a0,vL 3 27 eRt (x4.1++[v9.1]),dL 8 (eF eI) (v2.drop (Int.toNat 1)),pL 9 (v2.drop (Int.toNat 1)),pI 10 (w64 (x4.2+1))] [] trivial) ?_))
  exact lqn ((x4.1++[v9.1]),(w64 (x4.2+1))) h
 refine yzc (q_x (lq_x (b_x ?_)))
 have hyy:=hy_x4 _ (oi h).symm
 subst hyy
 have h:=hk_x4
 refine q_n ?_
 exact jx x4.1 h
theorem yny {a0:(List Qr)} {a1:Qr} {a2:Qr}  {r:(List Qr)} (h:ykl a0 a1 a2=some r):Meets Tryz.prog 134 [.d false [.sl none (a0.map eRt)],.v (vRt a1),.v (vRt a2)] { vals:=[rO 27 eRt r] }:=by
 refine mo Tryz.func134 [dL 0 eRt a0,(1,.p (vRt a1)),(2,.p (vRt a2))] ?_
 unfold ykl at h
 refine kG [dL 0 eRt a0,bR 4 a1,bR 5 a2] [] trivial ?_
 refine kG [dL 0 eRt a0,bR 4 a1,bR 5 a2,vN 7 27] [] trivial ?_
 refine ywb (J:=fun (x:(List Qr))=>[vL 7 27 eRt x]) (K:=fun x=>ysn x=some r) (fun x1 h=>?_) ?_
 ·unfold ysn at h
  refine kG [vL 6 27 eRt x1] [] trivial ?_
  refine yra ?_
  obtain rfl:=oi h
  exact er [(.ov false [.sl (some 27) (x1.map eRt)],6)]
 refine kG [bR 4 a1,bR 5 a2,vN 7 27,dL 10 eRt a0,pL 11 a0,pI 12 0] [hN 1 a0] (A1 (lF eRt a0)) ?_
 refine yja ?_
 obtain⟨y3,hl_x2,hk_x2⟩:=bs h
 clear h
 refine yfd (J:=fun (x:((List Qr)×Int))=>[bR 4 a1,bR 5 a2,vL 7 27 eRt x.1,dL 10 eRt a0,pL 11 a0,pI 12 x.2]) hl_x2 wkk (fun x2 o_x2 h hy_x2=>?_)
 unfold yse at h
 refine kG [bR 4 a1,bR 5 a2,vL 7 27 eRt x2.1,dL 10 eRt a0,pL 11 a0,pI 12 x2.2,pB 13 (decide (x2.2<(a0.length:Int)))] [] trivial ?_
 refine yib (kI h (fun hc5_3 h=>?_) (fun hc5_3 h=>?_))
 ·refine yia (q_n (yib (yja ?_)))
  obtain⟨v5,hv5,h⟩:=bs h
  refine kG [bR 4 a1,bR 5 a2,vL 7 27 eRt x2.1,bR 9 v5,dL 10 eRt a0,pL 11 a0,pI 12 x2.2] [hR 0 (eRt v5)] (A2 (yba hv5).1 (yda eRt (yba hv5).2)) ?_
  refine ywb (J:=fun (x:(List Qr))=>[bR 4 a1,bR 5 a2,vL 7 27 eRt x,bR 9 v5,dL 10 eRt a0,pL 11 a0,pI 12 x2.2]) (K:=fun x=>yre a1 a2 x2 v5 x=some o_x2) (fun x6 h=>?_) ?_
  ·unfold yre at h
   obtain⟨v7,hv7,h⟩:=bs h
   obtain⟨w9,hw9,h⟩:=bs h
   refine ylb (l1:=[bR 4 a1,bR 5 a2,vL 7 27 eRt x6,bR 9 v5,dL 10 eRt a0,pL 11 a0,pI 12 x2.2,pB 39 w9]) ?_ ?_
   ·clear h
    rcases ft (decide (v7<0)) with ha1 | ha1
    ·obtain⟨v8,hv8,hw9⟩:=bs (yon ha1 hw9)
     have hw9:=oi hw9
     subst hw9
     exact(r_gq [bR 4 a1,bR 5 a2,vL 7 27 eRt x6,bR 9 v5,dL 10 eRt a0,pL 11 a0,pI 12 x2.2,pB 39 (decide (v8<0))] [hC 2 [.p (iV v7)],(5,gT),(6,gT),(7,{g:=some true,call:=some (none,[.p (iV v8)],true)}),(8,gT),(9,bT)] (B6 (ybc hv7) ha1 ha1 ha1 (ybc hv8) ha1 (A1 ha1)))
    replace hw9:=ypn ha1 hw9
    have hw9:=oi hw9
    subst hw9
    exact(r_gq [bR 4 a1,bR 5 a2,vL 7 27 eRt x6,bR 9 v5,dL 10 eRt a0,pL 11 a0,pI 12 x2.2,pB 39 false] [hC 2 [.p (iV v7)],(5,gF),(6,gF),(7,gF),(8,gF),(9,bF)] (A6 (ybc hv7) ha1 ha1 ha1 ha1 ha1))
   refine kI h (fun hc6_9 h=>?_) (fun hc6_9 h=>?_)
   ·obtain⟨u11,hu11,h⟩:=bs h
    refine yrc (r_gq [bR 4 a1,bR 5 a2,vL 7 27 eRt ([v5]++x6),dL 10 eRt a0,pL 11 a0,pI 12 x2.2] [(3,{fix:=some (vL 43 27 eRt ([v5]++x6))})] (A3 (lG' eRt hu11) (show ∀ row∈((x6.map eRt):List (List C)),row.length=2 from(ynb fun _=>rfl)) (aP' 27 eRt ([v5]) x6))) ?_
    refine b_n (q_n (yrc (r_gq [bR 4 a1,bR 5 a2,vL 7 27 eRt ([v5]++x6),dL 10 eRt a0,pL 11 a0,pI 12 (w64 (x2.2+1))] [] trivial) ?_))
    exact lqn (([v5]++x6),(w64 (x2.2+1))) h
   refine yia (b_n (q_n (yrc (r_gq [bR 4 a1,bR 5 a2,vL 7 27 eRt x6,dL 10 eRt a0,pL 11 a0,pI 12 (w64 (x2.2+1))] [] trivial) ?_)))
   exact lqn (x6,(w64 (x2.2+1))) h
  obtain⟨v12,hv12,h⟩:=bs h
  obtain⟨w14,hw14,h⟩:=bs h
  refine ylb (l1:=[bR 4 a1,bR 5 a2,vL 7 27 eRt x2.1,bR 9 v5,dL 10 eRt a0,pL 11 a0,pI 12 x2.2,pB 25 w14]) ?_ ?_
  ·clear h
   rcases ft (decide (v12<0)) with ha1 | ha1
   ·obtain⟨v13,hv13,hw14⟩:=bs (yon ha1 hw14)
    have hw14:=oi hw14
    subst hw14
    exact(r_gq [bR 4 a1,bR 5 a2,vL 7 27 eRt x2.1,bR 9 v5,dL 10 eRt a0,pL 11 a0,pI 12 x2.2,pB 25 (decide (v13<0))] [hC 2 [.p (iV v12)],(5,gT),(6,gT),(7,{g:=some true,call:=some (none,[.p (iV v13)],true)}),(8,gT),(9,bT)] (B6 (ybc hv12) ha1 ha1 ha1 (ybc hv13) ha1 (A1 ha1)))
   replace hw14:=ypn ha1 hw14
   have hw14:=oi hw14
   subst hw14
   exact(r_gq [bR 4 a1,bR 5 a2,vL 7 27 eRt x2.1,bR 9 v5,dL 10 eRt a0,pL 11 a0,pI 12 x2.2,pB 25 false] [hC 2 [.p (iV v12)],(5,gF),(6,gF),(7,gF),(8,gF),(9,bF)] (A6 (ybc hv12) ha1 ha1 ha1 ha1 ha1))
  refine kI h (fun hc7_14 h=>?_) (fun hc7_14 h=>?_)
  ·obtain⟨u16,hu16,h⟩:=bs h
   refine yrc (r_gq [bR 4 a1,bR 5 a2,vL 7 27 eRt (x2.1++[v5]),bR 9 v5,dL 10 eRt a0,pL 11 a0,pI 12 x2.2] [(3,{fix:=some (vL 29 27 eRt (x2.1++[v5]))})] (A3 (lG' eRt hu16) (show ∀ row∈((([v5]).map eRt):List (List C)),row.length=2 from(ynb fun _=>rfl)) (aP' 27 eRt x2.1 ([v5])))) ?_
   refine q_n ?_
   exact jx (x2.1++[v5]) h
  refine yia (q_n ?_)
  exact jx x2.1 h
 refine yzc (q_x (lq_x (b_x ?_)))
 have hyy:=hy_x2 _ (oi h).symm
 subst hyy
 have h:=hk_x2
 refine q_n ?_
 exact jx x2.1 h
theorem yub1 {a0:(List Qp)} {a1:Qr}  {r:Int} (h:yro a0 a1=some r):Meets Tryz.prog 170 [.d false (sP a0),.v (vRt a1)] { vals:=[.p (iV r)] }:=by
 refine mo Tryz.func170 [dP 0 a0,(1,.p (vRt a1))] ?_
 unfold yro at h
 refine kG [dP 0 a0,bR 3 a1] [] trivial ?_
 refine kG [dP 0 a0,bR 3 a1,pI 5 0] [] trivial ?_
 refine ywb (J:=fun (x:Int)=>[pI 5 x]) (K:=fun x=>ydq x=some r) (fun x1 h=>?_) ?_
 ·unfold ydq at h
  refine kG [pI 4 x1] [] trivial ?_
  refine yra ?_
  obtain rfl:=oi h
  exact er [(.p (iV x1),4)]
 refine yja ?_
 obtain⟨y3,hl_x2,hk_x2⟩:=bs h
 clear h
 refine yfd (J:=fun (x:Int)=>[dP 0 a0,bR 3 a1,pI 5 x]) hl_x2 wkk (fun x2 o_x2 h hy_x2=>?_)
 unfold ygj at h
 refine yib ?_
 obtain⟨w6,hw6,h⟩:=bs h
 refine ylb (l1:=[dP 0 a0,bR 3 a1,pI 5 x2,pB 21 w6]) ?_ ?_
 ·clear h
  rcases ft (decide ((w64 (x2+2))<(a0.length:Int))) with ha0 | ha0
  ·obtain⟨v4,hv4,hw6⟩:=bs (yon ha0 hw6)
   obtain⟨v5,hv5,hw6⟩:=bs hw6
   have hw6:=oi hw6
   subst hw6
   exact(r_dq yfa 13 [] [dP 0 a0,bR 3 a1,pI 5 x2,pB 21 (decide (v5<0))] [hN 3 a0,(6,gT),(7,gT),(8,gT),(9,{g:=some true,row:=some (ePt v4)}),(10,gT),(11,gT),(12,gT),(13,{g:=some true,call:=some (none,[.p (iV v5)],true)}),(14,gT),(15,bT)] (B6 (lnP a0) ha0 ha0 ha0 ha0 (yba hv4).1 (B6 (yda ePt (yba hv4).2) ha0 ha0 ha0 ha0 (ybc hv5) (A2 ha0 ha0))))
  replace hw6:=ypn ha0 hw6
  have hw6:=oi hw6
  subst hw6
  exact(r_dq yfa 13 [] [dP 0 a0,bR 3 a1,pI 5 x2,pB 21 false] [hN 3 a0,(6,gF),(7,gF),(8,gF),(9,gF),(10,gF),(11,gF),(12,gF),(13,gF),(14,gF),(15,bF)] (B6 (lnP a0) ha0 ha0 ha0 ha0 ha0 (A5 ha0 ha0 ha0 ha0 ha0)))
 refine kI h (fun hc5_6 h=>?_) (fun hc5_6 h=>?_)
 ·refine yia (q_n (yja (yrc (r_gq [dP 0 a0,bR 3 a1,pI 5 (w64 (x2+1))] [] trivial) ?_)))
  refine b_n ?_
  exact lqn (w64 (x2+1)) h
 refine yzc (q_x (lq_x (b_x ?_)))
 have hyy:=hy_x2 _ (oi h).symm
 subst hyy
 have h:=hk_x2
 refine q_n ?_
 exact jx x2 h
theorem ykf1 {a0:Qr} {a1:Qr}  {r:(Qr×Bool)} (h:yso a0 a1=some r):Meets Tryz.prog 194 [.v (vRt a0),.v (vRt a1)] { vals:=[.p (vRt r.1),.p (.bool r.2)] }:=by
 refine mo Tryz.func194 [(0,.p (vRt a0)),(1,.p (vRt a1))] ?_
 unfold yso at h
 refine kG [bR 2 a0,bR 3 a1,bX 4 zR] [] trivial ?_
 obtain⟨v1,hv1,h⟩:=bs h
 refine kG [bR 4 v1.1,pB 5 v1.2] [hC 10 [.p (vRt v1.1),.p (.bool v1.2)]] (A1 (yyb hv1)) ?_
 refine yra ?_
 obtain rfl:=oi h
 exact er [(.p (vRt v1.1),4),(.p (.bool v1.2),5)]
theorem yms {a0:Qr} {a1:Qr}  {r:(Qr×Bool)} (h:yto a0 a1=some r):Meets Tryz.prog 80 [.v (vRt a0),.v (vRt a1)] { vals:=[.p (vRt r.1),.p (.bool r.2)] }:=by
 refine mo Tryz.func80 [(0,.p (vRt a0)),(1,.p (vRt a1))] ?_
 unfold yto at h
 refine kG [bR 2 a0,bR 3 a1,bX 4 zR] [] trivial ?_
 obtain⟨v1,hv1,h⟩:=bs h
 refine kG [bR 4 v1.1,pB 5 v1.2] [hC 16 [.p (vRt v1.1),.p (.bool v1.2)]] (A1 (yyb hv1)) ?_
 refine yra ?_
 obtain rfl:=oi h
 exact er [(.p (vRt v1.1),4),(.p (.bool v1.2),5)]
theorem yyg1 {a0:Qp} {a1:Qp} {a2:Qr}  {r:(Qr×Bool)} (h:ylz a0 a1 a2=some r):Meets Tryz.prog 171 [.v (vPt a0),.v (vPt a1),.v (vRt a2)] { vals:=[.p (vRt r.1),.p (.bool r.2)] }:=by
 refine mo Tryz.func171 [(0,.p (vPt a0)),(1,.p (vPt a1)),(2,.p (vRt a2))] ?_
 unfold ylz at h
 refine kG [bP 3 a0,bP 4 a1,bR 5 a2,bX 6 zR] [] trivial ?_
 obtain⟨v1,hv1,h⟩:=bs h
 refine kG [bP 3 a0,bP 4 a1,bX 6 zR,bR 8 v1.1,pB 9 v1.2] [hC 3 [.p (vRt v1.1),.p (.bool v1.2)]] (A1 (yym hv1)) ?_
 obtain⟨v2,hv2,h⟩:=bs h
 obtain⟨v3,hv3,h⟩:=bs h
 refine ylb (r_dq yfa 10 [(9,10)] [bP 3 a0,bX 6 zR,pB 9 v1.2,bR 10 v3.1,pB 11 v3.2] [hC 3 [.p (vRt v2)],hC 4 [.p (vRt v3.1),.p (.bool v3.2)]] (A2 (ybj hv2) (ykf1 hv3))) ?_
 refine yib (ylb (l1:=[bP 3 a0,bX 6 zR,bR 10 v3.1,pB 32 ((!v1.2)||(!v3.2))]) ?_ ?_)
 ·rcases ft (!v1.2) with ha0 | ha0
  ·exact RegOk.of_eq (r_gq [bP 3 a0,bX 6 zR,bR 10 v3.1,pB 32 true] [(3,gT),(4,gT),(5,bT)] (A3 ha0 ha0 ha0)) (by simp[ha0])
  exact RegOk.of_eq (r_gq [bP 3 a0,bX 6 zR,bR 10 v3.1,pB 32 (!v3.2)] [(3,gF),(4,gF),(5,bF)] (A3 ha0 ha0 ha0)) (by simp[ha0])
 refine kI h (fun hc2_3 h=>?_) (fun hc2_3 h=>?_)
 ·refine kG [bX 6 zR,pB 7 false] [] trivial ?_
  refine yra (q_r ?_)
  obtain rfl:=oi h
  exact er [(.p (.agg #[.int .i64 0,.int .i64 0]),6),(.p (.bool false),7)]
 refine yia (q_n ?_)
 obtain⟨v5,hv5,h⟩:=bs h
 refine kG [bR 6 v5.1,pB 7 v5.2] [hC 3 [.p (vRt v5.1),.p (.bool v5.2)]] (A1 (yms hv5)) ?_
 refine yra ?_
 obtain rfl:=oi h
 exact er [(.p (vRt v5.1),6),(.p (.bool v5.2),7)]
theorem yiu {a0:(List Qp)} {a1:Qr}  {r:(Qr×Bool)} (h:yoi a0 a1=some r):Meets Tryz.prog 135 [.d false (sP a0),.v (vRt a1)] { vals:=[.p (vRt r.1),.p (.bool r.2)] }:=by
 refine mo Tryz.func135 [dP 0 a0,(1,.p (vRt a1))] ?_
 unfold yoi at h
 refine kG [dP 0 a0,bR 3 a1,bX 4 zR] [] trivial ?_
 obtain⟨v1,hv1,h⟩:=bs h
 refine kG [dP 0 a0,bR 3 a1,bX 4 zR,pI 6 v1] [hC 2 [.p (iV v1)]] (A1 (yub1 hv1)) ?_
 obtain⟨v2,hv2,h⟩:=bs h
 obtain⟨v3,hv3,h⟩:=bs h
 obtain⟨v4,hv4,h⟩:=bs h
 refine ylb (r_dq yfa 10 [] [bR 4 v4.1,pB 5 v4.2] [hR 2 (ePt v2),hR 7 (ePt v3),hC 10 [.p (vRt v4.1),.p (.bool v4.2)]] (A5 (yba hv2).1 (yda ePt (yba hv2).2) (yba hv3).1 (yda ePt (yba hv3).2) (yyg1 hv4))) ?_
 refine yra ?_
 obtain rfl:=oi h
 exact er [(.p (vRt v4.1),4),(.p (.bool v4.2),5)]
theorem yfd1 {a0:(List Qp)} {a1:(List Qr)} {a2:(List Qr)}  {r:((List Qr)×Bool)} (h:yeo a0 a1 a2=some r):Meets Tryz.prog 85 [.d false (sP a0),.d false [.sl none (a1.map eRt)],.d false [.sl none (a2.map eRt)]] { vals:=[rO 27 eRt r.1,.p (.bool r.2)] }:=by
 refine mo Tryz.func85 [dP 0 a0,dL 1 eRt a1,dL 2 eRt a2] ?_
 unfold yeo at h
 refine kG [dP 0 a0,dL 1 eRt a1,dL 2 eRt a2] [] trivial ?_
 obtain⟨v1,hv1,h⟩:=bs h
 refine kG [dP 0 a0,dL 1 eRt a1,dL 2 eRt a2,vL 8 27 eRt ([v1])] [hR 1 (eRt v1)] (A2 (yba hv1).1 (yda eRt (yba hv1).2)) ?_
 refine ywb (J:=fun (x:(List Qr))=>[dP 0 a0,vL 8 27 eRt x]) (K:=fun x=>yyn a0 x=some r) (fun x2 h=>?_) ?_
 ·unfold yyn at h
  refine yib (kG [dP 0 a0,vL 8 27 eRt x2,pB 46 (decide ((x2.length:Int)>4097))] [hN 1 x2] (A1 (lF eRt x2)) ?_)
  refine kI h (fun hc2_2 h=>?_) (fun hc2_2 h=>?_)
  ·refine kG [vN 6 27,pB 7 false] [] trivial ?_
   refine yra (q_r ?_)
   obtain rfl:=oi h
   exact er [(.ov false (oN 27),6),(.p (.bool false),7)]
  refine yia (q_n (kG [dP 0 a0,vL 8 27 eRt x2,vN 10 27] [] trivial ?_))
  refine ywb (J:=fun (x:(List Qr))=>[vL 10 27 eRt x]) (K:=fun x=>yor x=some r) (fun x4 h=>?_) ?_
  ·unfold yor at h
   refine kG [vL 6 27 eRt x4,pB 7 true] [] trivial ?_
   refine yra ?_
   obtain rfl:=oi h
   exact er [(.ov false [.sl (some 27) (x4.map eRt)],6),(.p (.bool true),7)]
  refine kG [dP 0 a0,vL 8 27 eRt x2,vN 10 27,rF 47 8,pL 48 x2,pI 49 0] [hN 1 x2] (A1 (lF eRt x2)) ?_
  refine yja ?_
  obtain⟨y6,hl_x5,hk_x5⟩:=bs h
  clear h
  refine yfd (J:=fun (x:((List Qr)×Int))=>[dP 0 a0,vL 8 27 eRt x2,vL 10 27 eRt x.1,rF 47 8,pL 48 x2,pI 49 x.2]) hl_x5 wkk (fun x5 o_x5 h hy_x5=>?_)
  unfold ysi at h
  refine kG [dP 0 a0,vL 8 27 eRt x2,vL 10 27 eRt x5.1,rF 47 8,pL 48 x2,pI 49 x5.2,pB 50 (decide (x5.2<(x2.length:Int)))] [] trivial ?_
  refine yib (kI h (fun hc5_6 h=>?_) (fun hc5_6 h=>?_))
  ·refine yia (q_n (yib (yja ?_)))
   obtain⟨v8,hv8,h⟩:=bs h
   refine kG [dP 0 a0,vL 8 27 eRt x2,vL 10 27 eRt x5.1,bR 12 v8,rF 47 8,pL 48 x2,pI 49 x5.2] [hR 0 (eRt v8),hR 1 (eRt v8)] (A3 (yba hv8).1 (yda eRt (yba hv8).2) (gW 27 eRt hv8)) ?_
   obtain⟨v9,hv9,h⟩:=bs h
   refine kG [dP 0 a0,vL 8 27 eRt x2,vL 10 27 eRt x5.1,bR 13 v9.1,pB 14 v9.2,rF 47 8,pL 48 x2,pI 49 x5.2] [hC 2 [.p (vRt v9.1),.p (.bool v9.2)]] (A1 (yiu hv9)) ?_
   refine yib (kG [dP 0 a0,vL 8 27 eRt x2,vL 10 27 eRt x5.1,bR 13 v9.1,rF 47 8,pL 48 x2,pI 49 x5.2,pB 60 (!v9.2)] [] trivial ?_)
   refine kI h (fun hc7_9 h=>?_) (fun hc7_9 h=>?_)
   ·refine kG [vN 6 27,pB 7 false] [] trivial ?_
    refine yra (q_r (b_r (q_r (lq_r ?_))))
    refine b_r (q_r ?_)
    have hyy:=hy_x5 _ (oi h).symm
    subst hyy
    have h:=hk_x5
    dsimp only[Sum.elim] at h
    obtain rfl:=oi h
    exact er [(.ov false (oN 27),6),(.p (.bool false),7)]
   refine yia (q_n ?_)
   obtain⟨u11,hu11,h⟩:=bs h
   refine yrc (r_gq [dP 0 a0,vL 8 27 eRt x2,vL 10 27 eRt (x5.1++[v9.1]),rF 47 8,pL 48 x2,pI 49 x5.2] [(3,{fix:=some (vL 64 27 eRt (x5.1++[v9.1]))})] (A3 (lG' eRt hu11) (show ∀ row∈((([v9.1]).map eRt):List (List C)),row.length=2 from(ynb fun _=>rfl)) (aP' 27 eRt x5.1 ([v9.1])))) ?_
   refine b_n (q_n (yrc (r_gq [dP 0 a0,vL 8 27 eRt x2,vL 10 27 eRt (x5.1++[v9.1]),rF 47 8,pL 48 x2,pI 49 (w64 (x5.2+1))] [] trivial) ?_))
   exact lqn ((x5.1++[v9.1]),(w64 (x5.2+1))) h
  refine yzc (q_x (lq_x (b_x ?_)))
  have hyy:=hy_x5 _ (oi h).symm
  subst hyy
  have h:=hk_x5
  dsimp only[Sum.elim] at h
  refine q_n ?_
  exact jx x5.1 h
 refine kG [dP 0 a0,dL 1 eRt a1,dL 2 eRt a2,vL 8 27 eRt ([v1]),pI 9 1] [] trivial ?_
 refine yja ?_
 obtain⟨y13,hl_x12,hk_x12⟩:=bs h
 clear h
 refine yfd (J:=fun (x:((List Qr)×Int))=>[dP 0 a0,dL 1 eRt a1,dL 2 eRt a2,vL 8 27 eRt x.1,pI 9 x.2]) hl_x12 wkk (fun x12 o_x12 h hy_x12=>?_)
 unfold yug at h
 refine yib (kG [dP 0 a0,dL 1 eRt a1,dL 2 eRt a2,vL 8 27 eRt x12.1,pI 9 x12.2,pB 22 (decide (x12.2<(a2.length:Int)))] [hN 2 a2] (A1 (lF eRt a2)) ?_)
 refine kI h (fun hc5_13 h=>?_) (fun hc5_13 h=>?_)
 ·refine yia (q_n (yib (yja ?_)))
  obtain⟨v15,hv15,h⟩:=bs h
  obtain⟨v16,hv16,h⟩:=bs h
  obtain⟨v17,hv17,h⟩:=bs h
  obtain⟨u18,hu18,h⟩:=bs h
  obtain⟨u19,hu19,h⟩:=bs h
  refine yrc (r_dq yfa 18 [(0,8),(12,25),(4096,8),(4097,25)] [dP 0 a0,dL 1 eRt a1,dL 2 eRt a2,vL 8 27 eRt ((x12.1++v17)++[v16]),pI 9 x12.2] [hR 5 (eRt v15),hR 9 (eRt v16),(11,{call:=some (none,[rO 27 eRt v17],true),pre:=some (0,.u),fix:=some (dL 36 eRt v17)}),(12,{fix:=some (vL 37 27 eRt (x12.1++v17))}),hR 15 (eRt v16),(18,{fix:=some (vL 43 27 eRt ((x12.1++v17)++[v16]))})] (B6 (yba hv15).1 (yda eRt (yba hv15).2) (yba hv16).1 (yda eRt (yba hv16).2) (yny hv17) (sR' 27 v17) (B6 (show(SV.d false (eraR [.sl (some 27) (v17.map eRt)]):SV)=.d false [.sl none (v17.map eRt)] from(congrArg (fun z=>SV.d false z) (ybs (ywa (yyx er_I er_I)) rfl))) (lG' eRt hu18) (show ∀ row∈((v17.map eRt):List (List C)),row.length=2 from(ynb fun _=>rfl)) (aP' 27 eRt x12.1 v17) (yba hv16).1 (yda eRt (yba hv16).2) (A3 (lG' eRt hu19) (show ∀ row∈((([v16]).map eRt):List (List C)),row.length=2 from(ynb fun _=>rfl)) (aP' 27 eRt (x12.1++v17) ([v16])))))) ?_
  refine b_n (q_n (yrc (r_gq [dP 0 a0,dL 1 eRt a1,dL 2 eRt a2,vL 8 27 eRt ((x12.1++v17)++[v16]),pI 9 (w64 (x12.2+1))] [] trivial) ?_))
  exact lqn (((x12.1++v17)++[v16]),(w64 (x12.2+1))) h
 refine yzc (q_x (lq_x (b_x ?_)))
 have hyy:=hy_x12 _ (oi h).symm
 subst hyy
 have h:=hk_x12
 refine q_n ?_
 exact jx x12.1 h
theorem ykv {a0:(List Qp)} {a1:Int}  {r:((List Qr)×Bool)} (h:yhh a0 a1=some r):Meets Tryz.prog 86 [.d false (sP a0),wI a1] { vals:=[rO 27 eRt r.1,.p (.bool r.2)] }:=by
 refine mo Tryz.func86 [dP 0 a0,pI 1 a1] ?_
 unfold yhh at h
 refine kG [dP 0 a0,pI 1 a1] [] trivial ?_
 obtain⟨v1,hv1,h⟩:=bs h
 obtain⟨v2,hv2,h⟩:=bs h
 refine kG [dP 0 a0,pI 1 a1,vL 6 27 eRt ([v1,v2])] [hC 0 [.p (vRt v1)],hC 1 [.p (vRt v2)]] (A2 (yla hv1) (yla hv2)) ?_
 obtain⟨v3,hv3,h⟩:=bs h
 refine kG [dP 0 a0,pI 1 a1,vL 6 27 eRt ([v1,v2]),vL 7 27 eRt v3] [hC 1 [rO 27 eRt v3]] (A2 (ytb1 hv3) (sR' 27 v3)) ?_
 refine ywb (J:=fun (x:(List Qr))=>[vL 6 27 eRt x]) (K:=fun x=>ypr x=some r) (fun x4 h=>?_) ?_
 ·unfold ypr at h
  refine kG [vL 4 27 eRt x4,pB 5 true] [] trivial ?_
  refine yra ?_
  obtain rfl:=oi h
  exact er [(.ov false [.sl (some 27) (x4.map eRt)],4),(.p (.bool true),5)]
 refine yja ?_
 obtain⟨y6,hl_x5,hk_x5⟩:=bs h
 clear h
 refine yfd (J:=fun (x:(Int×(List Qr)))=>[dP 0 a0,pI 1 x.1,vL 6 27 eRt x.2,vL 7 27 eRt v3]) hl_x5 wkk (fun x5 o_x5 h hy_x5=>?_)
 unfold yll at h
 refine yib (kG [dP 0 a0,pI 1 x5.1,vL 6 27 eRt x5.2,vL 7 27 eRt v3,pB 16 (decide (x5.1>0))] [] trivial ?_)
 refine kI h (fun hc5_6 h=>?_) (fun hc5_6 h=>?_)
 ·refine yia (q_n (yib (yja ?_)))
  obtain⟨v8,hv8,h⟩:=bs h
  refine kG [dP 0 a0,pI 1 x5.1,vL 7 27 eRt v3,vL 8 27 eRt v8.1,pB 9 v8.2] [(3,(cS [.d false (sP a0),.d false [.sl none (v3.map eRt)],.d false [.sl none (x5.2.map eRt)]] [rO 27 eRt v8.1,.p (.bool v8.2)]))] (A3 (show([.d false (sP a0),.d false [.sl none (eraL (v3.map eRt))],.d false [.sl none (eraL (x5.2.map eRt))]]:List Arg)=[.d false (sP a0),.d false [.sl none (v3.map eRt)],.d false [.sl none (x5.2.map eRt)]] from(by simp only[ywa (h:=eRt) (yyx er_I er_I),ywa (h:=eRt) (yyx er_I er_I)])) (yfd1 hv8) (show List.all [rO 27 eRt v8.1,.p (.bool v8.2)] simpleR=true from(sa_o (wnR1 (ysc (wn_P wn_I wn_I)) rfl) (sa_p rfl)))) ?_
  refine yib (kG [dP 0 a0,pI 1 x5.1,vL 7 27 eRt v3,vL 8 27 eRt v8.1,pB 27 (!v8.2)] [] trivial ?_)
  refine kI h (fun hc7_8 h=>?_) (fun hc7_8 h=>?_)
  ·refine kG [vN 4 27,pB 5 false] [] trivial ?_
   refine yra (q_r (b_r (q_r (lq_r ?_))))
   refine b_r (q_r ?_)
   have hyy:=hy_x5 _ (oi h).symm
   subst hyy
   have h:=hk_x5
   dsimp only[Sum.elim] at h
   obtain rfl:=oi h
   exact er [(.ov false (oN 27),4),(.p (.bool false),5)]
  refine yia (q_n (yrc (r_gq [dP 0 a0,pI 1 x5.1,vL 6 27 eRt v8.1,vL 7 27 eRt v3] [] trivial) ?_))
  refine b_n (q_n (yrc (r_gq [dP 0 a0,pI 1 (w64 (x5.1-1)),vL 6 27 eRt v8.1,vL 7 27 eRt v3] [] trivial) ?_))
  exact lqn ((w64 (x5.1-1)),v8.1) h
 refine yzc (q_x (lq_x (b_x ?_)))
 have hyy:=hy_x5 _ (oi h).symm
 subst hyy
 have h:=hk_x5
 dsimp only[Sum.elim] at h
 refine q_n ?_
 exact jx x5.2 h
theorem yoy {a0:(List Qp)} {a1:Int}  {r:(Int×Bool)} (h:yld a0 a1=some r):Meets Tryz.prog 27 [.d false (sP a0),wI a1] { vals:=[.p (iV r.1),.p (.bool r.2)] }:=by
 refine mo Tryz.func27 [dP 0 a0,pI 1 a1] ?_
 unfold yld at h
 refine kG [dP 0 a0,pI 1 a1] [] trivial ?_
 refine yib ?_
 obtain⟨v1,hv1,h⟩:=bs h
 refine kG [dP 0 a0,pI 1 a1,pB 11 (!v1)] [hC 2 [.p (.bool v1)]] (A1 (yxt hv1)) ?_
 refine kI h (fun hc2_1 h=>?_) (fun hc2_1 h=>?_)
 ·refine kG [pI 4 0,pB 5 false] [] trivial ?_
  refine yra (q_r ?_)
  obtain rfl:=oi h
  exact er [(.p (iV 0),4),(.p (.bool false),5)]
 refine yia (q_n ?_)
 obtain⟨v3,hv3,h⟩:=bs h
 refine kG [vL 6 27 eRt v3.1,pB 7 v3.2] [hC 2 [rO 27 eRt v3.1,.p (.bool v3.2)]] (A2 (ykv hv3) (show List.all [rO 27 eRt v3.1,.p (.bool v3.2)] simpleR=true from(sa_o (wnR1 (ysc (wn_P wn_I wn_I)) rfl) (sa_p rfl)))) ?_
 refine yib (kG [vL 6 27 eRt v3.1,pB 19 (!v3.2)] [] trivial ?_)
 refine kI h (fun hc2_3 h=>?_) (fun hc2_3 h=>?_)
 ·refine kG [pI 4 0,pB 5 false] [] trivial ?_
  refine yra (q_r ?_)
  obtain rfl:=oi h
  exact er [(.p (iV 0),4),(.p (.bool false),5)]
 refine yia (q_n (kG [pI 4 (w64 ((v3.1.length:Int)-1)),pB 5 true] [hN 1 v3.1] (A1 (lF eRt v3.1)) ?_))
 refine yra ?_
 obtain rfl:=oi h
 exact er [(.p (iV (w64 ((v3.1.length:Int)-1))),4),(.p (.bool true),5)]
theorem ylv   {r:(List Qp)} (h:ysl =some r):Meets Tryz.prog 100 [] { vals:=[.ov false (oP 85 r)] }:=by
 refine mo Tryz.func100 [] ?_
 unfold ysl at h
 refine kG [] [] trivial ?_
 obtain⟨v1,hv1,h⟩:=bs h
 obtain⟨v2,hv2,h⟩:=bs h
 obtain⟨v3,hv3,h⟩:=bs h
 obtain⟨v4,hv4,h⟩:=bs h
 refine kG [vP 0 85 ([(v1,v2),(v3,v4)])] [hC 0 [.p (vRt v1)],hC 1 [.p (vRt v2)],hC 3 [.p (vRt v3)],hC 4 [.p (vRt v4)]] (A4 (ybe hv1) (ybe hv2) (yki hv3) (yki hv4)) ?_
 refine yra ?_
 obtain rfl:=oi h
 exact er [(.ov false (oP 85 ([(v1,v2),(v3,v4)])),0)]
theorem ypy {a0:Bool} {a1:Qp} {a2:Qp} {a3:Qr}  {r:(Qr×Bool)} (h:yal a0 a1 a2 a3=some r):MeetsB Tryz.prog 177 (.box [.raw (.bool a0)]) [.v (vPt a1),.v (vPt a2),.v (vRt a3)] [.p (vRt r.1)] (.box [.raw (.bool r.2)]):=by
 refine mob Tryz.func177 [bX 0 [.raw (.bool a0)],(1,.p (vPt a1)),(2,.p (vPt a2)),(3,.p (vRt a3))] ?_
 unfold yal at h
 refine kG [bX 0 [.raw (.bool a0)],bP 5 a1,bP 6 a2,bR 7 a3,bX 8 zR] [] trivial ?_
 obtain⟨v1,hv1,h⟩:=bs h
 obtain⟨v2,hv2,h⟩:=bs h
 obtain⟨v3,hv3,h⟩:=bs h
 obtain⟨v4,hv4,h⟩:=bs h
 refine ylb (r_dq yfa 14 [(8,0),(12,0),(13,0)] [bX 0 [.raw (.bool v4.2)],bR 8 v4.1] [hT 8 [.p (vRt v1.1)] (.box [.raw (.bool v1.2)]),hT 12 [.p (vRt v2.1)] (.box [.raw (.bool v2.2)]),hT 13 [.p (vRt v3.1)] (.box [.raw (.bool v3.2)]),hT 14 [.p (vRt v4.1)] (.box [.raw (.bool v4.2)])] (A4 (yuh hv1) (ycm hv2) (yjs hv3) (ymo hv4))) ?_
 refine yra ?_
 obtain rfl:=oi h
 exact ebr [(.p (vRt v4.1),8)]
theorem ycj {a0:List Qr} {r:List Qr} (h:ysb a0=some r):MeetsB Tryz.prog 198 (.ov false [.sl (some 27) (a0.map eRt)]) [.v (.func (.func 95) #[] #[])] [] (.ov false [.sl (some 27) (r.map eRt)]):=by
 unfold ysb at h
 obtain⟨u1,hu1,h⟩:=bind_some' h
 have hg:=ycb hu1
 obtain rfl:=Option.some.inj h
 exact meets_sortS hg.2 (Nat.lt_of_le_of_lt hg.1 (by decide))
theorem ywj {a0:List Qr} {r:List Qr} (h:yvb a0=some r):MeetsB Tryz.prog 199 (.ov false [.sl (some 27) (a0.map eRt)]) [] [rO 27 eRt r] .u:=by
 unfold yvb at h
 obtain rfl:=Option.some.inj h
 exact meets_compactS
theorem ymv {a0:(List Qr)}  {r:(List Qr)} (h:ykm a0=some r):MeetsB Tryz.prog 178 (.ov false [.sl (some 27) (a0.map eRt)]) [] [rO 27 eRt r] (.u):=by
 refine mob Tryz.func178 [vL 0 27 eRt a0] ?_
 unfold ykm at h
 refine kG [vL 0 27 eRt a0] [] trivial ?_
 obtain⟨v1,hv1,h⟩:=bs h
 refine kG [vL 0 27 eRt v1] [(1,{lend:=some (none,[],.ov false [.sl (some 27) (v1.map eRt)],true)})] (A2 (ycj hv1) (show(List.all [] simpleR&&wnS (.ov false [.sl (some 27) (v1.map eRt)]))=true from(ls_t rfl (wnR1 (ysc (wn_P wn_I wn_I)) rfl)))) ?_
 obtain⟨v2,hv2,h⟩:=bs h
 refine kG [vL 2 27 eRt v2] [(1,{lend:=some (none,[rO 27 eRt v2],.u,true)})] (A2 (ywj hv2) (sR' 27 v2)) ?_
 refine yra ?_
 obtain rfl:=oi h
 exact ebr [(.ov false [.sl (some 27) (v2.map eRt)],2)]
theorem ynv {a0:Bool} {a1:(List Qp)} {a2:Qr}  {r:((List Qr)×Bool)} (h:yge a0 a1 a2=some r):MeetsB Tryz.prog 147 (.box [.raw (.bool a0)]) [.d false (sP a1),.v (vRt a2)] [rO 27 eRt r.1] (.box [.raw (.bool r.2)]):=by
 refine mob Tryz.func147 [bX 0 [.raw (.bool a0)],dP 1 a1,(2,.p (vRt a2))] ?_
 unfold yge at h
 refine kG [bX 0 [.raw (.bool a0)],dP 1 a1,bR 5 a2] [] trivial ?_
 refine kG [bX 0 [.raw (.bool a0)],dP 1 a1,bR 5 a2,vN 7 27] [] trivial ?_
 refine ywb (J:=fun (x:(Bool×(List Qr)))=>[bX 0 [.raw (.bool x.1)],vL 7 27 eRt x.2]) (K:=fun x=>yph x=some r) (fun x1 h=>?_) ?_
 ·unfold yph at h
  obtain⟨v2,hv2,h⟩:=bs h
  refine kG [bX 0 [.raw (.bool x1.1)],vL 6 27 eRt v2] [(1,{lend:=some (none,[rO 27 eRt v2],.u,true)})] (A2 (ymv hv2) (sR' 27 v2)) ?_
  refine yra ?_
  obtain rfl:=oi h
  exact ebr [(.ov false [.sl (some 27) (v2.map eRt)],6)]
 refine kG [bX 0 [.raw (.bool a0)],dP 1 a1,bR 5 a2,vN 7 27,dP 10 a1,pL 11 a1,pI 12 0] [hN 1 a1] (A1 (lnP a1)) ?_
 refine yja ?_
 obtain⟨y4,hl_x3,hk_x3⟩:=bs h
 clear h
 refine yfd (J:=fun (x:(Bool×(List Qr)×Int))=>[bX 0 [.raw (.bool x.1)],dP 1 a1,bR 5 a2,vL 7 27 eRt x.2.1,dP 10 a1,pL 11 a1,pI 12 x.2.2]) hl_x3 wkk (fun x3 o_x3 h hy_x3=>?_)
 unfold ytl at h
 refine kG [bX 0 [.raw (.bool x3.1)],dP 1 a1,bR 5 a2,vL 7 27 eRt x3.2.1,dP 10 a1,pL 11 a1,pI 12 x3.2.2,pB 13 (decide (x3.2.2<(a1.length:Int)))] [] trivial ?_
 refine yib (kI h (fun hc5_4 h=>?_) (fun hc5_4 h=>?_))
 ·refine yia (q_n (yib (yja ?_)))
  obtain⟨v6,hv6,h⟩:=bs h
  refine kG [bX 0 [.raw (.bool x3.1)],dP 1 a1,bR 5 a2,vL 7 27 eRt x3.2.1,pI 8 x3.2.2,bP 9 v6,dP 10 a1,pL 11 a1,pI 12 x3.2.2] [hR 1 (ePt v6)] (A2 (yba hv6).1 (yda ePt (yba hv6).2)) ?_
  refine ywb (J:=fun (x:(List Qr))=>[bX 0 [.raw (.bool x3.1)],dP 1 a1,bR 5 a2,vL 7 27 eRt x,pI 8 x3.2.2,bP 9 v6,dP 10 a1,pL 11 a1,pI 12 x3.2.2]) (K:=fun x=>yqd a1 a2 x3 v6 x=some o_x3) (fun x7 h=>?_) ?_
  ·unfold yqd at h
   obtain⟨w11,hw11,h⟩:=bs h
   refine ylb (l1:=[bX 0 [.raw (.bool x3.1)],dP 1 a1,bR 5 a2,vL 7 27 eRt x7,pI 8 x3.2.2,bP 9 v6,dP 10 a1,pL 11 a1,pI 12 x3.2.2,pB 43 w11]) ?_ ?_
   ·clear h
    rcases ft (decide (x3.2.2>0)) with ha1 | ha1
    ·obtain⟨v8,hv8,hw11⟩:=bs (yon ha1 hw11)
     obtain⟨v9,hv9,hw11⟩:=bs hw11
     obtain⟨v10,hv10,hw11⟩:=bs hw11
     have hw11:=oi hw11
     subst hw11
     exact(r_dq yfa 14 [] [bX 0 [.raw (.bool x3.1)],dP 1 a1,bR 5 a2,vL 7 27 eRt x7,pI 8 x3.2.2,bP 9 v6,dP 10 a1,pL 11 a1,pI 12 x3.2.2,pB 43 (decide ((w64 (v9*v10))<0))] [(3,gT),(4,gT),(5,gT),(6,{g:=some true,row:=some (ePt v8)}),(7,gT),(8,gT),(9,gT),(10,{g:=some true,call:=some (none,[.p (iV v9)],true)}),(11,gT),(12,gT),(13,gT),(14,{g:=some true,call:=some (none,[.p (iV v10)],true)}),(15,gT),(16,gT),(17,bT)] (B6 ha1 ha1 ha1 ha1 (yba hv8).1 (yda ePt (yba hv8).2) (B6 ha1 ha1 ha1 ha1 (ynm hv9) ha1 (B6 ha1 ha1 ha1 (ynm hv10) ha1 ha1 (A1 ha1)))))
    replace hw11:=ypn ha1 hw11
    have hw11:=oi hw11
    subst hw11
    exact(r_dq yfa 14 [] [bX 0 [.raw (.bool x3.1)],dP 1 a1,bR 5 a2,vL 7 27 eRt x7,pI 8 x3.2.2,bP 9 v6,dP 10 a1,pL 11 a1,pI 12 x3.2.2,pB 43 false] [(3,gF),(4,gF),(5,gF),(6,gF),(7,gF),(8,gF),(9,gF),(10,gF),(11,gF),(12,gF),(13,gF),(14,gF),(15,gF),(16,gF),(17,bF)] (B6 ha1 ha1 ha1 ha1 ha1 ha1 (B6 ha1 ha1 ha1 ha1 ha1 ha1 (A3 ha1 ha1 ha1))))
   refine kI h (fun hc6_11 h=>?_) (fun hc6_11 h=>?_)
   ·obtain⟨v13,hv13,h⟩:=bs h
    obtain⟨v14,hv14,h⟩:=bs h
    obtain⟨u15,hu15,h⟩:=bs h
    refine yrc (r_dq yfa 11 [(9,0)] [bX 0 [.raw (.bool v14.2)],dP 1 a1,bR 5 a2,vL 7 27 eRt (x7++[v14.1]),dP 10 a1,pL 11 a1,pI 12 x3.2.2] [hR 5 (ePt v13),hT 9 [.p (vRt v14.1)] (.box [.raw (.bool v14.2)]),(11,{fix:=some (vL 55 27 eRt (x7++[v14.1]))})] (A6 (yba hv13).1 (yda ePt (yba hv13).2) (ypy hv14) (lG' eRt hu15) (show ∀ row∈((([v14.1]).map eRt):List (List C)),row.length=2 from(ynb fun _=>rfl)) (aP' 27 eRt x7 ([v14.1])))) ?_
    refine b_n (q_n (yrc (r_gq [bX 0 [.raw (.bool v14.2)],dP 1 a1,bR 5 a2,vL 7 27 eRt (x7++[v14.1]),dP 10 a1,pL 11 a1,pI 12 (w64 (x3.2.2+1))] [] trivial) ?_))
    exact lqn (v14.2,(x7++[v14.1]),(w64 (x3.2.2+1))) h
   refine yia (b_n (q_n (yrc (r_gq [bX 0 [.raw (.bool x3.1)],dP 1 a1,bR 5 a2,vL 7 27 eRt x7,dP 10 a1,pL 11 a1,pI 12 (w64 (x3.2.2+1))] [] trivial) ?_)))
   exact lqn (x3.1,x7,(w64 (x3.2.2+1))) h
  refine kG [bX 0 [.raw (.bool x3.1)],dP 1 a1,bR 5 a2,vL 7 27 eRt x3.2.1,pI 8 x3.2.2,bP 9 v6,dP 10 a1,pL 11 a1,pI 12 x3.2.2,pB 20 ((v6.2.1==a2.1)&&(v6.2.2==a2.2))] [(3,{pv:=some (.bool ((v6.2.1==a2.1)&&(v6.2.2==a2.2)))})] (A1 (show PureAt Tryz.prog (.binOp .eql 27 (.tmp 18) (.tmp 19) 27) [vRt v6.2,vRt a2] (.bool ((v6.2.1==a2.1)&&(v6.2.2==a2.2))) from(yxb (by kernel_rfl)))) ?_
  refine kI h (fun hc7_15 h=>?_) (fun hc7_15 h=>?_)
  ·obtain⟨u17,hu17,h⟩:=bs h
   refine yrc (r_gq [bX 0 [.raw (.bool x3.1)],dP 1 a1,bR 5 a2,vL 7 27 eRt (x3.2.1++[v6.1]),pI 8 x3.2.2,bP 9 v6,dP 10 a1,pL 11 a1,pI 12 x3.2.2] [(4,{fix:=some (vL 25 27 eRt (x3.2.1++[v6.1]))})] (A3 (lG' eRt hu17) (show ∀ row∈((([v6.1]).map eRt):List (List C)),row.length=2 from(ynb fun _=>rfl)) (aP' 27 eRt x3.2.1 ([v6.1])))) ?_
   refine q_n ?_
   exact jx (x3.2.1++[v6.1]) h
  refine yia (q_n ?_)
  exact jx x3.2.1 h
 refine yzc (q_x (lq_x (b_x ?_)))
 have hyy:=hy_x3 _ (oi h).symm
 subst hyy
 have h:=hk_x3
 refine q_n ?_
 exact jx (x3.1,x3.2.1) h
theorem ycx {a0:Qr} {a1:Bool} {a2:(List Qp)} {a3:(List Qp)} {r:(Qr×Bool)} (h:ypf a0 a1 a2 a3=some r):TakesR Tryz.prog 150 (vRt a0) a1 r.2 (sP a2) (sP a3) (vRt r.1):=by
 refine ypp1 Tryz.func150 ?_
 unfold ypf at h
 refine kG [bX 1 [.raw (.bool a1)],(2,.d false [.pt (sP a2)]),(3,.d false [.pt (sP a3)]),bR 4 a0,bX 5 zR] [] trivial ?_
 obtain⟨v1,hv1,h⟩:=bs h
 obtain⟨v2,hv2,h⟩:=bs h
 refine ylb (r_dq yfa 4 [(3,1)] [bX 1 [.raw (.bool v2.2)],bR 5 v2.1] [hT 3 [.p (vRt v1.1)] (.box [.raw (.bool v1.2)]),hT 4 [.p (vRt v2.1)] (.box [.raw (.bool v2.2)])] (A2 (ytf hv1) (ytf hv2))) ?_
 refine yra ?_
 obtain rfl:=oi h
 exact⟨trivial,⟨5,by kernel_rfl⟩,by kernel_rfl⟩
theorem yda1 {a0:(List Qr)} {a1:Bool} {f g:(List Qp)} {r:((List Qp)×Bool)} (h:yqp a0 a1 f g=some r):MeetsD Tryz.prog 149 (.ov false [.sl (some 27) (a0.map eRt)]) 150 (sP f) (sP g) a1 r.2 [.ov false (oP 85 r.1)]:=by
 refine yqp1 Tryz.func149 (fun b1 b2 b3 w00 A00 I00=>?_)
 unfold yqp at h
 refine yrj1 (r_gq [vL 0 27 eRt a0,(1,.p (clR 150 b1 b2 b3))] [] trivial) ?_
 refine yrj1 (r_gq [vL 0 27 eRt a0,(1,.p (clR 150 b1 b2 b3)),vN 5 85] [] trivial) ?_
 refine ysy1 ?_
 obtain⟨v2,hv2,h⟩:=bs h
 refine yrj1 (r_gq [(1,.p (clR 150 b1 b2 b3)),vN 5 85,vL 9 27 eRt v2,pL 10 v2,pI 11 0] [(1,{lend:=some (none,[rO 27 eRt v2],.u,true)}),hN 2 v2] (A3 (ymv hv2) (sR' 27 v2) (lF eRt v2))) ?_
 refine ypr1 ?_
 refine yca2 (J:=fun (x:((List Qp)×Int×Bool))=>[(1,.p (clR 150 b1 b2 b3)),vP 5 85 x.1,vL 9 27 eRt v2,pL 10 v2,pI 11 x.2.1]) (m:=fun x=>x.2.2) h wkk rfl (fun x3 o3 h hy=>?_)
 unfold yul at h
 refine yrj1 (r_gq [(1,.p (clR 150 b1 b2 b3)),vP 5 85 x3.1,vL 9 27 eRt v2,pL 10 v2,pI 11 x3.2.1,pB 12 (decide (x3.2.1<(v2.length:Int)))] [] trivial) ?_
 refine ysy1 ?_
 refine yba2 (decide (x3.2.1<(v2.length:Int))) (fun hc=>?_) (fun hc=>?_)
 ·replace h:=yon hc h
  refine yga2 ?_
  refine dq_n ?_
  refine ysy1 ?_
  refine ypr1 ?_
  obtain⟨v6,hv6,h⟩:=bs h
  refine yrj1 (r_gq [(1,.p (clR 150 b1 b2 b3)),vP 5 85 x3.1,bR 7 v6,vL 9 27 eRt v2,pL 10 v2,pI 11 x3.2.1] [hR 0 (eRt v6),hR 1 (eRt v6)] (A3 (yba hv6).1 (yda eRt (yba hv6).2) (gW 27 eRt hv6))) ?_
  obtain⟨v7,hv7,h⟩:=bs h
  obtain⟨u8,hu8,h⟩:=bs h
  refine yib2 (c:=4) (d:=19) (fs:=17) (ar:=18) (f:=150) yfa [(1,.p (clR 150 b1 b2 b3)),vP 5 85 (x3.1++[(v6,v7.1)]),vL 9 27 eRt v2,pL 10 v2,pI 11 x3.2.1] 3 [(7,{fix:=some (vP 22 85 (x3.1++[(v6,v7.1)]))})] (B6 (show(.p (clR 150 b1 b2 b3):SV)=.p (clR 150 b1 b2 b3) from rfl) (show(.p (vRt v6):SV)=.p (vRt v6) from rfl) (lG' ePt hu8) (show ∀ row∈((([(v6,v7.1)]).map ePt):List (List C)),row.length=4 from(ynb fun _=>rfl)) (aP' 85 ePt x3.1 ([(v6,v7.1)])) (show(.p (clR 150 b1 b2 b3):SV)=.p (clR 150 b1 b2 b3) from rfl) (B6 (show(.p (vRt v6):SV)=.p (vRt v6) from rfl) (lG' ePt hu8) (show ∀ row∈((([(v6,v7.1)]).map ePt):List (List C)),row.length=4 from(ynb fun _=>rfl)) (aP' 85 ePt x3.1 ([(v6,v7.1)])) (show(.p (clR 150 b1 b2 b3):SV)=.p (clR 150 b1 b2 b3) from rfl) (show(.p (vRt v6):SV)=.p (vRt v6) from rfl) (A3 (lG' ePt hu8) (show ∀ row∈((([(v6,v7.1)]).map ePt):List (List C)),row.length=4 from(ynb fun _=>rfl)) (aP' 85 ePt x3.1 ([(v6,v7.1)]))))) (ycx hv7) ?_ rfl ⟨rfl,rfl,rfl⟩
  refine db_n ?_
  refine dq_n ?_
  refine yjb2 (r_gq [(1,.p (clR 150 b1 b2 b3)),vP 5 85 (x3.1++[(v6,v7.1)]),vL 9 27 eRt v2,pL 10 v2,pI 11 (w64 (x3.2.1+1))] [] trivial) ?_
  exact⟨_,(oi h).symm,yry1 (by kernel_rfl) (by kernel_rfl),rfl⟩
 replace h:=ypn hc h
 refine yha2 ?_
 refine dq_x ?_
 refine dq_x ?_
 refine db_x ?_
 have hyy:=hy _ (oi h).symm
 subst hyy
 refine dq_n ?_
 refine yrj1 (r_gq [vP 4 85 x3.1] [] trivial) ?_
 refine ykb2 ?_
 exact⟨rfl,[(RV.ov false (oP 85 x3.1),4)],by kernel_rfl,by kernel_rfl,rfl⟩
theorem ygd1 {a0:Qp}  {r:Bool} (h:yti a0=some r):Meets Tryz.prog 200 [.v (vPt a0)] { vals:=[.p (.bool r)] }:=by
 refine mo Tryz.func200 [(0,.p (vPt a0))] ?_
 unfold yti at h
 refine kG [bP 1 a0] [] trivial ?_
 refine ylb (l1:=[pB 2 ((decide (a0.1.2>100))||(decide (a0.2.2>100)))]) ?_ ?_
 ·rcases ft (decide (a0.1.2>100)) with ha0 | ha0
  ·exact RegOk.of_eq (r_gq [pB 2 true] [(5,gT),(6,gT),(7,gT),(8,gT),(9,bT)] (A5 ha0 ha0 ha0 ha0 ha0)) (by simp[ha0])
  exact RegOk.of_eq (r_gq [pB 2 (decide (a0.2.2>100))] [(5,gF),(6,gF),(7,gF),(8,gF),(9,bF)] (A5 ha0 ha0 ha0 ha0 ha0)) (by simp[ha0])
 refine yra ?_
 obtain rfl:=oi h
 exact er [(.p (.bool ((decide (a0.1.2>100))||(decide (a0.2.2>100)))),2)]
theorem yhd1 {a0:(List Qp)}  {r:(List Qp)} (h:ywq a0=some r):Meets Tryz.prog 201 [.d false (sP a0)] { vals:=[.ov false (oP 85 r)] }:=by
 refine mo Tryz.func201 [dP 0 a0] ?_
 unfold ywq at h
 refine kG [dP 0 a0] [] trivial ?_
 obtain⟨v1,hv1,h⟩:=bs h
 refine kG [dP 0 a0,vL 3 27 eRt v1] [hC 1 [rO 27 eRt v1]] (A2 (ydr hv1) (sR' 27 v1)) ?_
 obtain⟨v2,hv2,h⟩:=bs h
 refine kG [dP 0 a0,vL 3 27 eRt v1,vP 4 85 ([v2])] [hR 1 (ePt v2)] (A2 (yba hv2).1 (yda ePt (yba hv2).2)) ?_
 refine ywb (J:=fun (x:(List Qp))=>[dP 0 a0,vP 4 85 x]) (K:=fun x=>yzn a0 x=some r) (fun x3 h=>?_) ?_
 ·unfold yzn at h
  obtain⟨v4,hv4,h⟩:=bs h
  obtain⟨u5,hu5,h⟩:=bs h
  refine kG [vP 2 85 (x3++[v4])] [hN 3 a0,hR 5 (ePt v4),(8,{fix:=some (vP 44 85 (x3++[v4]))})] (A6 (lnP a0) (yba hv4).1 (yda ePt (yba hv4).2) (lG' ePt hu5) (show ∀ row∈((([v4]).map ePt):List (List C)),row.length=4 from(ynb fun _=>rfl)) (aP' 85 ePt x3 ([v4]))) ?_
  refine yra ?_
  obtain rfl:=oi h
  exact er [(.ov false (oP 85 (x3++[v4])),2)]
 refine kG [dP 0 a0,vL 3 27 eRt v1,vP 4 85 ([v2]),pI 5 1] [] trivial ?_
 refine yja ?_
 obtain⟨y7,hl_x6,hk_x6⟩:=bs h
 clear h
 refine yfd (J:=fun (x:((List Qp)×Int))=>[dP 0 a0,vL 3 27 eRt v1,vP 4 85 x.1,pI 5 x.2]) hl_x6 wkk (fun x6 o_x6 h hy_x6=>?_)
 unfold yui at h
 refine yib (kG [dP 0 a0,vL 3 27 eRt v1,vP 4 85 x6.1,pI 5 x6.2,pB 16 (decide (x6.2<(w64 ((a0.length:Int)-1))))] [hN 2 a0] (A1 (lnP a0)) ?_)
 refine kI h (fun hc5_7 h=>?_) (fun hc5_7 h=>?_)
 ·refine yia (q_n (yib (yja ?_)))
  obtain⟨v9,hv9,h⟩:=bs h
  obtain⟨v10,hv10,h⟩:=bs h
  refine ylb (r_dq yfa 9 [] [dP 0 a0,vL 3 27 eRt v1,vP 4 85 x6.1,pI 5 x6.2,pB 28 (nR v9 v10)] [hR 3 (eRt v9),hR 4 (eRt v9),hR 7 (eRt v10),hR 8 (eRt v10),(9,{pv:=some (.bool (nR v9 v10))})] (B6 (yba hv9).1 (yda eRt (yba hv9).2) (gW 27 eRt hv9) (yba hv10).1 (yda eRt (yba hv10).2) (gW 27 eRt hv10) (A1 (show PureAt Tryz.prog (.binOp .neq 27 (.tmp 23) (.tmp 27) 27) [vRt v9,vRt v10] (.bool (nR v9 v10)) from(yji (by kernel_rfl)))))) ?_
  refine kI h (fun hc6_10 h=>?_) (fun hc6_10 h=>?_)
  ·obtain⟨v12,hv12,h⟩:=bs h
   obtain⟨u13,hu13,h⟩:=bs h
   refine yrc (r_gq [dP 0 a0,vL 3 27 eRt v1,vP 4 85 (x6.1++[v12]),pI 5 x6.2] [hR 3 (ePt v12),(6,{fix:=some (vP 35 85 (x6.1++[v12]))})] (A5 (yba hv12).1 (yda ePt (yba hv12).2) (lG' ePt hu13) (show ∀ row∈((([v12]).map ePt):List (List C)),row.length=4 from(ynb fun _=>rfl)) (aP' 85 ePt x6.1 ([v12])))) ?_
   refine b_n (q_n (yrc (r_gq [dP 0 a0,vL 3 27 eRt v1,vP 4 85 (x6.1++[v12]),pI 5 (w64 (x6.2+1))] [] trivial) ?_))
   exact lqn ((x6.1++[v12]),(w64 (x6.2+1))) h
  refine yia (b_n (q_n (yrc (r_gq [dP 0 a0,vL 3 27 eRt v1,vP 4 85 x6.1,pI 5 (w64 (x6.2+1))] [] trivial) ?_)))
  exact lqn (x6.1,(w64 (x6.2+1))) h
 refine yzc (q_x (lq_x (b_x ?_)))
 have hyy:=hy_x6 _ (oi h).symm
 subst hyy
 have h:=hk_x6
 refine q_n ?_
 exact jx x6.1 h
theorem yzg1 {a0:(List Qp)}  {r:((List Qp)×Bool)} (h:ymt a0=some r):Meets Tryz.prog 179 [.d false (sP a0)] { vals:=[.ov false (oP 85 r.1),.p (.bool r.2)] }:=by
 refine mo Tryz.func179 [dP 0 a0] ?_
 unfold ymt at h
 refine kG [dP 0 a0] [] trivial ?_
 refine yib ?_
 obtain⟨v1,hv1,h⟩:=bs h
 refine kG [dP 0 a0,pB 6 v1] [hC 1 [.p (.bool v1)]] (A1 (show Meets Tryz.prog 118 ([.d false (sP a0),.v (.func (.func 200) #[] #[])]++[]) { vals:=[.p (.bool v1)] } from(ykc (fun x0 y hy=>ygd1 hy) hv1))) ?_
 refine kI h (fun hc2_1 h=>?_) (fun hc2_1 h=>?_)
 ·refine kG [vN 2 85,pB 3 false] [] trivial ?_
  refine yra (q_r ?_)
  obtain rfl:=oi h
  exact er [(.ov false (oN 85),2),(.p (.bool false),3)]
 refine yia (q_n ?_)
 obtain⟨v3,hv3,h⟩:=bs h
 refine kG [vP 4 85 v3] [hC 1 [.ov false (oP 85 v3)]] (A2 (yhd1 hv3) (show List.all [.ov false (oP 85 v3)] simpleR=true from(sa_o (wnR1 (ysc (wn_P (wn_P wn_I wn_I) (wn_P wn_I wn_I))) rfl) rfl))) ?_
 obtain⟨v4,hv4,h⟩:=bs h
 refine kG [vP 2 85 v3,pB 3 v4] [(2,(cS [.d false (sP v3)] [.p (.bool v4)]))] (A2 (show([.d false [.sl none (eraL (v3.map ePt))]]:List Arg)=[.d false (sP v3)] from(by simp only[erPt])) (yve hv4)) ?_
 refine yra ?_
 obtain rfl:=oi h
 exact er [(.ov false (oP 85 v3),2),(.p (.bool v4),3)]
theorem yov {a0:Bool} {a1:(List Qp)}  {r:((List Qp)×Bool×Bool)} (h:ywc a0 a1=some r):MeetsB Tryz.prog 148 (.box [.raw (.bool a0)]) [.d false (sP a1)] [.ov false (oP 85 r.1),.p (.bool r.2.1)] (.box [.raw (.bool r.2.2)]):=by
 refine mob Tryz.func148 [bX 0 [.raw (.bool a0)],dP 1 a1] ?_
 unfold ywc at h
 refine kG [bX 0 [.raw (.bool a0)],dP 1 a1] [] trivial ?_
 refine yib (kG [bX 0 [.raw (.bool a0)],dP 1 a1,pB 11 a0] [] trivial ?_)
 refine kI h (fun hc2_0 h=>?_) (fun hc2_0 h=>?_)
 ·refine kG [bX 0 [.raw (.bool a0)],vN 4 85,pB 5 false] [] trivial ?_
  refine yra (q_r ?_)
  obtain rfl:=oi h
  exact ebr [(.ov false (oN 85),4),(.p (.bool false),5)]
 refine yia (q_n ?_)
 obtain⟨v2,hv2,h⟩:=bs h
 refine kG [bX 0 [.raw (.bool a0)],vP 6 85 v2.1,pB 7 v2.2] [hC 1 [.ov false (oP 85 v2.1),.p (.bool v2.2)]] (A2 (yzg1 hv2) (show List.all [.ov false (oP 85 v2.1),.p (.bool v2.2)] simpleR=true from(sa_o (wnR1 (ysc (wn_P (wn_P wn_I wn_I) (wn_P wn_I wn_I))) rfl) (sa_p rfl)))) ?_
 refine yib (kG [bX 0 [.raw (.bool a0)],vP 6 85 v2.1,pB 18 (!v2.2)] [] trivial ?_)
 refine kI h (fun hc2_2 h=>?_) (fun hc2_2 h=>?_)
 ·refine kG [bX 0 [.raw (.bool a0)],vN 4 85,pB 5 false] [] trivial ?_
  refine yra (q_r ?_)
  obtain rfl:=oi h
  exact ebr [(.ov false (oN 85),4),(.p (.bool false),5)]
 refine yia (q_n (kG [bX 0 [.raw (.bool a0)],vP 4 85 v2.1,pB 5 true] [] trivial ?_))
 refine yra ?_
 obtain rfl:=oi h
 exact ebr [(.ov false (oP 85 v2.1),4),(.p (.bool true),5)]
theorem yea1 {a0:(List Qp)} {a1:(List Qp)}  {r:((List Qp)×Bool)} (h:ygi a0 a1=some r):Meets Tryz.prog 101 [.d false (sP a0),.d false (sP a1)] { vals:=[.ov false (oP 85 r.1),.p (.bool r.2)] }:=by
 refine mo Tryz.func101 [dP 0 a0,dP 1 a1] ?_
 unfold ygi at h
 refine kG [bX 2 (sP a0),bX 3 (sP a1)] [] trivial ?_
 refine kG [bX 2 (sP a0),bX 3 (sP a1),bX 6 [.raw (.bool false)]] [] trivial ?_
 obtain⟨v1,hv1,h⟩:=bs h
 refine kG [bX 2 (sP a0),bX 3 (sP a1),bX 6 [.raw (.bool false)],vL 7 27 eRt v1] [(0,bT),hC 1 [rO 27 eRt v1]] (A3 (frE a1) (yxz hv1) (sR' 27 v1)) ?_
 refine ywb (J:=fun (x:(Bool×(List Qr)))=>[bX 2 (sP a0),bX 3 (sP a1),bX 6 [.raw (.bool x.1)],vL 7 27 eRt x.2]) (K:=fun x=>yvl a0 a1 x=some r) (fun x2 h=>?_) ?_
 ·unfold yvl at h
  obtain⟨v3,hv3,h⟩:=bs h
  obtain⟨v4,hv4,h⟩:=bs h
  refine ylb (yfa2 (n:=1) (l3:=[vP 4 85 v4.1,pB 5 v4.2.1]) [bX 2 (sP a0),bX 3 (sP a1),bX 6 [.raw (.bool x2.1)],vL 7 27 eRt x2.2,rF 25 7] [bX 6 [.raw (.bool v3.2)],vP 27 85 v3.1] [] [(3,{lend:=some (some [.d false (sP v3.1)],[.ov false (oP 85 v4.1),.p (.bool v4.2.1)],.box [.raw (.bool v4.2.2)],true)})] trivial (A3 (show([.d false [.sl none (eraL (v3.1.map ePt))]]:List Arg)=[.d false (sP v3.1)] from(by simp only[erPt])) (yov hv4) (show(List.all [.ov false (oP 85 v4.1),.p (.bool v4.2.1)] simpleR&&wnS (.box [.raw (.bool v4.2.2)]))=true from(ls_t (sa_o (wnR1 (ysc (wn_P (wn_P wn_I wn_I) (wn_P wn_I wn_I))) rfl) (sa_p rfl)) (wnc rfl)))) (ykx1 (rx:=7) (yda1 hv3) ⟨rfl,rfl⟩ ⟨rfl,rfl⟩ rfl) rfl rfl ⟨rfl,rfl⟩) ?_
  refine yra ?_
  obtain rfl:=oi h
  exact er [(.ov false (oP 85 v4.1),4),(.p (.bool v4.2.1),5)]
 refine kG [bX 2 (sP a0),bX 3 (sP a1),bX 6 [.raw (.bool false)],vL 7 27 eRt v1,dP 12 a0,pL 13 a0,pI 14 0] [(0,bT),hN 1 a0] (A2 (frE a0) (lnP a0)) ?_
 refine yja ?_
 obtain⟨y6,hl_x5,hk_x5⟩:=bs h
 clear h
 refine yfd (J:=fun (x:(Bool×(List Qr)×Int))=>[bX 2 (sP a0),bX 3 (sP a1),bX 6 [.raw (.bool x.1)],vL 7 27 eRt x.2.1,dP 12 a0,pL 13 a0,pI 14 x.2.2]) hl_x5 wkk (fun x5 o_x5 h hy_x5=>?_)
 unfold ywl at h
 refine kG [bX 2 (sP a0),bX 3 (sP a1),bX 6 [.raw (.bool x5.1)],vL 7 27 eRt x5.2.1,dP 12 a0,pL 13 a0,pI 14 x5.2.2,pB 15 (decide (x5.2.2<(a0.length:Int)))] [] trivial ?_
 refine yib (kI h (fun hc5_6 h=>?_) (fun hc5_6 h=>?_))
 ·refine yia (q_n (yib (yja ?_)))
  obtain⟨v8,hv8,h⟩:=bs h
  refine kG [bX 2 (sP a0),bX 3 (sP a1),bX 6 [.raw (.bool x5.1)],vL 7 27 eRt x5.2.1,bP 9 v8,dP 12 a0,pL 13 a0,pI 14 x5.2.2] [hR 0 (ePt v8)] (A2 (yba hv8).1 (yda ePt (yba hv8).2)) ?_
  obtain⟨v9,hv9,h⟩:=bs h
  obtain⟨u10,hu10,h⟩:=bs h
  refine yrc (r_gq [bX 2 (sP a0),bX 3 (sP a1),bX 6 [.raw (.bool v9.2)],vL 7 27 eRt (x5.2.1++v9.1),dP 12 a0,pL 13 a0,pI 14 x5.2.2] [(1,bT),hT 4 [rO 27 eRt v9.1] (.box [.raw (.bool v9.2)]),(5,{fix:=some (vL 23 27 eRt (x5.2.1++v9.1))})] (A6 (frE a1) (ynv hv9) (show(List.all [rO 27 eRt v9.1] simpleR&&wnS (.box [.raw (.bool v9.2)]))=true from(ls_t (sa_o (wnR1 (ysc (wn_P wn_I wn_I)) rfl) rfl) (wnc rfl))) (lG' eRt hu10) (show ∀ row∈((v9.1.map eRt):List (List C)),row.length=2 from(ynb fun _=>rfl)) (aP' 27 eRt x5.2.1 v9.1))) ?_
  refine b_n (q_n (yrc (r_gq [bX 2 (sP a0),bX 3 (sP a1),bX 6 [.raw (.bool v9.2)],vL 7 27 eRt (x5.2.1++v9.1),dP 12 a0,pL 13 a0,pI 14 (w64 (x5.2.2+1))] [] trivial) ?_))
  exact lqn (v9.2,(x5.2.1++v9.1),(w64 (x5.2.2+1))) h
 refine yzc (q_x (lq_x (b_x ?_)))
 have hyy:=hy_x5 _ (oi h).symm
 subst hyy
 have h:=hk_x5
 refine q_n ?_
 exact jx (x5.1,x5.2.1) h
theorem ydx {a0:(List Qp)} {a1:Int}  {r:((List Qp)×Bool)} (h:yih a0 a1=some r):Meets Tryz.prog 42 [.d false (sP a0),wI a1] { vals:=[.ov false (oP 85 r.1),.p (.bool r.2)] }:=by
 refine mo Tryz.func42 [dP 0 a0,pI 1 a1] ?_
 unfold yih at h
 refine kG [dP 0 a0,pI 1 a1] [] trivial ?_
 refine yib ?_
 obtain⟨v1,hv1,h⟩:=bs h
 obtain⟨w3,hw3,h⟩:=bs h
 refine ylb (l1:=[dP 0 a0,pI 1 a1,pB 15 w3]) ?_ ?_
 ·clear h
  rcases ft (!v1) with ha0 | ha0
  ·replace hw3:=yon ha0 hw3
   have hw3:=oi hw3
   subst hw3
   exact(r_gq [dP 0 a0,pI 1 a1,pB 15 true] [hC 1 [.p (.bool v1)],(4,gT),(5,gT),(6,gT),(7,bT)] (A5 (yve hv1) ha0 ha0 ha0 ha0))
  obtain⟨v2,hv2,hw3⟩:=bs (ypn ha0 hw3)
  have hw3:=oi hw3
  subst hw3
  exact(r_gq [dP 0 a0,pI 1 a1,pB 15 (!v2)] [hC 1 [.p (.bool v1)],(4,gF),(5,(gN [.p (.bool v2)])),(6,gF),(7,bF)] (A6 (yve hv1) ha0 ha0 (yud hv2) ha0 ha0))
 refine kI h (fun hc2_3 h=>?_) (fun hc2_3 h=>?_)
 ·refine kG [vN 4 85,pB 5 false] [] trivial ?_
  refine yra (q_r ?_)
  obtain rfl:=oi h
  exact er [(.ov false (oN 85),4),(.p (.bool false),5)]
 refine yia (q_n ?_)
 obtain⟨v5,hv5,h⟩:=bs h
 refine kG [dP 0 a0,pI 1 a1,vP 6 85 v5] [hC 0 [.ov false (oP 85 v5)]] (A2 (ylv hv5) (show List.all [.ov false (oP 85 v5)] simpleR=true from(sa_o (wnR1 (ysc (wn_P (wn_P wn_I wn_I) (wn_P wn_I wn_I))) rfl) rfl))) ?_
 refine ywb (J:=fun (x:(List Qp))=>[vP 6 85 x]) (K:=fun x=>yvi x=some r) (fun x6 h=>?_) ?_
 ·unfold yvi at h
  refine kG [vP 4 85 x6,pB 5 true] [] trivial ?_
  refine yra ?_
  obtain rfl:=oi h
  exact er [(.ov false (oP 85 x6),4),(.p (.bool true),5)]
 refine kG [dP 0 a0,vP 6 85 v5,pI 17 a1,pI 18 0] [] trivial ?_
 refine yja ?_
 obtain⟨y8,hl_x7,hk_x7⟩:=bs h
 clear h
 refine yfd (J:=fun (x:((List Qp)×Int))=>[dP 0 a0,vP 6 85 x.1,pI 17 a1,pI 18 x.2]) hl_x7 wkk (fun x7 o_x7 h hy_x7=>?_)
 unfold ykd at h
 refine kG [dP 0 a0,vP 6 85 x7.1,pI 17 a1,pI 18 x7.2,pB 19 (decide (x7.2<a1))] [] trivial ?_
 refine yib (kI h (fun hc5_8 h=>?_) (fun hc5_8 h=>?_))
 ·refine yia (q_n (yib (yja ?_)))
  obtain⟨v10,hv10,h⟩:=bs h
  refine kG [dP 0 a0,vP 6 85 v10.1,pB 7 v10.2,pI 17 a1,pI 18 x7.2] [(2,(cS [.d false (sP a0),.d false (sP x7.1)] [.ov false (oP 85 v10.1),.p (.bool v10.2)]))] (A3 (show([.d false (sP a0),.d false [.sl none (eraL (x7.1.map ePt))]]:List Arg)=[.d false (sP a0),.d false (sP x7.1)] from(by simp only[erPt])) (yea1 hv10) (show List.all [.ov false (oP 85 v10.1),.p (.bool v10.2)] simpleR=true from(sa_o (wnR1 (ysc (wn_P (wn_P wn_I wn_I) (wn_P wn_I wn_I))) rfl) (sa_p rfl)))) ?_
  refine kG [dP 0 a0,vP 6 85 v10.1,pI 17 a1,pI 18 x7.2,pB 27 (!v10.2)] [] trivial ?_
  refine kI h (fun hc6_10 h=>?_) (fun hc6_10 h=>?_)
  ·refine kG [vN 4 85,pB 5 false] [] trivial ?_
   refine yra (b_r (q_r (lq_r ?_)))
   refine b_r (q_r ?_)
   have hyy:=hy_x7 _ (oi h).symm
   subst hyy
   have h:=hk_x7
   dsimp only[Sum.elim] at h
   obtain rfl:=oi h
   exact er [(.ov false (oN 85),4),(.p (.bool false),5)]
  refine yia (b_n (q_n (yrc (r_gq [dP 0 a0,vP 6 85 v10.1,pI 17 a1,pI 18 (w64 (x7.2+1))] [] trivial) ?_)))
  exact lqn (v10.1,(w64 (x7.2+1))) h
 refine yzc (q_x (lq_x (b_x ?_)))
 have hyy:=hy_x7 _ (oi h).symm
 subst hyy
 have h:=hk_x7
 dsimp only[Sum.elim] at h
 refine q_n ?_
 exact jx x7.1 h
theorem yid1   {r:(List Qp)} (h:ynt =some r):Meets Tryz.prog 152 [] { vals:=[.ov false (oP 85 r)] }:=by
 refine mo Tryz.func152 [] ?_
 unfold ynt at h
 refine kG [] [] trivial ?_
 obtain⟨v1,hv1,h⟩:=bs h
 obtain⟨v2,hv2,h⟩:=bs h
 obtain⟨v3,hv3,h⟩:=bs h
 obtain⟨v4,hv4,h⟩:=bs h
 refine kG [vP 0 85 ([(v1,v2),(v3,v4)])] [hC 0 [.p (vRt v1)],hC 1 [.p (vRt v2)],hC 3 [.p (vRt v3)],hC 4 [.p (vRt v4)]] (A4 (yla hv1) (yla hv2) (yla hv3) (yla hv4)) ?_
 refine yra ?_
 obtain rfl:=oi h
 exact er [(.ov false (oP 85 ([(v1,v2),(v3,v4)])),0)]
theorem yah1 {a0:(List Qp)}  {r:(List Qr)} (h:ygw a0=some r):Meets Tryz.prog 182 [.d false (sP a0)] { vals:=[rO 27 eRt r] }:=by
 refine mo Tryz.func182 [dP 0 a0] ?_
 unfold ygw at h
 refine kG [dP 0 a0] [] trivial ?_
 refine kG [dP 0 a0,vN 3 27] [] trivial ?_
 refine ywb (J:=fun (x:(List Qr))=>[vL 3 27 eRt x]) (K:=fun x=>ysu x=some r) (fun x1 h=>?_) ?_
 ·unfold ysu at h
  refine kG [vL 2 27 eRt x1] [] trivial ?_
  refine yra ?_
  obtain rfl:=oi h
  exact er [(.ov false [.sl (some 27) (x1.map eRt)],2)]
 refine kG [vN 3 27,dP 6 a0,pL 7 a0,pI 8 0] [hN 1 a0] (A1 (lnP a0)) ?_
 refine yja ?_
 obtain⟨y3,hl_x2,hk_x2⟩:=bs h
 clear h
 refine yfd (J:=fun (x:((List Qr)×Int))=>[vL 3 27 eRt x.1,dP 6 a0,pL 7 a0,pI 8 x.2]) hl_x2 wkk (fun x2 o_x2 h hy_x2=>?_)
 unfold ylm at h
 refine kG [vL 3 27 eRt x2.1,dP 6 a0,pL 7 a0,pI 8 x2.2,pB 9 (decide (x2.2<(a0.length:Int)))] [] trivial ?_
 refine yib (kI h (fun hc5_3 h=>?_) (fun hc5_3 h=>?_))
 ·refine yia (q_n (yib (yja ?_)))
  obtain⟨v5,hv5,h⟩:=bs h
  refine kG [vL 3 27 eRt x2.1,bP 5 v5,dP 6 a0,pL 7 a0,pI 8 x2.2] [hR 0 (ePt v5)] (A2 (yba hv5).1 (yda ePt (yba hv5).2)) ?_
  obtain⟨u6,hu6,h⟩:=bs h
  refine yrc (r_gq [vL 3 27 eRt (x2.1++[v5.1]),dP 6 a0,pL 7 a0,pI 8 x2.2] [(4,{fix:=some (vL 16 27 eRt (x2.1++[v5.1]))})] (A3 (lG' eRt hu6) (show ∀ row∈((([v5.1]).map eRt):List (List C)),row.length=2 from(ynb fun _=>rfl)) (aP' 27 eRt x2.1 ([v5.1])))) ?_
  refine b_n (q_n (yrc (r_gq [vL 3 27 eRt (x2.1++[v5.1]),dP 6 a0,pL 7 a0,pI 8 (w64 (x2.2+1))] [] trivial) ?_))
  exact lqn ((x2.1++[v5.1]),(w64 (x2.2+1))) h
 refine yzc (q_x (lq_x (b_x ?_)))
 have hyy:=hy_x2 _ (oi h).symm
 subst hyy
 have h:=hk_x2
 refine q_n ?_
 exact jx x2.1 h
theorem yjd1 {a0:Qp} {a1:Qp} {a2:Qr}  {r:(Qr×Bool)} (h:ysq a0 a1 a2=some r):Meets Tryz.prog 204 [.v (vPt a0),.v (vPt a1),.v (vRt a2)] { vals:=[.p (vRt r.1),.p (.bool r.2)] }:=by
 refine mo Tryz.func204 [(0,.p (vPt a0)),(1,.p (vPt a1)),(2,.p (vRt a2))] ?_
 unfold ysq at h
 refine kG [bP 3 a0,bP 4 a1,bR 5 a2,bX 6 zR] [] trivial ?_
 obtain⟨v1,hv1,h⟩:=bs h
 refine kG [bP 3 a0,bP 4 a1,bX 6 zR,bR 8 v1.1,pB 9 v1.2] [hC 3 [.p (vRt v1.1),.p (.bool v1.2)]] (A1 (yym hv1)) ?_
 refine yib (kG [bP 3 a0,bP 4 a1,bX 6 zR,bR 8 v1.1,pB 20 (!v1.2)] [] trivial ?_)
 refine kI h (fun hc2_1 h=>?_) (fun hc2_1 h=>?_)
 ·refine kG [bX 6 zR,pB 7 false] [] trivial ?_
  refine yra (q_r ?_)
  obtain rfl:=oi h
  exact er [(.p (.agg #[.int .i64 0,.int .i64 0]),6),(.p (.bool false),7)]
 refine yia (q_n ?_)
 obtain⟨v3,hv3,h⟩:=bs h
 obtain⟨v4,hv4,h⟩:=bs h
 refine ylb (r_dq yfa 10 [(9,10)] [bP 3 a0,bX 6 zR,bR 10 v4.1,pB 11 v4.2] [hC 3 [.p (vRt v3)],hC 4 [.p (vRt v4.1),.p (.bool v4.2)]] (A2 (ybj hv3) (yzx hv4))) ?_
 refine yib (kG [bP 3 a0,bX 6 zR,bR 10 v4.1,pB 31 (!v4.2)] [] trivial ?_)
 refine kI h (fun hc2_4 h=>?_) (fun hc2_4 h=>?_)
 ·refine kG [bX 6 zR,pB 7 false] [] trivial ?_
  refine yra (q_r ?_)
  obtain rfl:=oi h
  exact er [(.p (.agg #[.int .i64 0,.int .i64 0]),6),(.p (.bool false),7)]
 refine yia (q_n ?_)
 obtain⟨v6,hv6,h⟩:=bs h
 refine kG [bR 6 v6.1,pB 7 v6.2] [hC 3 [.p (vRt v6.1),.p (.bool v6.2)]] (A1 (yms hv6)) ?_
 refine yra ?_
 obtain rfl:=oi h
 exact er [(.p (vRt v6.1),6),(.p (.bool v6.2),7)]
theorem yfa1 {a0:(List Qp)} {a1:Qr}  {r:((List Qr)×Bool)} (h:yhi a0 a1=some r):Meets Tryz.prog 183 [.d false (sP a0),.v (vRt a1)] { vals:=[rO 27 eRt r.1,.p (.bool r.2)] }:=by
 refine mo Tryz.func183 [dP 0 a0,(1,.p (vRt a1))] ?_
 unfold yhi at h
 refine kG [dP 0 a0,bR 3 a1] [] trivial ?_
 refine kG [dP 0 a0,bR 3 a1,vN 6 27] [] trivial ?_
 refine ywb (J:=fun (x:(List Qr))=>[vL 6 27 eRt x]) (K:=fun x=>yzo x=some r) (fun x1 h=>?_) ?_
 ·unfold yzo at h
  refine kG [vL 4 27 eRt x1,pB 5 true] [] trivial ?_
  refine yra ?_
  obtain rfl:=oi h
  exact er [(.ov false [.sl (some 27) (x1.map eRt)],4),(.p (.bool true),5)]
 refine kG [dP 0 a0,bR 3 a1,vN 6 27,pI 7 1] [] trivial ?_
 refine yja ?_
 obtain⟨y3,hl_x2,hk_x2⟩:=bs h
 clear h
 refine yfd (J:=fun (x:((List Qr)×Int))=>[dP 0 a0,bR 3 a1,vL 6 27 eRt x.1,pI 7 x.2]) hl_x2 wkk (fun x2 o_x2 h hy_x2=>?_)
 unfold yap at h
 refine yib (kG [dP 0 a0,bR 3 a1,vL 6 27 eRt x2.1,pI 7 x2.2,pB 17 (decide (x2.2<(a0.length:Int)))] [hN 2 a0] (A1 (lnP a0)) ?_)
 refine kI h (fun hc5_3 h=>?_) (fun hc5_3 h=>?_)
 ·refine yia (q_n (yib (yja ?_)))
  obtain⟨v5,hv5,h⟩:=bs h
  obtain⟨v6,hv6,h⟩:=bs h
  refine ylb (r_dq yfa 12 [(11,8)] [dP 0 a0,bR 3 a1,vL 6 27 eRt x2.1,pI 7 x2.2,bP 8 v5,bP 9 v6] [hR 3 (ePt v5),hR 7 (ePt v6)] (A4 (yba hv5).1 (yda ePt (yba hv5).2) (yba hv6).1 (yda ePt (yba hv6).2))) ?_
  obtain⟨v7,hv7,h⟩:=bs h
  obtain⟨v8,hv8,h⟩:=bs h
  refine ylb (r_dq yfa 7 [] [dP 0 a0,bR 3 a1,vL 6 27 eRt x2.1,pI 7 x2.2,bP 8 v5,bP 9 v6,pI 10 v7,pI 11 v8] [hC 3 [.p (iV v7)],hC 7 [.p (iV v8)]] (A2 (ybc hv7) (ybc hv8))) ?_
  refine ywb (J:=fun (x:(List Qr))=>[dP 0 a0,bR 3 a1,vL 6 27 eRt x,pI 7 x2.2,bP 8 v5,bP 9 v6,pI 10 v7,pI 11 v8]) (K:=fun x=>yig a1 x2 v5 v6 v7 v8 x=some o_x2) (fun x9 h=>?_) ?_
  ·unfold yig at h
   refine ywb (J:=fun (x:(List Qr))=>[dP 0 a0,bR 3 a1,vL 6 27 eRt x,pI 7 x2.2,bP 8 v5,bP 9 v6,pI 10 v7,pI 11 v8]) (K:=fun x=>yhg a1 x2 v5 v6 v7 v8 x=some o_x2) (fun x10 h=>?_) ?_
   ·unfold yhg at h
    refine yib (kG [dP 0 a0,bR 3 a1,vL 6 27 eRt x10,pI 7 x2.2,bP 8 v5,bP 9 v6,pB 52 (decide ((w64 (v7*v8))>=0))] [] trivial ?_)
    refine kI h (fun hc7_10 h=>?_) (fun hc7_10 h=>?_)
    ·refine yzc (q_x (b_x (q_n (yrc (r_gq [dP 0 a0,bR 3 a1,vL 6 27 eRt x10,pI 7 (w64 (x2.2+1))] [] trivial) ?_))))
     exact lqn (x10,(w64 (x2.2+1))) h
    refine yia (q_n ?_)
    obtain⟨v12,hv12,h⟩:=bs h
    refine kG [dP 0 a0,bR 3 a1,vL 6 27 eRt x10,pI 7 x2.2,bR 12 v12.1,pB 13 v12.2] [hC 3 [.p (vRt v12.1),.p (.bool v12.2)]] (A1 (yjd1 hv12)) ?_
    refine yib (kG [dP 0 a0,bR 3 a1,vL 6 27 eRt x10,pI 7 x2.2,bR 12 v12.1,pB 61 (!v12.2)] [] trivial ?_)
    refine kI h (fun hc7_12 h=>?_) (fun hc7_12 h=>?_)
    ·refine kG [vN 4 27,pB 5 false] [] trivial ?_
     refine yra (q_r (b_r (q_r (lq_r ?_))))
     refine b_r (q_r ?_)
     have hyy:=hy_x2 _ (oi h).symm
     subst hyy
     have h:=hk_x2
     dsimp only[Sum.elim] at h
     obtain rfl:=oi h
     exact er [(.ov false (oN 27),4),(.p (.bool false),5)]
    refine yia (q_n ?_)
    obtain⟨v14,hv14,h⟩:=bs h
    refine yrc (r_gq [dP 0 a0,bR 3 a1,vL 6 27 eRt v14,pI 7 x2.2] [(2,{lend:=some (none,[rO 27 eRt v14],.u,true)})] (A2 (ywm hv14) (sR' 27 v14))) ?_
    refine b_n (q_n (yrc (r_gq [dP 0 a0,bR 3 a1,vL 6 27 eRt v14,pI 7 (w64 (x2.2+1))] [] trivial) ?_))
    exact lqn (v14,(w64 (x2.2+1))) h
   refine kG [dP 0 a0,bR 3 a1,vL 6 27 eRt x9,pI 7 x2.2,bP 8 v5,bP 9 v6,pI 10 v7,pI 11 v8,pB 44 (v8==0)] [] trivial ?_
   refine kI h (fun hc7_14 h=>?_) (fun hc7_14 h=>?_)
   ·obtain⟨v16,hv16,h⟩:=bs h
    refine yrc (r_gq [dP 0 a0,bR 3 a1,vL 6 27 eRt v16,pI 7 x2.2,bP 8 v5,bP 9 v6,pI 10 v7,pI 11 v8] [(3,{lend:=some (none,[rO 27 eRt v16],.u,true)})] (A2 (ywm hv16) (sR' 27 v16))) ?_
    refine q_n ?_
    exact jx v16 h
   refine yia (q_n ?_)
   exact jx x9 h
  refine kG [dP 0 a0,bR 3 a1,vL 6 27 eRt x2.1,pI 7 x2.2,bP 8 v5,bP 9 v6,pI 10 v7,pI 11 v8,pB 38 (v7==0)] [] trivial ?_
  refine kI h (fun hc7_16 h=>?_) (fun hc7_16 h=>?_)
  ·obtain⟨v18,hv18,h⟩:=bs h
   refine yrc (r_gq [dP 0 a0,bR 3 a1,vL 6 27 eRt v18,pI 7 x2.2,bP 8 v5,bP 9 v6,pI 10 v7,pI 11 v8] [(3,{lend:=some (none,[rO 27 eRt v18],.u,true)})] (A2 (ywm hv18) (sR' 27 v18))) ?_
   refine q_n ?_
   exact jx v18 h
  refine yia (q_n ?_)
  exact jx x2.1 h
 refine yzc (q_x (lq_x (b_x ?_)))
 have hyy:=hy_x2 _ (oi h).symm
 subst hyy
 have h:=hk_x2
 dsimp only[Sum.elim] at h
 refine q_n ?_
 exact jx x2.1 h
theorem yga1 {a0:(List Qp)}  {r:(List Qp)} (h:ynn a0=some r):Meets Tryz.prog 205 [.d false (sP a0)] { vals:=[.ov false (oP 85 r)] }:=by
 refine mo Tryz.func205 [dP 0 a0] ?_
 unfold ynn at h
 refine kG [dP 0 a0] [] trivial ?_
 obtain⟨v1,hv1,h⟩:=bs h
 refine kG [dP 0 a0,vP 3 85 ([v1])] [hR 1 (ePt v1)] (A2 (yba hv1).1 (yda ePt (yba hv1).2)) ?_
 refine ywb (J:=fun (x:(List Qp))=>[vP 3 85 x]) (K:=fun x=>ybp x=some r) (fun x2 h=>?_) ?_
 ·unfold ybp at h
  refine kG [vP 2 85 x2] [] trivial ?_
  refine yra ?_
  obtain rfl:=oi h
  exact er [(.ov false (oP 85 x2),2)]
 refine kG [dP 0 a0,vP 3 85 ([v1]),pI 4 1] [] trivial ?_
 refine yja ?_
 obtain⟨y4,hl_x3,hk_x3⟩:=bs h
 clear h
 refine yfd (J:=fun (x:((List Qp)×Int))=>[dP 0 a0,vP 3 85 x.1,pI 4 x.2]) hl_x3 wkk (fun x3 o_x3 h hy_x3=>?_)
 unfold yxs at h
 refine yib (kG [dP 0 a0,vP 3 85 x3.1,pI 4 x3.2,pB 12 (decide (x3.2<(a0.length:Int)))] [hN 2 a0] (A1 (lnP a0)) ?_)
 refine kI h (fun hc5_4 h=>?_) (fun hc5_4 h=>?_)
 ·refine yia (q_n (yib (yja ?_)))
  obtain⟨w11,hw11,h⟩:=bs h
  refine ylb (l1:=[dP 0 a0,vP 3 85 x3.1,pI 4 x3.2,pB 42 w11]) ?_ ?_
  ·clear h
   rcases ft ((w64 (x3.2+1))==(a0.length:Int)) with ha1 | ha1
   ·replace hw11:=yon ha1 hw11
    have hw11:=oi hw11
    subst hw11
    exact(r_dq yfa 25 [] [dP 0 a0,vP 3 85 x3.1,pI 4 x3.2,pB 42 true] [hN 3 a0,(6,gT),(7,gT),(8,gT),(9,gT),(10,gT),(11,gT),(12,gT),(13,gT),(14,gT),(15,gT),(16,gT),(17,gT),(18,gT),(19,gT),(20,gT),(21,gT),(22,gT),(23,gT),(24,gT),(25,gT),(26,gT),(27,bT)] (B6 (lnP a0) ha1 ha1 ha1 ha1 ha1 (B6 ha1 ha1 ha1 ha1 ha1 ha1 (B6 ha1 ha1 ha1 ha1 ha1 ha1 (A5 ha1 ha1 ha1 ha1 ha1)))))
   obtain⟨v6,hv6,hw11⟩:=bs (ypn ha1 hw11)
   obtain⟨v7,hv7,hw11⟩:=bs hw11
   obtain⟨v8,hv8,hw11⟩:=bs hw11
   obtain⟨v9,hv9,hw11⟩:=bs hw11
   obtain⟨v10,hv10,hw11⟩:=bs hw11
   have hw11:=oi hw11
   subst hw11
   exact(r_dq yfa 25 [] [dP 0 a0,vP 3 85 x3.1,pI 4 x3.2,pB 42 (nR v8 v10)] [hN 3 a0,(6,gF),(7,gF),(8,gF),(9,{g:=some false,row:=some (ePt v6)}),(10,gF),(11,gF),(12,gF),(13,{g:=some false,row:=some (ePt v7)}),(14,gF),(15,(gN [.p (vRt v8)])),(16,gF),(17,gF),(18,{g:=some false,row:=some (ePt v7)}),(19,gF),(20,gF),(21,gF),(22,gF),(23,{g:=some false,row:=some (ePt v9)}),(24,gF),(25,(gN [.p (vRt v10)])),(26,(hB (nR v8 v10))),(27,bF)] (B6 (lnP a0) ha1 ha1 ha1 ha1 (yba hv6).1 (B6 (yda ePt (yba hv6).2) ha1 ha1 ha1 ha1 (yba hv7).1 (B6 (yda ePt (yba hv7).2) ha1 ha1 (ybj hv8) ha1 ha1 (B6 ha1 (yba hv7).1 (yda ePt (yba hv7).2) ha1 ha1 ha1 (B6 ha1 ha1 (yba hv9).1 (yda ePt (yba hv9).2) ha1 ha1 (A4 (ybj hv10) ha1 (show PureAt Tryz.prog (.binOp .neq 27 (.tmp 30) (.tmp 40) 27) [vRt v8,vRt v10] (.bool (nR v8 v10)) from(yji (by kernel_rfl))) ha1)))))))
  refine kI h (fun hc6_11 h=>?_) (fun hc6_11 h=>?_)
  ·obtain⟨v13,hv13,h⟩:=bs h
   obtain⟨u14,hu14,h⟩:=bs h
   refine yrc (r_gq [dP 0 a0,vP 3 85 (x3.1++[v13]),pI 4 x3.2] [hR 3 (ePt v13),(6,{fix:=some (vP 49 85 (x3.1++[v13]))})] (A5 (yba hv13).1 (yda ePt (yba hv13).2) (lG' ePt hu14) (show ∀ row∈((([v13]).map ePt):List (List C)),row.length=4 from(ynb fun _=>rfl)) (aP' 85 ePt x3.1 ([v13])))) ?_
   refine b_n (q_n (yrc (r_gq [dP 0 a0,vP 3 85 (x3.1++[v13]),pI 4 (w64 (x3.2+1))] [] trivial) ?_))
   exact lqn ((x3.1++[v13]),(w64 (x3.2+1))) h
  refine yia (b_n (q_n (yrc (r_gq [dP 0 a0,vP 3 85 x3.1,pI 4 (w64 (x3.2+1))] [] trivial) ?_)))
  exact lqn (x3.1,(w64 (x3.2+1))) h
 refine yzc (q_x (lq_x (b_x ?_)))
 have hyy:=hy_x3 _ (oi h).symm
 subst hyy
 have h:=hk_x3
 refine q_n ?_
 exact jx x3.1 h
theorem ybh1 {a0:(List Qp)}  {r:((List Qp)×Bool)} (h:yur a0=some r):Meets Tryz.prog 185 [.d false (sP a0)] { vals:=[.ov false (oP 85 r.1),.p (.bool r.2)] }:=by
 refine mo Tryz.func185 [dP 0 a0] ?_
 unfold yur at h
 refine kG [dP 0 a0] [] trivial ?_
 refine ywb (J:=fun (x:Unit)=>[dP 0 a0]) (K:=fun x=>ysr a0 x=some r) (fun x1 h=>?_) ?_
 ·unfold ysr at h
  obtain⟨v2,hv2,h⟩:=bs h
  refine kG [vP 6 85 v2] [hC 1 [.ov false (oP 85 v2)]] (A2 (yga1 hv2) (show List.all [.ov false (oP 85 v2)] simpleR=true from(sa_o (wnR1 (ysc (wn_P (wn_P wn_I wn_I) (wn_P wn_I wn_I))) rfl) rfl))) ?_
  refine yib ?_
  obtain⟨v3,hv3,h⟩:=bs h
  refine kG [vP 6 85 v2,pB 28 (!v3)] [(1,(cS [.d false (sP v2)] [.p (.bool v3)]))] (A2 (show([.d false [.sl none (eraL (v2.map ePt))]]:List Arg)=[.d false (sP v2)] from(by simp only[erPt])) (ygc hv3)) ?_
  refine kI h (fun hc2_3 h=>?_) (fun hc2_3 h=>?_)
  ·refine kG [vN 2 85,pB 3 false] [] trivial ?_
   refine yra (q_r ?_)
   obtain rfl:=oi h
   exact er [(.ov false (oN 85),2),(.p (.bool false),3)]
  refine yia (q_n (kG [vP 2 85 v2,pB 3 true] [] trivial ?_))
  refine yra ?_
  obtain rfl:=oi h
  exact er [(.ov false (oP 85 v2),2),(.p (.bool true),3)]
 refine kG [dP 0 a0,dP 7 a0,pL 8 a0,pI 9 0] [hN 1 a0] (A1 (lnP a0)) ?_
 refine yja ?_
 obtain⟨y6,hl_x5,hk_x5⟩:=bs h
 clear h
 refine yfd (J:=fun (x:Int)=>[dP 0 a0,dP 7 a0,pL 8 a0,pI 9 x]) hl_x5 wkk (fun x5 o_x5 h hy_x5=>?_)
 unfold ytr at h
 refine kG [dP 0 a0,dP 7 a0,pL 8 a0,pI 9 x5,pB 10 (decide (x5<(a0.length:Int)))] [] trivial ?_
 refine yib (kI h (fun hc5_6 h=>?_) (fun hc5_6 h=>?_))
 ·refine yia (q_n (yib (yja ?_)))
  obtain⟨v8,hv8,h⟩:=bs h
  refine kG [dP 0 a0,bP 5 v8,dP 7 a0,pL 8 a0,pI 9 x5] [hR 0 (ePt v8)] (A2 (yba hv8).1 (yda ePt (yba hv8).2)) ?_
  obtain⟨v9,hv9,h⟩:=bs h
  obtain⟨w11,hw11,h⟩:=bs h
  refine ylb (l1:=[dP 0 a0,dP 7 a0,pL 8 a0,pI 9 x5,pB 22 w11]) ?_ ?_
  ·clear h
   rcases ft (!v9) with ha1 | ha1
   ·replace hw11:=yon ha1 hw11
    have hw11:=oi hw11
    subst hw11
    exact(r_gq [dP 0 a0,dP 7 a0,pL 8 a0,pI 9 x5,pB 22 true] [hC 2 [.p (.bool v9)],(5,gT),(6,gT),(7,gT),(8,gT),(9,bT)] (A6 (ytc hv9) ha1 ha1 ha1 ha1 ha1))
   obtain⟨v10,hv10,hw11⟩:=bs (ypn ha1 hw11)
   have hw11:=oi hw11
   subst hw11
   exact(r_gq [dP 0 a0,dP 7 a0,pL 8 a0,pI 9 x5,pB 22 (!v10)] [hC 2 [.p (.bool v9)],(5,gF),(6,gF),(7,(gN [.p (.bool v10)])),(8,gF),(9,bF)] (B6 (ytc hv9) ha1 ha1 ha1 (ytc hv10) ha1 (A1 ha1)))
  refine kI h (fun hc6_11 h=>?_) (fun hc6_11 h=>?_)
  ·refine kG [vN 2 85,pB 3 false] [] trivial ?_
   refine yra (b_r (q_r (lq_r ?_)))
   refine b_r (q_r ?_)
   have hyy:=hy_x5 _ (oi h).symm
   subst hyy
   have h:=hk_x5
   dsimp only[Sum.elim] at h
   obtain rfl:=oi h
   exact er [(.ov false (oN 85),2),(.p (.bool false),3)]
  refine yia (b_n (q_n (yrc (r_gq [dP 0 a0,dP 7 a0,pL 8 a0,pI 9 (w64 (x5+1))] [] trivial) ?_)))
  exact lqn (w64 (x5+1)) h
 refine yzc (q_x (lq_x (b_x ?_)))
 have hyy:=hy_x5 _ (oi h).symm
 subst hyy
 have h:=hk_x5
 dsimp only[Sum.elim] at h
 refine q_n ?_
 exact jx () h
theorem yqy {a0:(List Qp)} {a1:(List Qp)}  {r:((List Qp)×Bool)} (h:yxg a0 a1=some r):Meets Tryz.prog 153 [.d false (sP a0),.d false (sP a1)] { vals:=[.ov false (oP 85 r.1),.p (.bool r.2)] }:=by
 refine mo Tryz.func153 [dP 0 a0,dP 1 a1] ?_
 unfold yxg at h
 refine kG [dP 0 a0,dP 1 a1] [] trivial ?_
 obtain⟨v1,hv1,h⟩:=bs h
 refine kG [dP 0 a0,dP 1 a1,vL 6 27 eRt v1] [hC 1 [rO 27 eRt v1]] (A2 (yah1 hv1) (sR' 27 v1)) ?_
 refine ywb (J:=fun (x:(List Qr))=>[dP 0 a0,dP 1 a1,vL 6 27 eRt x]) (K:=fun x=>yue a0 a1 x=some r) (fun x2 h=>?_) ?_
 ·unfold yue at h
  refine kG [dP 0 a0,dP 1 a1,vL 6 27 eRt x2,vN 13 85] [] trivial ?_
  refine ywb (J:=fun (x:(List Qp))=>[vP 13 85 x]) (K:=fun x=>yte x=some r) (fun x3 h=>?_) ?_
  ·unfold yte at h
   obtain⟨v4,hv4,h⟩:=bs h
   refine kG [vP 4 85 v4.1,pB 5 v4.2] [(1,(cS [.d false (sP x3)] [.ov false (oP 85 v4.1),.p (.bool v4.2)]))] (A3 (show([.d false [.sl none (eraL (x3.map ePt))]]:List Arg)=[.d false (sP x3)] from(by simp only[erPt])) (ybh1 hv4) (show List.all [.ov false (oP 85 v4.1),.p (.bool v4.2)] simpleR=true from(sa_o (wnR1 (ysc (wn_P (wn_P wn_I wn_I) (wn_P wn_I wn_I))) rfl) (sa_p rfl)))) ?_
   refine yra ?_
   obtain rfl:=oi h
   exact er [(.ov false (oP 85 v4.1),4),(.p (.bool v4.2),5)]
  refine kG [dP 0 a0,dP 1 a1,vL 6 27 eRt x2,vN 13 85,rF 48 6,pL 49 x2,pI 50 0] [hN 1 x2] (A1 (lF eRt x2)) ?_
  refine yja ?_
  obtain⟨y6,hl_x5,hk_x5⟩:=bs h
  clear h
  refine yfd (J:=fun (x:((List Qp)×Int))=>[dP 0 a0,dP 1 a1,vL 6 27 eRt x2,vP 13 85 x.1,rF 48 6,pL 49 x2,pI 50 x.2]) hl_x5 wkk (fun x5 o_x5 h hy_x5=>?_)
  unfold ypj at h
  refine kG [dP 0 a0,dP 1 a1,vL 6 27 eRt x2,vP 13 85 x5.1,rF 48 6,pL 49 x2,pI 50 x5.2,pB 51 (decide (x5.2<(x2.length:Int)))] [] trivial ?_
  refine yib (kI h (fun hc5_6 h=>?_) (fun hc5_6 h=>?_))
  ·refine yia (q_n (yib (yja ?_)))
   obtain⟨v8,hv8,h⟩:=bs h
   refine kG [dP 0 a0,dP 1 a1,vL 6 27 eRt x2,vP 13 85 x5.1,bR 15 v8,rF 48 6,pL 49 x2,pI 50 x5.2] [hR 0 (eRt v8),hR 1 (eRt v8)] (A3 (yba hv8).1 (yda eRt (yba hv8).2) (gW 27 eRt hv8)) ?_
   obtain⟨v9,hv9,h⟩:=bs h
   refine kG [dP 0 a0,dP 1 a1,vL 6 27 eRt x2,vP 13 85 x5.1,bR 15 v8,bR 16 v9.1,pB 17 v9.2,rF 48 6,pL 49 x2,pI 50 x5.2] [hC 2 [.p (vRt v9.1),.p (.bool v9.2)]] (A1 (yiu hv9)) ?_
   refine yib (kG [dP 0 a0,dP 1 a1,vL 6 27 eRt x2,vP 13 85 x5.1,bR 15 v8,bR 16 v9.1,rF 48 6,pL 49 x2,pI 50 x5.2,pB 61 (!v9.2)] [] trivial ?_)
   refine kI h (fun hc7_9 h=>?_) (fun hc7_9 h=>?_)
   ·refine kG [vN 4 85,pB 5 false] [] trivial ?_
    refine yra (q_r (b_r (q_r (lq_r ?_))))
    refine b_r (q_r ?_)
    have hyy:=hy_x5 _ (oi h).symm
    subst hyy
    have h:=hk_x5
    dsimp only[Sum.elim] at h
    obtain rfl:=oi h
    exact er [(.ov false (oN 85),4),(.p (.bool false),5)]
   refine yia (q_n ?_)
   obtain⟨v11,hv11,h⟩:=bs h
   refine kG [dP 0 a0,dP 1 a1,vL 6 27 eRt x2,vP 13 85 x5.1,bR 15 v8,bR 18 v11.1,pB 19 v11.2,rF 48 6,pL 49 x2,pI 50 x5.2] [hC 2 [.p (vRt v11.1),.p (.bool v11.2)]] (A1 (yiu hv11)) ?_
   refine yib (kG [dP 0 a0,dP 1 a1,vL 6 27 eRt x2,vP 13 85 x5.1,bR 15 v8,bR 18 v11.1,rF 48 6,pL 49 x2,pI 50 x5.2,pB 69 (!v11.2)] [] trivial ?_)
   refine kI h (fun hc7_11 h=>?_) (fun hc7_11 h=>?_)
   ·refine kG [vN 4 85,pB 5 false] [] trivial ?_
    refine yra (q_r (b_r (q_r (lq_r ?_))))
    refine b_r (q_r ?_)
    have hyy:=hy_x5 _ (oi h).symm
    subst hyy
    have h:=hk_x5
    dsimp only[Sum.elim] at h
    obtain rfl:=oi h
    exact er [(.ov false (oN 85),4),(.p (.bool false),5)]
   refine yia (q_n ?_)
   obtain⟨u13,hu13,h⟩:=bs h
   refine yrc (r_gq [dP 0 a0,dP 1 a1,vL 6 27 eRt x2,vP 13 85 (x5.1++[(v8,v11.1)]),rF 48 6,pL 49 x2,pI 50 x5.2] [(5,{fix:=some (vP 75 85 (x5.1++[(v8,v11.1)]))})] (A3 (lG' ePt hu13) (show ∀ row∈((([(v8,v11.1)]).map ePt):List (List C)),row.length=4 from(ynb fun _=>rfl)) (aP' 85 ePt x5.1 ([(v8,v11.1)])))) ?_
   refine b_n (q_n (yrc (r_gq [dP 0 a0,dP 1 a1,vL 6 27 eRt x2,vP 13 85 (x5.1++[(v8,v11.1)]),rF 48 6,pL 49 x2,pI 50 (w64 (x5.2+1))] [] trivial) ?_))
   exact lqn ((x5.1++[(v8,v11.1)]),(w64 (x5.2+1))) h
  refine yzc (q_x (lq_x (b_x ?_)))
  have hyy:=hy_x5 _ (oi h).symm
  subst hyy
  have h:=hk_x5
  dsimp only[Sum.elim] at h
  refine q_n ?_
  exact jx x5.1 h
 refine kG [dP 0 a0,dP 1 a1,vL 6 27 eRt v1,dP 22 a0,pL 23 a0,pI 24 0] [hN 1 a0] (A1 (lnP a0)) ?_
 refine yja ?_
 obtain⟨y15,hl_x14,hk_x14⟩:=bs h
 clear h
 refine yfd (J:=fun (x:((List Qr)×Int))=>[dP 0 a0,dP 1 a1,vL 6 27 eRt x.1,dP 22 a0,pL 23 a0,pI 24 x.2]) hl_x14 wkk (fun x14 o_x14 h hy_x14=>?_)
 unfold yrj at h
 refine kG [dP 0 a0,dP 1 a1,vL 6 27 eRt x14.1,dP 22 a0,pL 23 a0,pI 24 x14.2,pB 25 (decide (x14.2<(a0.length:Int)))] [] trivial ?_
 refine yib (kI h (fun hc5_15 h=>?_) (fun hc5_15 h=>?_))
 ·refine yia (q_n (ywb (J:=fun (x:(List Qr))=>[dP 0 a0,dP 1 a1,vL 6 27 eRt x,dP 22 a0,pL 23 a0,pI 24 x14.2]) (K:=fun x=>ytn x14 x=some o_x14) (fun x17 h=>?_) ?_))
  ·unfold ytn at h
   refine yrc (r_gq [dP 0 a0,dP 1 a1,vL 6 27 eRt x17,dP 22 a0,pL 23 a0,pI 24 (w64 (x14.2+1))] [] trivial) ?_
   exact lqn (x17,(w64 (x14.2+1))) h
  refine yja ?_
  obtain⟨v18,hv18,h⟩:=bs h
  refine kG [dP 0 a0,dP 1 a1,vL 6 27 eRt x14.1,bP 8 v18,dP 22 a0,pL 23 a0,pI 24 x14.2] [hR 0 (ePt v18)] (A2 (yba hv18).1 (yda ePt (yba hv18).2)) ?_
  obtain⟨v19,hv19,h⟩:=bs h
  refine kG [dP 0 a0,dP 1 a1,vL 6 27 eRt x14.1,vL 9 27 eRt v19.1,pB 10 v19.2,dP 22 a0,pL 23 a0,pI 24 x14.2] [hC 3 [rO 27 eRt v19.1,.p (.bool v19.2)]] (A2 (yfa1 hv19) (show List.all [rO 27 eRt v19.1,.p (.bool v19.2)] simpleR=true from(sa_o (wnR1 (ysc (wn_P wn_I wn_I)) rfl) (sa_p rfl)))) ?_
  refine yib (kG [dP 0 a0,dP 1 a1,vL 6 27 eRt x14.1,vL 9 27 eRt v19.1,dP 22 a0,pL 23 a0,pI 24 x14.2,pB 36 (!v19.2)] [] trivial ?_)
  refine kI h (fun hc7_19 h=>?_) (fun hc7_19 h=>?_)
  ·refine kG [vN 4 85,pB 5 false] [] trivial ?_
   refine yra (q_r (b_r (q_r (lq_r ?_))))
   refine b_r (q_r ?_)
   have hyy:=hy_x14 _ (oi h).symm
   subst hyy
   have h:=hk_x14
   dsimp only[Sum.elim] at h
   obtain rfl:=oi h
   exact er [(.ov false (oN 85),4),(.p (.bool false),5)]
  refine yia (q_n (kG [dP 0 a0,dP 1 a1,vL 6 27 eRt x14.1,vL 9 27 eRt v19.1,dP 22 a0,pL 23 a0,pI 24 x14.2,rF 37 9,pL 38 v19.1,pI 39 0] [hN 1 v19.1] (A1 (lF eRt v19.1)) ?_))
  refine yja ?_
  obtain⟨y22,hl_x21,hk_x21⟩:=bs h
  clear h
  refine yfd (J:=fun (x:((List Qr)×Int))=>[dP 0 a0,dP 1 a1,vL 6 27 eRt x.1,vL 9 27 eRt v19.1,dP 22 a0,pL 23 a0,pI 24 x14.2,rF 37 9,pL 38 v19.1,pI 39 x.2]) hl_x21 wkk (fun x21 o_x21 h hy_x21=>?_)
  unfold yqj at h
  refine kG [dP 0 a0,dP 1 a1,vL 6 27 eRt x21.1,vL 9 27 eRt v19.1,dP 22 a0,pL 23 a0,pI 24 x14.2,rF 37 9,pL 38 v19.1,pI 39 x21.2,pB 40 (decide (x21.2<(v19.1.length:Int)))] [] trivial ?_
  refine yib (kI h (fun hc9_22 h=>?_) (fun hc9_22 h=>?_))
  ·refine yia (q_n (yib (yja ?_)))
   obtain⟨v24,hv24,h⟩:=bs h
   refine kG [dP 0 a0,dP 1 a1,vL 6 27 eRt x21.1,vL 9 27 eRt v19.1,bR 12 v24,dP 22 a0,pL 23 a0,pI 24 x14.2,rF 37 9,pL 38 v19.1,pI 39 x21.2] [hR 0 (eRt v24),hR 1 (eRt v24)] (A3 (yba hv24).1 (yda eRt (yba hv24).2) (gW 27 eRt hv24)) ?_
   obtain⟨v25,hv25,h⟩:=bs h
   refine yrc (r_gq [dP 0 a0,dP 1 a1,vL 6 27 eRt v25,vL 9 27 eRt v19.1,dP 22 a0,pL 23 a0,pI 24 x14.2,rF 37 9,pL 38 v19.1,pI 39 x21.2] [(2,{lend:=some (none,[rO 27 eRt v25],.u,true)})] (A2 (ywm hv25) (sR' 27 v25))) ?_
   refine b_n (q_n (yrc (r_gq [dP 0 a0,dP 1 a1,vL 6 27 eRt v25,vL 9 27 eRt v19.1,dP 22 a0,pL 23 a0,pI 24 x14.2,rF 37 9,pL 38 v19.1,pI 39 (w64 (x21.2+1))] [] trivial) ?_))
   exact lqn (v25,(w64 (x21.2+1))) h
  refine yzc (q_x (lq_x (b_x (b_n ?_))))
  have hyy:=hy_x21 _ (oi h).symm
  subst hyy
  have h:=hk_x21
  refine q_n ?_
  exact jx x21.1 h
 refine yzc (q_x (lq_x (b_x ?_)))
 have hyy:=hy_x14 _ (oi h).symm
 subst hyy
 have h:=hk_x14
 dsimp only[Sum.elim] at h
 refine q_n ?_
 exact jx x14.1 h
theorem yvb1 {a0:(List Qp)} {a1:Int}  {r:((List Qp)×Bool)} (h:yvr a0 a1=some r):Meets Tryz.prog 102 [.d false (sP a0),wI a1] { vals:=[.ov false (oP 85 r.1),.p (.bool r.2)] }:=by
 refine mo Tryz.func102 [dP 0 a0,pI 1 a1] ?_
 unfold yvr at h
 refine kG [dP 0 a0,pI 1 a1] [] trivial ?_
 obtain⟨v1,hv1,h⟩:=bs h
 refine kG [dP 0 a0,pI 1 a1,vP 6 85 v1] [hC 0 [.ov false (oP 85 v1)]] (A2 (yid1 hv1) (show List.all [.ov false (oP 85 v1)] simpleR=true from(sa_o (wnR1 (ysc (wn_P (wn_P wn_I wn_I) (wn_P wn_I wn_I))) rfl) rfl))) ?_
 refine ywb (J:=fun (x:(List Qp))=>[vP 6 85 x]) (K:=fun x=>yum x=some r) (fun x2 h=>?_) ?_
 ·unfold yum at h
  refine kG [vP 4 85 x2,pB 5 true] [] trivial ?_
  refine yra ?_
  obtain rfl:=oi h
  exact er [(.ov false (oP 85 x2),4),(.p (.bool true),5)]
 refine yja ?_
 obtain⟨y4,hl_x3,hk_x3⟩:=bs h
 clear h
 refine yfd (J:=fun (x:(Int×(List Qp)))=>[dP 0 a0,pI 1 x.1,vP 6 85 x.2]) hl_x3 wkk (fun x3 o_x3 h hy_x3=>?_)
 unfold yqf at h
 refine yib (kG [dP 0 a0,pI 1 x3.1,vP 6 85 x3.2,pB 11 (decide (x3.1>0))] [] trivial ?_)
 refine kI h (fun hc5_4 h=>?_) (fun hc5_4 h=>?_)
 ·refine yia (q_n (yib (yja ?_)))
  obtain⟨v6,hv6,h⟩:=bs h
  refine kG [dP 0 a0,pI 1 x3.1,vP 7 85 v6.1,pB 8 v6.2] [(2,(cS [.d false (sP a0),.d false (sP x3.2)] [.ov false (oP 85 v6.1),.p (.bool v6.2)]))] (A3 (show([.d false (sP a0),.d false [.sl none (eraL (x3.2.map ePt))]]:List Arg)=[.d false (sP a0),.d false (sP x3.2)] from(by simp only[erPt])) (yqy hv6) (show List.all [.ov false (oP 85 v6.1),.p (.bool v6.2)] simpleR=true from(sa_o (wnR1 (ysc (wn_P (wn_P wn_I wn_I) (wn_P wn_I wn_I))) rfl) (sa_p rfl)))) ?_
  refine yib (kG [dP 0 a0,pI 1 x3.1,vP 7 85 v6.1,pB 21 (!v6.2)] [] trivial ?_)
  refine kI h (fun hc7_6 h=>?_) (fun hc7_6 h=>?_)
  ·refine kG [vN 4 85,pB 5 false] [] trivial ?_
   refine yra (q_r (b_r (q_r (lq_r ?_))))
   refine b_r (q_r ?_)
   have hyy:=hy_x3 _ (oi h).symm
   subst hyy
   have h:=hk_x3
   dsimp only[Sum.elim] at h
   obtain rfl:=oi h
   exact er [(.ov false (oN 85),4),(.p (.bool false),5)]
  refine yia (q_n (yrc (r_gq [dP 0 a0,pI 1 x3.1,vP 6 85 v6.1] [] trivial) ?_))
  refine b_n (q_n (yrc (r_gq [dP 0 a0,pI 1 (w64 (x3.1-1)),vP 6 85 v6.1] [] trivial) ?_))
  exact lqn ((w64 (x3.1-1)),v6.1) h
 refine yzc (q_x (lq_x (b_x ?_)))
 have hyy:=hy_x3 _ (oi h).symm
 subst hyy
 have h:=hk_x3
 dsimp only[Sum.elim] at h
 refine q_n ?_
 exact jx x3.2 h
theorem yex {a0:(List Qp)} {a1:Int}  {r:((List Qp)×Bool)} (h:yjh a0 a1=some r):Meets Tryz.prog 43 [.d false (sP a0),wI a1] { vals:=[.ov false (oP 85 r.1),.p (.bool r.2)] }:=by
 refine mo Tryz.func43 [dP 0 a0,pI 1 a1] ?_
 unfold yjh at h
 refine kG [dP 0 a0,pI 1 a1] [] trivial ?_
 refine yib ?_
 obtain⟨v1,hv1,h⟩:=bs h
 obtain⟨w3,hw3,h⟩:=bs h
 refine ylb (l1:=[dP 0 a0,pI 1 a1,pB 13 w3]) ?_ ?_
 ·clear h
  rcases ft (!v1) with ha0 | ha0
  ·replace hw3:=yon ha0 hw3
   have hw3:=oi hw3
   subst hw3
   exact(r_gq [dP 0 a0,pI 1 a1,pB 13 true] [hC 1 [.p (.bool v1)],(4,gT),(5,gT),(6,gT),(7,bT)] (A5 (ygc hv1) ha0 ha0 ha0 ha0))
  obtain⟨v2,hv2,hw3⟩:=bs (ypn ha0 hw3)
  have hw3:=oi hw3
  subst hw3
  exact(r_gq [dP 0 a0,pI 1 a1,pB 13 (!v2)] [hC 1 [.p (.bool v1)],(4,gF),(5,(gN [.p (.bool v2)])),(6,gF),(7,bF)] (A6 (ygc hv1) ha0 ha0 (yng hv2) ha0 ha0))
 refine kI h (fun hc2_3 h=>?_) (fun hc2_3 h=>?_)
 ·refine kG [vN 4 85,pB 5 false] [] trivial ?_
  refine yra (q_r ?_)
  obtain rfl:=oi h
  exact er [(.ov false (oN 85),4),(.p (.bool false),5)]
 refine yia (q_n ?_)
 obtain⟨v5,hv5,h⟩:=bs h
 refine kG [vP 4 85 v5.1,pB 5 v5.2] [hC 2 [.ov false (oP 85 v5.1),.p (.bool v5.2)]] (A2 (yvb1 hv5) (show List.all [.ov false (oP 85 v5.1),.p (.bool v5.2)] simpleR=true from(sa_o (wnR1 (ysc (wn_P (wn_P wn_I wn_I) (wn_P wn_I wn_I))) rfl) (sa_p rfl)))) ?_
 refine yra ?_
 obtain rfl:=oi h
 exact er [(.ov false (oP 85 v5.1),4),(.p (.bool v5.2),5)]
theorem yha1 {a0:(List Qp)} {a1:(List Qp)}  {r:Bool} (h:yjn a0 a1=some r):Meets Tryz.prog 44 [.d false (sP a0),.d false (sP a1)] { vals:=[.p (.bool r)] }:=by
 refine mo Tryz.func44 [dP 0 a0,dP 1 a1] ?_
 unfold yjn at h
 refine kG [dP 0 a0,dP 1 a1] [] trivial ?_
 refine yib (kG [dP 0 a0,dP 1 a1,pB 10 ((a0.length:Int) != (a1.length:Int))] [hN 1 a0,hN 3 a1] (A2 (lnP a0) (lnP a1)) ?_)
 refine kI h (fun hc2_0 h=>?_) (fun hc2_0 h=>?_)
 ·refine kG [pB 4 false] [] trivial ?_
  refine yra (q_r ?_)
  obtain rfl:=oi h
  exact er [(.p (.bool false),4)]
 refine yia (q_n (ywb (J:=fun (x:Unit)=>[]) (K:=fun x=>yhl x=some r) (fun x2 h=>?_) ?_))
 ·unfold yhl at h
  refine kG [pB 4 true] [] trivial ?_
  refine yra ?_
  obtain rfl:=oi h
  exact er [(.p (.bool true),4)]
 refine kG [dP 0 a0,dP 1 a1,pL 12 a0,pI 13 0] [hN 1 a0] (A1 (lnP a0)) ?_
 refine yja ?_
 obtain⟨y4,hl_x3,hk_x3⟩:=bs h
 clear h
 refine yfd (J:=fun (x:Int)=>[dP 0 a0,dP 1 a1,pL 12 a0,pI 13 x]) hl_x3 wkk (fun x3 o_x3 h hy_x3=>?_)
 unfold yxf at h
 refine kG [dP 0 a0,dP 1 a1,pL 12 a0,pI 13 x3,pB 14 (decide (x3<(a0.length:Int)))] [] trivial ?_
 refine yib (kI h (fun hc5_4 h=>?_) (fun hc5_4 h=>?_))
 ·refine yia (q_n (yib (yja (kG [dP 0 a0,dP 1 a1,pI 5 x3,pL 12 a0,pI 13 x3] [] trivial ?_))))
  obtain⟨v6,hv6,h⟩:=bs h
  obtain⟨v7,hv7,h⟩:=bs h
  refine ylb (r_dq yfa 8 [] [dP 0 a0,dP 1 a1,pL 12 a0,pI 13 x3,pB 24 (!(((v6.1.1==v7.1.1)&&(v6.1.2==v7.1.2))&&((v6.2.1==v7.2.1)&&(v6.2.2==v7.2.2))))] [hR 2 (ePt v6),hR 6 (ePt v7),(8,{pv:=some (.bool (!(((v6.1.1==v7.1.1)&&(v6.1.2==v7.1.2))&&((v6.2.1==v7.2.1)&&(v6.2.2==v7.2.2)))))})] (A5 (yba hv6).1 (yda ePt (yba hv6).2) (yba hv7).1 (yda ePt (yba hv7).2) (show PureAt Tryz.prog (.binOp .neq 85 (.tmp 19) (.tmp 23) 85) [vPt v6,vPt v7] (.bool (!(((v6.1.1==v7.1.1)&&(v6.1.2==v7.1.2))&&((v6.2.1==v7.2.1)&&(v6.2.2==v7.2.2))))) from(yop1 (by kernel_rfl))))) ?_
  refine kI h (fun hc6_7 h=>?_) (fun hc6_7 h=>?_)
  ·refine kG [pB 4 false] [] trivial ?_
   refine yra (b_r (q_r (lq_r ?_)))
   refine b_r (q_r ?_)
   have hyy:=hy_x3 _ (oi h).symm
   subst hyy
   have h:=hk_x3
   dsimp only[Sum.elim] at h
   obtain rfl:=oi h
   exact er [(.p (.bool false),4)]
  refine yia (b_n (q_n (yrc (r_gq [dP 0 a0,dP 1 a1,pL 12 a0,pI 13 (w64 (x3+1))] [] trivial) ?_)))
  exact lqn (w64 (x3+1)) h
 refine yzc (q_x (lq_x (b_x ?_)))
 have hyy:=hy_x3 _ (oi h).symm
 subst hyy
 have h:=hk_x3
 dsimp only[Sum.elim] at h
 refine q_n ?_
 exact jx () h
theorem ypv {a0:(List Qp)}  {r:((List (List Int))×Bool)} (h:yfo a0=some r):Meets Tryz.prog 45 [.d false (sP a0)] { vals:=[rO 50 (eO 3 eI) r.1,.p (.bool r.2)] }:=by
 refine mo Tryz.func45 [dP 0 a0] ?_
 unfold yfo at h
 refine kG [dP 0 a0] [] trivial ?_
 refine yib ?_
 obtain⟨v1,hv1,h⟩:=bs h
 refine kG [dP 0 a0,pB 6 (!v1)] [hC 1 [.p (.bool v1)]] (A1 (yve hv1)) ?_
 refine kI h (fun hc2_1 h=>?_) (fun hc2_1 h=>?_)
 ·refine kG [vN 2 50,pB 3 false] [] trivial ?_
  refine yra (q_r ?_)
  obtain rfl:=oi h
  exact er [(.ov false (oN 50),2),(.p (.bool false),3)]
 refine yia (q_n ?_)
 obtain⟨v3,hv3,h⟩:=bs h
 refine kG [vL 2 50 (eO 3 eI) v3,pB 3 true] [hC 1 [rO 50 (eO 3 eI) v3]] (A2 (yer hv3) (show List.all [rO 50 (eO 3 eI) v3] simpleR=true from(sa_o (wnR1 (ysc (wn_O wn_I)) rfl) rfl))) ?_
 refine yra ?_
 obtain rfl:=oi h
 exact er [(.ov false [.sl (some 50) (v3.map (eO 3 eI))],2),(.p (.bool true),3)]
theorem yqv {a0:(List Qp)}  {r:((List (List Int))×Bool)} (h:ygo a0=some r):Meets Tryz.prog 46 [.d false (sP a0)] { vals:=[rO 50 (eO 3 eI) r.1,.p (.bool r.2)] }:=by
 refine mo Tryz.func46 [dP 0 a0] ?_
 unfold ygo at h
 refine kG [dP 0 a0] [] trivial ?_
 refine yib ?_
 obtain⟨v1,hv1,h⟩:=bs h
 refine kG [dP 0 a0,pB 6 (!v1)] [hC 1 [.p (.bool v1)]] (A1 (ygc hv1)) ?_
 refine kI h (fun hc2_1 h=>?_) (fun hc2_1 h=>?_)
 ·refine kG [vN 2 50,pB 3 false] [] trivial ?_
  refine yra (q_r ?_)
  obtain rfl:=oi h
  exact er [(.ov false (oN 50),2),(.p (.bool false),3)]
 refine yia (q_n ?_)
 obtain⟨v3,hv3,h⟩:=bs h
 refine kG [vL 2 50 (eO 3 eI) v3,pB 3 true] [hC 1 [rO 50 (eO 3 eI) v3]] (A2 (yun hv3) (show List.all [rO 50 (eO 3 eI) v3] simpleR=true from(sa_o (wnR1 (ysc (wn_O wn_I)) rfl) rfl))) ?_
 refine yra ?_
 obtain rfl:=oi h
 exact er [(.ov false [.sl (some 50) (v3.map (eO 3 eI))],2),(.p (.bool true),3)]
end Go.PV

/-
  Walks through the functions that the law reaches: each answers as its plain definition does.
  Conditions: none.
-/
import Derived.KernelRfl
import Derived.Test.YtigabkbbbpokbaaGreatWMarkovPartB
import Derived.Test.YtigabkbbbpokbaaGreatProg
import Derived.Test.YtigabkbbbpokbaaGreatSrtYtigabkbbbpokbaaGreat
import Derived.Test.YtigabkbbbpokbaaGreatGrwYtigabkbbbpokbaaGreat
import Derived.Test.YtigabkbbbpokbaaGreatPvCx
open Go Go.PV Go.Proofs
set_option linter.all false
namespace Go.PV
attribute [local irreducible] pvC pvL pvD sOp seqQ blockQ Meets MeetsB Ok OkL RegOk agree endQ seqL blockL loopQ endL endLB OkV Takes
theorem ynu {a0:(List Qr)} {a1:Qr}  {r:(List Int)} (h:ynm a0 a1=some r):Meets Tryz.prog 100 [.d false [.sl none (a0.map eRt)],.v (vRt a1)] { vals:=[rO 3 eI r] }:=by
 refine mo Tryz.func100 [dL 0 eRt a0,(1,.p (vRt a1))] ?_
 unfold ynm at h
 refine kG [dL 0 eRt a0,bR 3 a1] [] trivial ?_
 refine kG [dL 0 eRt a0,bR 3 a1,vN 5 3] [] trivial ?_
 refine yjb (J:=fun (x:(List Int))=>[vL 5 3 eI x]) (K:=fun x=>yor x=some r) (fun x1 h=>?_) ?_
 ·unfold yor at h
  refine kG [vL 4 3 eI x1] [] trivial ?_
  refine ypa ?_
  obtain rfl:=oi h
  exact er [(.ov false [.sl (some 3) (x1.map eI)],4)]
 obtain⟨v2,hv2,h⟩:=bs h
 refine kG [bR 3 a1,vN 5 3,vP 9 40 v2,pL 10 v2,pI 11 0] [hC 1 [.ov false (oP 40 v2)],hN 2 v2] (A3 (ydw hv2) (show List.all [.ov false (oP 40 v2)] simpleR=true from(sa_o (wnR1 (yvc (wn_P (wn_P wn_I wn_I) (wn_P wn_I wn_I))) rfl) rfl)) (lnP v2)) ?_
 refine yda ?_
 obtain⟨y4,hl_x3,hk_x3⟩:=bs h
 clear h
 refine yyb (J:=fun (x:((List Int)×Int))=>[bR 3 a1,vL 5 3 eI x.1,vP 9 40 v2,pL 10 v2,pI 11 x.2]) hl_x3 wkk (fun x3 o_x3 h hy_x3=>?_)
 unfold ych at h
 refine kG [bR 3 a1,vL 5 3 eI x3.1,vP 9 40 v2,pL 10 v2,pI 11 x3.2,pB 12 (decide (x3.2<(v2.length:Int)))] [] trivial ?_
 refine yeb (kI h (fun hc5_4 h=>?_) (fun hc5_4 h=>?_))
 ·refine yga (q_n (yeb (yda ?_)))
  obtain⟨v6,hv6,h⟩:=bs h
  refine kG [bR 3 a1,vL 5 3 eI x3.1,pI 6 x3.2,bP 7 v6,vP 9 40 v2,pL 10 v2,pI 11 x3.2] [hR 1 (ePt v6),hR 2 (ePt v6)] (A3 (yba hv6).1 (yca ePt (yba hv6).2) (gW 40 ePt hv6)) ?_
  obtain⟨v7,hv7,h⟩:=bs h
  obtain⟨w9,hw9,h⟩:=bs h
  refine ynb (l1:=[bR 3 a1,vL 5 3 eI x3.1,pI 6 x3.2,vP 9 40 v2,pL 10 v2,pI 11 x3.2,pB 27 w9]) ?_ ?_
  ·clear h
   rcases ft (!v7) with ha1 | ha1
   ·obtain⟨v8,hv8,hw9⟩:=bs (yjh ha1 hw9)
    have hw9:=oi hw9
    subst hw9
    exact(r_gq [bR 3 a1,vL 5 3 eI x3.1,pI 6 x3.2,vP 9 40 v2,pL 10 v2,pI 11 x3.2,pB 27 (!v8)] [hC 3 [.p (.bool v7)],(6,gT),(7,gT),(8,gT),(9,{g:=some true,call:=some (none,[.p (.bool v8)],true)}),(10,gT),(11,bT)] (B6 (ygd hv7) ha1 ha1 ha1 ha1 (ygd hv8) (A2 ha1 ha1)))
   replace hw9:=ykh ha1 hw9
   have hw9:=oi hw9
   subst hw9
   exact(r_gq [bR 3 a1,vL 5 3 eI x3.1,pI 6 x3.2,vP 9 40 v2,pL 10 v2,pI 11 x3.2,pB 27 false] [hC 3 [.p (.bool v7)],(6,gF),(7,gF),(8,gF),(9,gF),(10,gF),(11,bF)] (B6 (ygd hv7) ha1 ha1 ha1 ha1 ha1 (A1 ha1)))
  refine kI h (fun hc6_9 h=>?_) (fun hc6_9 h=>?_)
  ·obtain⟨u11,hu11,h⟩:=bs h
   refine yhc (r_gq [bR 3 a1,vL 5 3 eI (x3.1++[x3.2]),vP 9 40 v2,pL 10 v2,pI 11 x3.2] [(3,{fix:=some (vL 31 3 eI (x3.1++[x3.2]))})] (A3 (lG' eI hu11) (show ∀ row∈((([x3.2]).map eI):List (List C)),row.length=1 from(yfc fun _=>rfl)) (aP' 3 eI x3.1 ([x3.2])))) ?_
   refine b_n (q_n (yhc (r_gq [bR 3 a1,vL 5 3 eI (x3.1++[x3.2]),vP 9 40 v2,pL 10 v2,pI 11 (w64 (x3.2+1))] [] trivial) ?_))
   exact lqn ((x3.1++[x3.2]),(w64 (x3.2+1))) h
  refine yga (b_n (q_n (yhc (r_gq [bR 3 a1,vL 5 3 eI x3.1,vP 9 40 v2,pL 10 v2,pI 11 (w64 (x3.2+1))] [] trivial) ?_)))
  exact lqn (x3.1,(w64 (x3.2+1))) h
 refine yrb (q_x (lq_x (b_x ?_)))
 have hyy:=hy_x3 _ (oi h).symm
 subst hyy
 have h:=hk_x3
 refine q_n ?_
 exact jx x3.1 h
theorem yoc1 {a0:(List Qr)} {a1:Qr}  {r:((List Int)×Bool)} (h:yrp a0 a1=some r):Meets Tryz.prog 38 [.d false [.sl none (a0.map eRt)],.v (vRt a1)] { vals:=[rO 3 eI r.1,.p (.bool r.2)] }:=by
 refine mo Tryz.func38 [dL 0 eRt a0,(1,.p (vRt a1))] ?_
 unfold yrp at h
 refine kG [dL 0 eRt a0,bR 3 a1] [] trivial ?_
 refine yeb ?_
 obtain⟨v1,hv1,h⟩:=bs h
 obtain⟨w3,hw3,h⟩:=bs h
 refine ynb (l1:=[dL 0 eRt a0,bR 3 a1,pB 13 w3]) ?_ ?_
 ·clear h
  rcases ft (!v1) with ha0 | ha0
  ·replace hw3:=yjh ha0 hw3
   have hw3:=oi hw3
   subst hw3
   exact(r_gq [dL 0 eRt a0,bR 3 a1,pB 13 true] [hC 1 [.p (.bool v1)],(4,gT),(5,gT),(6,gT),(7,bT)] (A5 (yhd hv1) ha0 ha0 ha0 ha0))
  obtain⟨v2,hv2,hw3⟩:=bs (ykh ha0 hw3)
  have hw3:=oi hw3
  subst hw3
  exact(r_gq [dL 0 eRt a0,bR 3 a1,pB 13 (!v2)] [hC 1 [.p (.bool v1)],(4,gF),(5,(gN [.p (.bool v2)])),(6,gF),(7,bF)] (A6 (yhd hv1) ha0 ha0 (yuj hv2) ha0 ha0))
 refine kI h (fun hc2_3 h=>?_) (fun hc2_3 h=>?_)
 ·refine kG [vN 4 3,pB 5 false] [] trivial ?_
  refine ypa (q_r ?_)
  obtain rfl:=oi h
  exact er [(.ov false (oN 3),4),(.p (.bool false),5)]
 refine yga (q_n ?_)
 obtain⟨v5,hv5,h⟩:=bs h
 refine kG [vL 4 3 eI v5,pB 5 true] [hC 2 [rO 3 eI v5]] (A2 (ynu hv5) (show List.all [rO 3 eI v5] simpleR=true from(sa_o (wnR1 (yvc wn_I) rfl) rfl))) ?_
 refine ypa ?_
 obtain rfl:=oi h
 exact er [(.ov false [.sl (some 3) (v5.map eI)],4),(.p (.bool true),5)]
theorem yoq {a0:(List Qr)} {a1:Qr}  {r:(List Int)} (h:ysj a0 a1=some r):Meets Tryz.prog 102 [.d false [.sl none (a0.map eRt)],.v (vRt a1)] { vals:=[rO 3 eI r] }:=by
 refine mo Tryz.func102 [dL 0 eRt a0,(1,.p (vRt a1))] ?_
 unfold ysj at h
 refine kG [dL 0 eRt a0,bR 3 a1] [] trivial ?_
 refine kG [dL 0 eRt a0,bR 3 a1,vN 5 3] [] trivial ?_
 refine yjb (J:=fun (x:(List Int))=>[vL 5 3 eI x]) (K:=fun x=>ypr x=some r) (fun x1 h=>?_) ?_
 ·unfold ypr at h
  refine kG [vL 4 3 eI x1] [] trivial ?_
  refine ypa ?_
  obtain rfl:=oi h
  exact er [(.ov false [.sl (some 3) (x1.map eI)],4)]
 refine kG [dL 0 eRt a0,bR 3 a1,vN 5 3,pI 6 1] [] trivial ?_
 refine yda ?_
 obtain⟨y3,hl_x2,hk_x2⟩:=bs h
 clear h
 refine yyb (J:=fun (x:((List Int)×Int))=>[dL 0 eRt a0,bR 3 a1,vL 5 3 eI x.1,pI 6 x.2]) hl_x2 wkk (fun x2 o_x2 h hy_x2=>?_)
 unfold ydh at h
 refine yeb (kG [dL 0 eRt a0,bR 3 a1,vL 5 3 eI x2.1,pI 6 x2.2,pB 10 (decide (x2.2<(a0.length:Int)))] [hN 2 a0] (A1 (lF eRt a0)) ?_)
 refine kI h (fun hc5_3 h=>?_) (fun hc5_3 h=>?_)
 ·refine yga (q_n (yeb (yda ?_)))
  obtain⟨v5,hv5,h⟩:=bs h
  obtain⟨v6,hv6,h⟩:=bs h
  obtain⟨w9,hw9,h⟩:=bs h
  refine ynb (l1:=[dL 0 eRt a0,bR 3 a1,vL 5 3 eI x2.1,pI 6 x2.2,pB 29 w9]) ?_ ?_
  ·clear h
   rcases ft (decide (v6<=0)) with ha1 | ha1
   ·obtain⟨v7,hv7,hw9⟩:=bs (yjh ha1 hw9)
    obtain⟨v8,hv8,hw9⟩:=bs hw9
    have hw9:=oi hw9
    subst hw9
    exact(r_dq yfa 14 [] [dL 0 eRt a0,bR 3 a1,vL 5 3 eI x2.1,pI 6 x2.2,pB 29 (decide (v8<=0))] [hR 3 (eRt v5),hC 6 [.p (iV v6)],(9,gT),(10,gT),(11,gT),(12,{g:=some true,row:=some (eRt v7)}),(13,gT),(14,{g:=some true,call:=some (none,[.p (iV v8)],true)}),(15,gT),(16,bT)] (B6 (yba hv5).1 (yca eRt (yba hv5).2) (yde hv6) ha1 ha1 ha1 (B6 ha1 (yba hv7).1 (yca eRt (yba hv7).2) ha1 ha1 (yde hv8) (A2 ha1 ha1))))
   replace hw9:=ykh ha1 hw9
   have hw9:=oi hw9
   subst hw9
   exact(r_dq yfa 14 [] [dL 0 eRt a0,bR 3 a1,vL 5 3 eI x2.1,pI 6 x2.2,pB 29 false] [hR 3 (eRt v5),hC 6 [.p (iV v6)],(9,gF),(10,gF),(11,gF),(12,gF),(13,gF),(14,gF),(15,gF),(16,bF)] (B6 (yba hv5).1 (yca eRt (yba hv5).2) (yde hv6) ha1 ha1 ha1 (A5 ha1 ha1 ha1 ha1 ha1)))
  refine kI h (fun hc6_9 h=>?_) (fun hc6_9 h=>?_)
  ·obtain⟨u11,hu11,h⟩:=bs h
   refine yhc (r_gq [dL 0 eRt a0,bR 3 a1,vL 5 3 eI (x2.1++[(w64 (x2.2-1))]),pI 6 x2.2] [(4,{fix:=some (vL 34 3 eI (x2.1++[(w64 (x2.2-1))]))})] (A3 (lG' eI hu11) (show ∀ row∈((([(w64 (x2.2-1))]).map eI):List (List C)),row.length=1 from(yfc fun _=>rfl)) (aP' 3 eI x2.1 ([(w64 (x2.2-1))])))) ?_
   refine b_n (q_n (yhc (r_gq [dL 0 eRt a0,bR 3 a1,vL 5 3 eI (x2.1++[(w64 (x2.2-1))]),pI 6 (w64 (x2.2+1))] [] trivial) ?_))
   exact lqn ((x2.1++[(w64 (x2.2-1))]),(w64 (x2.2+1))) h
  refine yga (b_n (q_n (yhc (r_gq [dL 0 eRt a0,bR 3 a1,vL 5 3 eI x2.1,pI 6 (w64 (x2.2+1))] [] trivial) ?_)))
  exact lqn (x2.1,(w64 (x2.2+1))) h
 refine yrb (q_x (lq_x (b_x ?_)))
 have hyy:=hy_x2 _ (oi h).symm
 subst hyy
 have h:=hk_x2
 refine q_n ?_
 exact jx x2.1 h
theorem ypc1 {a0:(List Qr)} {a1:Qr}  {r:((List Int)×Bool)} (h:ysp a0 a1=some r):Meets Tryz.prog 39 [.d false [.sl none (a0.map eRt)],.v (vRt a1)] { vals:=[rO 3 eI r.1,.p (.bool r.2)] }:=by
 refine mo Tryz.func39 [dL 0 eRt a0,(1,.p (vRt a1))] ?_
 unfold ysp at h
 refine kG [dL 0 eRt a0,bR 3 a1] [] trivial ?_
 refine yeb ?_
 obtain⟨v1,hv1,h⟩:=bs h
 obtain⟨w3,hw3,h⟩:=bs h
 refine ynb (l1:=[dL 0 eRt a0,bR 3 a1,pB 13 w3]) ?_ ?_
 ·clear h
  rcases ft (!v1) with ha0 | ha0
  ·replace hw3:=yjh ha0 hw3
   have hw3:=oi hw3
   subst hw3
   exact(r_gq [dL 0 eRt a0,bR 3 a1,pB 13 true] [hC 1 [.p (.bool v1)],(4,gT),(5,gT),(6,gT),(7,bT)] (A5 (ylt hv1) ha0 ha0 ha0 ha0))
  obtain⟨v2,hv2,hw3⟩:=bs (ykh ha0 hw3)
  have hw3:=oi hw3
  subst hw3
  exact(r_gq [dL 0 eRt a0,bR 3 a1,pB 13 (!v2)] [hC 1 [.p (.bool v1)],(4,gF),(5,(gN [.p (.bool v2)])),(6,gF),(7,bF)] (A6 (ylt hv1) ha0 ha0 (ybe hv2) ha0 ha0))
 refine kI h (fun hc2_3 h=>?_) (fun hc2_3 h=>?_)
 ·refine kG [vN 4 3,pB 5 false] [] trivial ?_
  refine ypa (q_r ?_)
  obtain rfl:=oi h
  exact er [(.ov false (oN 3),4),(.p (.bool false),5)]
 refine yga (q_n ?_)
 obtain⟨v5,hv5,h⟩:=bs h
 refine kG [vL 4 3 eI v5,pB 5 true] [hC 2 [rO 3 eI v5]] (A2 (yoq hv5) (show List.all [rO 3 eI v5] simpleR=true from(sa_o (wnR1 (yvc wn_I) rfl) rfl))) ?_
 refine ypa ?_
 obtain rfl:=oi h
 exact er [(.ov false [.sl (some 3) (v5.map eI)],4),(.p (.bool true),5)]
theorem yck1 {a0:(List Int)}  {r:Int} (h:yez a0=some r):Meets Tryz.prog 40 [.d false [.sl none (a0.map eI)]] { vals:=[.p (iV r)] }:=by
 refine mo Tryz.func40 [dL 0 eI a0] ?_
 unfold yez at h
 refine kG [dL 0 eI a0] [] trivial ?_
 refine kG [dL 0 eI a0,pI 3 0] [] trivial ?_
 refine yjb (J:=fun (x:Int)=>[pI 3 x]) (K:=fun x=>ycx x=some r) (fun x1 h=>?_) ?_
 ·unfold ycx at h
  refine kG [pI 2 x1] [] trivial ?_
  refine ypa ?_
  obtain rfl:=oi h
  exact er [(.p (iV x1),2)]
 refine kG [pI 3 0,dL 6 eI a0,pL 7 a0,pI 8 0] [hN 1 a0] (A1 (lF eI a0)) ?_
 refine yda ?_
 obtain⟨y3,hl_x2,hk_x2⟩:=bs h
 clear h
 refine yyb (J:=fun (x:Qr)=>[pI 3 x.1,dL 6 eI a0,pL 7 a0,pI 8 x.2]) hl_x2 wkk (fun x2 o_x2 h hy_x2=>?_)
 unfold yqr at h
 refine kG [pI 3 x2.1,dL 6 eI a0,pL 7 a0,pI 8 x2.2,pB 9 (decide (x2.2<(a0.length:Int)))] [] trivial ?_
 refine yeb (kI h (fun hc5_3 h=>?_) (fun hc5_3 h=>?_))
 ·refine yga (q_n (yeb (yda ?_)))
  obtain⟨v5,hv5,h⟩:=bs h
  refine kG [pI 3 x2.1,pI 5 v5,dL 6 eI a0,pL 7 a0,pI 8 x2.2] [hR 0 (eI v5)] (A2 (yba hv5).1 (yca eI (yba hv5).2)) ?_
  refine yhc (r_gq [pI 3 (w64 (x2.1+v5)),dL 6 eI a0,pL 7 a0,pI 8 x2.2] [] trivial) ?_
  refine b_n (q_n (yhc (r_gq [pI 3 (w64 (x2.1+v5)),dL 6 eI a0,pL 7 a0,pI 8 (w64 (x2.2+1))] [] trivial) ?_))
  exact lqn ((w64 (x2.1+v5)),(w64 (x2.2+1))) h
 refine yrb (q_x (lq_x (b_x ?_)))
 have hyy:=hy_x2 _ (oi h).symm
 subst hyy
 have h:=hk_x2
 refine q_n ?_
 exact jx x2.1 h
theorem yqz {a0:Cu}  {r:((List Qr)×Cu)} (h:yzk a0=some r):MeetsB Tryz.prog 166 (.box (eCu a0)) [] [.d false [.sl none (r.1.map eRt)]] (.box (eCu r.2)):=by
 refine mob Tryz.func166 [bC 0 a0] ?_
 unfold yzk at h
 refine kG [bC 0 a0] [] trivial ?_
 obtain⟨v1,hv1,h⟩:=bs h
 obtain⟨v2,hv2,h⟩:=bs h
 refine kG [bC 0 a0,vL 3 38 eRt ([v1,v2])] [hC 0 [.p (vRt v1)],hC 1 [.p (vRt v2)]] (A2 (yhb hv1) (yhb hv2)) ?_
 obtain⟨v3,hv3,h⟩:=bs h
 refine kG [bC 0 v3.2,vL 3 38 eRt ([v1,v2]),pI 4 v3.1] [hF 1 [.p (iV v3.1)] (.box (eCu v3.2))] (A1 (yja hv3)) ?_
 refine yeb ?_
 obtain⟨v4,hv4,h⟩:=bs h
 refine kG [bC 0 v4.2,vL 3 38 eRt ([v1,v2]),pI 4 v3.1,pB 12 v4.1] [hF 1 [.p (.bool v4.1)] (.box (eCu v4.2))] (A1 (ytb hv4)) ?_
 refine kI h (fun hc2_4 h=>?_) (fun hc2_4 h=>?_)
 ·obtain⟨v6,hv6,h⟩:=bs h
  refine yhc (r_gq [bC 0 v6.2,vL 3 38 eRt ([v1,v2]),pI 4 (w64 (7+v6.1))] [hF 1 [.p (iV v6.1)] (.box (eCu v6.2))] (A1 (yja hv6))) ?_
  refine q_n (yjb (J:=fun (x:((List Int)×Int×Int×(List Qr)))=>[bC 0 (x.1,x.2.1,x.2.2.1),vL 3 38 eRt x.2.2.2]) (K:=fun x=>ymo x=some r) (fun x7 h=>?_) ?_)
  ·unfold ymo at h
   refine yeb ?_
   obtain⟨v8,hv8,h⟩:=bs h
   refine kG [bC 0 v8.2,vL 3 38 eRt x7.2.2.2,pI 35 v8.1] [hF 1 [.p (iV v8.1)] (.box (eCu v8.2))] (A1 (yja hv8)) ?_
   refine yda (kG [bC 0 v8.2,vL 3 38 eRt x7.2.2.2,pI 35 v8.1,pB 36 (v8.1==0)] [] trivial ?_)
   refine kI h (fun hc3_8 h=>?_) (fun hc3_8 h=>?_)
   ·refine ygs1 3 (g:=false) (cs:=[.sl (some 38) (x7.2.2.2.map eRt)]) [.sl none (x7.2.2.2.map eRt)] [bC 0 v8.2,dL 3 eRt x7.2.2.2,pI 35 v8.1,pB 36 (v8.1==0)] (yqf (yka (ywt er_I er_I)) rfl) ?_
    obtain⟨u10,hu10,h⟩:=bs h
    refine yhc (r_gq [bC 0 v8.2,dL 3 eRt (x7.2.2.2.drop (Int.toNat 1))] [(1,{fix:=some (dL 39 eRt (x7.2.2.2.drop (Int.toNat 1)))})] (A5 (show(Int.toNat 1)<=(x7.2.2.2.map eRt).length from(by have hg:=(ysa hu10);first | (simp only[List.length_map];omega) | omega)) (show(x7.2.2.2.map eRt).length<=(x7.2.2.2.map eRt).length from(Nat.le_refl _)) (show ∀ row∈(x7.2.2.2.map eRt),row.length=2 from(yfc fun _=>rfl)) (show(0:Int)<=1 from(by have hg:=(ysa hu10);omega)) (show(SV.d false [.sl none (((x7.2.2.2.map eRt).take (x7.2.2.2.map eRt).length).drop (Int.toNat 1))]:SV)=.d false [.sl none ((x7.2.2.2.drop (Int.toNat 1)).map eRt)] from(congrArg (fun z=>SV.d false [.sl none z]) ypy1)))) ?_
    refine b_n (q_n (kG [bC 0 v8.2,dL 2 eRt (x7.2.2.2.drop (Int.toNat 1))] [] trivial ?_))
    refine ypa ?_
    obtain rfl:=oi h
    exact ebr [(.d false [.sl none ((x7.2.2.2.drop (Int.toNat 1)).map eRt)],2)]
   refine kG [bC 0 v8.2,vL 3 38 eRt x7.2.2.2,pB 40 (v8.1==1)] [] trivial ?_
   refine kI h (fun hc3_10 h=>?_) (fun hc3_10 h=>?_)
   ·obtain⟨v12,hv12,h⟩:=bs h
    obtain⟨v13,hv13,h⟩:=bs h
    obtain⟨v14,hv14,h⟩:=bs h
    refine yhc (r_gq [bC 0 v13.2,vL 3 38 eRt (x7.2.2.2.set (Int.toNat v12.1) v13.1)] [hN 3 x7.2.2.2,hF 4 [.p (iV v12.1)] (.box (eCu v12.2)),hF 6 [.p (vRt v13.1)] (.box (eCu v13.2)),hR 7 (eRt v14),(8,{row:=some (eRt v14),fix:=some (vL 3 38 eRt (x7.2.2.2.set (Int.toNat v12.1) v13.1))})] (B6 (lF eRt x7.2.2.2) (yja hv12) (yzc hv13) (yba hv14).1 (yca eRt (yba hv14).2) (gW 38 eRt hv14) (A1 (show(SV.ov false [.sl (some 38) (setL (x7.2.2.2.map eRt) [((Int.toNat v12.1),0)] (eRt v13.1))]:SV)=.ov false [.sl (some 38) ((x7.2.2.2.set (Int.toNat v12.1) v13.1).map eRt)] from(congrArg (fun z=>SV.ov false [.sl (some 38) z]) (set1 (f:=eRt) (y:=v13.1) (yba hv14).2 rfl)))))) ?_
    refine b_n (q_n (ygs1 3 (g:=false) (cs:=[.sl (some 38) ((x7.2.2.2.set (Int.toNat v12.1) v13.1).map eRt)]) [.sl none ((x7.2.2.2.set (Int.toNat v12.1) v13.1).map eRt)] [bC 0 v13.2,dL 3 eRt (x7.2.2.2.set (Int.toNat v12.1) v13.1)] (yqf (yka (ywt er_I er_I)) rfl) ?_))
    refine kG [bC 0 v13.2,dL 2 eRt (x7.2.2.2.set (Int.toNat v12.1) v13.1)] [] trivial ?_
    refine ypa ?_
    obtain rfl:=oi h
    exact ebr [(.d false [.sl none ((x7.2.2.2.set (Int.toNat v12.1) v13.1).map eRt)],2)]
   refine yga (b_n (q_n (ygs1 3 (g:=false) (cs:=[.sl (some 38) (x7.2.2.2.map eRt)]) [.sl none (x7.2.2.2.map eRt)] [bC 0 v8.2,dL 3 eRt x7.2.2.2,pB 40 (v8.1==1)] (yqf (yka (ywt er_I er_I)) rfl) ?_)))
   refine kG [bC 0 v8.2,dL 2 eRt x7.2.2.2] [] trivial ?_
   refine ypa ?_
   obtain rfl:=oi h
   exact ebr [(.d false [.sl none (x7.2.2.2.map eRt)],2)]
  refine kG [bC 0 v6.2,vL 3 38 eRt ([v1,v2]),pI 4 (w64 (7+v6.1)),pI 5 0] [] trivial ?_
  refine yda ?_
  obtain⟨y16,hl_x15,hk_x15⟩:=bs h
  clear h
  refine yyb (J:=fun (x:((List Int)×Int×Int×(List Qr)×Int))=>[bC 0 (x.1,x.2.1,x.2.2.1),vL 3 38 eRt x.2.2.2.1,pI 4 (w64 (7+v6.1)),pI 5 x.2.2.2.2]) hl_x15 wkk (fun x15 o_x15 h hy_x15=>?_)
  unfold yno at h
  refine yeb (ynb (l1:=[bC 0 (x15.1,x15.2.1,x15.2.2.1),vL 3 38 eRt x15.2.2.2.1,pI 4 (w64 (7+v6.1)),pI 5 x15.2.2.2.2,pB 24 ((decide ((x15.2.2.2.1.length:Int)<(w64 ((w64 (7+v6.1))+2))))&&(decide (x15.2.2.2.2<60)))]) ?_ ?_)
  ·rcases ft (decide ((x15.2.2.2.1.length:Int)<(w64 ((w64 (7+v6.1))+2)))) with ha1 | ha1
   ·exact RegOk.of_eq (r_gq [bC 0 (x15.1,x15.2.1,x15.2.2.1),vL 3 38 eRt x15.2.2.2.1,pI 4 (w64 (7+v6.1)),pI 5 x15.2.2.2.2,pB 24 (decide (x15.2.2.2.2<60))] [hN 1 x15.2.2.2.1,(6,gT),(7,gT),(8,bT)] (A4 (lF eRt x15.2.2.2.1) ha1 ha1 ha1)) (by simp[ha1])
   exact RegOk.of_eq (r_gq [bC 0 (x15.1,x15.2.1,x15.2.2.1),vL 3 38 eRt x15.2.2.2.1,pI 4 (w64 (7+v6.1)),pI 5 x15.2.2.2.2,pB 24 false] [hN 1 x15.2.2.2.1,(6,gF),(7,gF),(8,bF)] (A4 (lF eRt x15.2.2.2.1) ha1 ha1 ha1)) (by simp[ha1])
  refine kI h (fun hc5_16 h=>?_) (fun hc5_16 h=>?_)
  ·refine yga (q_n (yeb (yda ?_)))
   obtain⟨v18,hv18,h⟩:=bs h
   obtain⟨v19,hv19,h⟩:=bs h
   obtain⟨v20,hv20,h⟩:=bs h
   refine yhc (r_gq [bC 0 v19.2,vL 3 38 eRt v20,pI 4 (w64 (7+v6.1)),pI 5 x15.2.2.2.2] [(4,{lend:=some (some [.d false [.sl none (([2,3,4,12]).map eI)]],[.p (iV v18.1)],.box (eCu v18.2),false),fix:=some (dL 30 eI ([2,3,4,12]))}),hF 5 [.p (vRt v19.1)] (.box (eCu v19.2)),(6,{lend:=some (none,[rO 38 eRt v20],.u,true)})] (A6 (show([.d false [.sl none (eraL (([2,3,4,12]).map eI))]]:List Arg)=[.d false [.sl none (([2,3,4,12]).map eI)]] from(by simp only[yka (h:=eI) er_I])) (yna hv18) (show(SV.d false (eraR [.sl (some 3) (([2,3,4,12]).map eI)]):SV)=.d false [.sl none (([2,3,4,12]).map eI)] from(congrArg (fun z=>SV.d false z) (yqf (yka er_I) rfl))) (yjc hv19) (yyl hv20) (sR' 38 v20))) ?_
   refine b_n (q_n (yhc (r_gq [bC 0 v19.2,vL 3 38 eRt v20,pI 4 (w64 (7+v6.1)),pI 5 (w64 (x15.2.2.2.2+1))] [] trivial) ?_))
   exact lqn (v19.2.1,v19.2.2.1,v19.2.2.2,v20,(w64 (x15.2.2.2.2+1))) h
  refine yrb (q_x (lq_x (b_x ?_)))
  have hyy:=hy_x15 _ (oi h).symm
  subst hyy
  have h:=hk_x15
  refine q_n ?_
  exact jx (x15.1,x15.2.1,x15.2.2.1,x15.2.2.2.1) h
 refine yga (q_n (yjb (J:=fun (x:((List Int)×Int×Int×(List Qr)))=>[bC 0 (x.1,x.2.1,x.2.2.1),vL 3 38 eRt x.2.2.2]) (K:=fun x=>yoo x=some r) (fun x21 h=>?_) ?_))
 ·unfold yoo at h
  refine yeb ?_
  obtain⟨v22,hv22,h⟩:=bs h
  refine kG [bC 0 v22.2,vL 3 38 eRt x21.2.2.2,pI 35 v22.1] [hF 1 [.p (iV v22.1)] (.box (eCu v22.2))] (A1 (yja hv22)) ?_
  refine yda (kG [bC 0 v22.2,vL 3 38 eRt x21.2.2.2,pI 35 v22.1,pB 36 (v22.1==0)] [] trivial ?_)
  refine kI h (fun hc3_22 h=>?_) (fun hc3_22 h=>?_)
  ·refine ygs1 3 (g:=false) (cs:=[.sl (some 38) (x21.2.2.2.map eRt)]) [.sl none (x21.2.2.2.map eRt)] [bC 0 v22.2,dL 3 eRt x21.2.2.2,pI 35 v22.1,pB 36 (v22.1==0)] (yqf (yka (ywt er_I er_I)) rfl) ?_
   obtain⟨u24,hu24,h⟩:=bs h
   refine yhc (r_gq [bC 0 v22.2,dL 3 eRt (x21.2.2.2.drop (Int.toNat 1))] [(1,{fix:=some (dL 39 eRt (x21.2.2.2.drop (Int.toNat 1)))})] (A5 (show(Int.toNat 1)<=(x21.2.2.2.map eRt).length from(by have hg:=(ysa hu24);first | (simp only[List.length_map];omega) | omega)) (show(x21.2.2.2.map eRt).length<=(x21.2.2.2.map eRt).length from(Nat.le_refl _)) (show ∀ row∈(x21.2.2.2.map eRt),row.length=2 from(yfc fun _=>rfl)) (show(0:Int)<=1 from(by have hg:=(ysa hu24);omega)) (show(SV.d false [.sl none (((x21.2.2.2.map eRt).take (x21.2.2.2.map eRt).length).drop (Int.toNat 1))]:SV)=.d false [.sl none ((x21.2.2.2.drop (Int.toNat 1)).map eRt)] from(congrArg (fun z=>SV.d false [.sl none z]) ypy1)))) ?_
   refine b_n (q_n (kG [bC 0 v22.2,dL 2 eRt (x21.2.2.2.drop (Int.toNat 1))] [] trivial ?_))
   refine ypa ?_
   obtain rfl:=oi h
   exact ebr [(.d false [.sl none ((x21.2.2.2.drop (Int.toNat 1)).map eRt)],2)]
  refine kG [bC 0 v22.2,vL 3 38 eRt x21.2.2.2,pB 40 (v22.1==1)] [] trivial ?_
  refine kI h (fun hc3_24 h=>?_) (fun hc3_24 h=>?_)
  ·obtain⟨v26,hv26,h⟩:=bs h
   obtain⟨v27,hv27,h⟩:=bs h
   obtain⟨v28,hv28,h⟩:=bs h
   refine yhc (r_gq [bC 0 v27.2,vL 3 38 eRt (x21.2.2.2.set (Int.toNat v26.1) v27.1)] [hN 3 x21.2.2.2,hF 4 [.p (iV v26.1)] (.box (eCu v26.2)),hF 6 [.p (vRt v27.1)] (.box (eCu v27.2)),hR 7 (eRt v28),(8,{row:=some (eRt v28),fix:=some (vL 3 38 eRt (x21.2.2.2.set (Int.toNat v26.1) v27.1))})] (B6 (lF eRt x21.2.2.2) (yja hv26) (yzc hv27) (yba hv28).1 (yca eRt (yba hv28).2) (gW 38 eRt hv28) (A1 (show(SV.ov false [.sl (some 38) (setL (x21.2.2.2.map eRt) [((Int.toNat v26.1),0)] (eRt v27.1))]:SV)=.ov false [.sl (some 38) ((x21.2.2.2.set (Int.toNat v26.1) v27.1).map eRt)] from(congrArg (fun z=>SV.ov false [.sl (some 38) z]) (set1 (f:=eRt) (y:=v27.1) (yba hv28).2 rfl)))))) ?_
   refine b_n (q_n (ygs1 3 (g:=false) (cs:=[.sl (some 38) ((x21.2.2.2.set (Int.toNat v26.1) v27.1).map eRt)]) [.sl none ((x21.2.2.2.set (Int.toNat v26.1) v27.1).map eRt)] [bC 0 v27.2,dL 3 eRt (x21.2.2.2.set (Int.toNat v26.1) v27.1)] (yqf (yka (ywt er_I er_I)) rfl) ?_))
   refine kG [bC 0 v27.2,dL 2 eRt (x21.2.2.2.set (Int.toNat v26.1) v27.1)] [] trivial ?_
   refine ypa ?_
   obtain rfl:=oi h
   exact ebr [(.d false [.sl none ((x21.2.2.2.set (Int.toNat v26.1) v27.1).map eRt)],2)]
  refine yga (b_n (q_n (ygs1 3 (g:=false) (cs:=[.sl (some 38) (x21.2.2.2.map eRt)]) [.sl none (x21.2.2.2.map eRt)] [bC 0 v22.2,dL 3 eRt x21.2.2.2,pB 40 (v22.1==1)] (yqf (yka (ywt er_I er_I)) rfl) ?_)))
  refine kG [bC 0 v22.2,dL 2 eRt x21.2.2.2] [] trivial ?_
  refine ypa ?_
  obtain rfl:=oi h
  exact ebr [(.d false [.sl none (x21.2.2.2.map eRt)],2)]
 refine kG [bC 0 v4.2,vL 3 38 eRt ([v1,v2]),pI 4 v3.1,pI 5 0] [] trivial ?_
 refine yda ?_
 obtain⟨y30,hl_x29,hk_x29⟩:=bs h
 clear h
 refine yyb (J:=fun (x:((List Int)×Int×Int×(List Qr)×Int))=>[bC 0 (x.1,x.2.1,x.2.2.1),vL 3 38 eRt x.2.2.2.1,pI 4 v3.1,pI 5 x.2.2.2.2]) hl_x29 wkk (fun x29 o_x29 h hy_x29=>?_)
 unfold ypo at h
 refine yeb (ynb (l1:=[bC 0 (x29.1,x29.2.1,x29.2.2.1),vL 3 38 eRt x29.2.2.2.1,pI 4 v3.1,pI 5 x29.2.2.2.2,pB 24 ((decide ((x29.2.2.2.1.length:Int)<(w64 (v3.1+2))))&&(decide (x29.2.2.2.2<60)))]) ?_ ?_)
 ·rcases ft (decide ((x29.2.2.2.1.length:Int)<(w64 (v3.1+2)))) with ha1 | ha1
  ·exact RegOk.of_eq (r_gq [bC 0 (x29.1,x29.2.1,x29.2.2.1),vL 3 38 eRt x29.2.2.2.1,pI 4 v3.1,pI 5 x29.2.2.2.2,pB 24 (decide (x29.2.2.2.2<60))] [hN 1 x29.2.2.2.1,(6,gT),(7,gT),(8,bT)] (A4 (lF eRt x29.2.2.2.1) ha1 ha1 ha1)) (by simp[ha1])
  exact RegOk.of_eq (r_gq [bC 0 (x29.1,x29.2.1,x29.2.2.1),vL 3 38 eRt x29.2.2.2.1,pI 4 v3.1,pI 5 x29.2.2.2.2,pB 24 false] [hN 1 x29.2.2.2.1,(6,gF),(7,gF),(8,bF)] (A4 (lF eRt x29.2.2.2.1) ha1 ha1 ha1)) (by simp[ha1])
 refine kI h (fun hc5_30 h=>?_) (fun hc5_30 h=>?_)
 ·refine yga (q_n (yeb (yda ?_)))
  obtain⟨v32,hv32,h⟩:=bs h
  obtain⟨v33,hv33,h⟩:=bs h
  obtain⟨v34,hv34,h⟩:=bs h
  refine yhc (r_gq [bC 0 v33.2,vL 3 38 eRt v34,pI 4 v3.1,pI 5 x29.2.2.2.2] [(4,{lend:=some (some [.d false [.sl none (([2,3,4,12]).map eI)]],[.p (iV v32.1)],.box (eCu v32.2),false),fix:=some (dL 30 eI ([2,3,4,12]))}),hF 5 [.p (vRt v33.1)] (.box (eCu v33.2)),(6,{lend:=some (none,[rO 38 eRt v34],.u,true)})] (A6 (show([.d false [.sl none (eraL (([2,3,4,12]).map eI))]]:List Arg)=[.d false [.sl none (([2,3,4,12]).map eI)]] from(by simp only[yka (h:=eI) er_I])) (yna hv32) (show(SV.d false (eraR [.sl (some 3) (([2,3,4,12]).map eI)]):SV)=.d false [.sl none (([2,3,4,12]).map eI)] from(congrArg (fun z=>SV.d false z) (yqf (yka er_I) rfl))) (yjc hv33) (yyl hv34) (sR' 38 v34))) ?_
  refine b_n (q_n (yhc (r_gq [bC 0 v33.2,vL 3 38 eRt v34,pI 4 v3.1,pI 5 (w64 (x29.2.2.2.2+1))] [] trivial) ?_))
  exact lqn (v33.2.1,v33.2.2.1,v33.2.2.2,v34,(w64 (x29.2.2.2.2+1))) h
 refine yrb (q_x (lq_x (b_x ?_)))
 have hyy:=hy_x29 _ (oi h).symm
 subst hyy
 have h:=hk_x29
 refine q_n ?_
 exact jx (x29.1,x29.2.1,x29.2.2.1,x29.2.2.2.1) h
theorem ypq {a0:Cu}  {r:((List Qp)×(List Qr)×Cu)} (h:ylf a0=some r):MeetsB Tryz.prog 103 (.box (eCu a0)) [] [.ov false (oP 96 r.1),.d false [.sl none (r.2.1.map eRt)]] (.box (eCu r.2.2)):=by
 refine mob Tryz.func103 [bC 0 a0] ?_
 unfold ylf at h
 refine kG [bC 0 a0] [] trivial ?_
 obtain⟨v1,hv1,h⟩:=bs h
 refine kG [bC 0 v1.2,vP 4 96 v1.1] [hF 1 [.ov false (oP 96 v1.1)] (.box (eCu v1.2))] (A1 (ysn hv1)) ?_
 refine yjb (J:=fun (x:Cu)=>[bC 0 x,vP 4 96 v1.1]) (K:=fun x=>yrd v1 x=some r) (fun x2 h=>?_) ?_
 ·unfold yrd at h
  obtain⟨v3,hv3,h⟩:=bs h
  refine kG [bC 0 v3.2,vP 2 96 v1.1,dL 3 eRt v3.1] [hF 2 [.d false [.sl none (v3.1.map eRt)]] (.box (eCu v3.2))] (A1 (yqz hv3)) ?_
  refine ypa ?_
  obtain rfl:=oi h
  exact ebr [(.ov false (oP 96 v1.1),2),(.d false [.sl none (v3.1.map eRt)],3)]
 obtain⟨v4,hv4,h⟩:=bs h
 obtain⟨w6,hw6,h⟩:=bs h
 refine ynb (l1:=[bC 0 (w6.1,w6.2.1,w6.2.2.1),vP 4 96 v1.1,pB 15 w6.2.2.2]) ?_ ?_
 ·clear h
  rcases ft v4 with ha0 | ha0
  ·obtain⟨v5,hv5,hw6⟩:=bs (yjh ha0 hw6)
   have hw6:=oi hw6
   subst hw6
   exact(r_gq [bC 0 v5.2,vP 4 96 v1.1,pB 15 (!v5.1)] [(1,(cS [.d false (sP v1.1)] [.p (.bool v4)])),(3,gT),(4,{g:=some true,lend:=some (none,[.p (.bool v5.1)],.box (eCu v5.2),false)}),(5,gT),(6,bT)] (B6 (show([.d false [.sl none (eraL (v1.1.map ePt))]]:List Arg)=[.d false (sP v1.1)] from(by simp only[erPt])) (yoh hv4) ha0 ha0 (ytb hv5) ha0 (A1 ha0)))
  replace hw6:=ykh ha0 hw6
  have hw6:=oi hw6
  subst hw6
  exact(r_gq [bC 0 v1.2,vP 4 96 v1.1,pB 15 false] [(1,(cS [.d false (sP v1.1)] [.p (.bool v4)])),(3,gF),(4,gF),(5,gF),(6,bF)] (A6 (show([.d false [.sl none (eraL (v1.1.map ePt))]]:List Arg)=[.d false (sP v1.1)] from(by simp only[erPt])) (yoh hv4) ha0 ha0 ha0 ha0))
 refine kI h (fun hc2_6 h=>?_) (fun hc2_6 h=>?_)
 ·obtain⟨v8,hv8,h⟩:=bs h
  obtain⟨v9,hv9,h⟩:=bs h
  refine kG [bC 0 v8.2,vP 4 96 v1.1,vL 5 38 eRt v9.1,pB 6 v9.2] [hF 2 [.p (.bool v8.1)] (.box (eCu v8.2)),(3,(cS [.d false (sP v1.1),.v (.bool v8.1)] [rO 38 eRt v9.1,.p (.bool v9.2)]))] (A4 (ytb hv8) (show([.d false [.sl none (eraL (v1.1.map ePt))],.v (.bool v8.1)]:List Arg)=[.d false (sP v1.1),.v (.bool v8.1)] from(by simp only[erPt])) (yur hv9) (show List.all [rO 38 eRt v9.1,.p (.bool v9.2)] simpleR=true from(sa_o (wnR1 (yvc (wn_P wn_I wn_I)) rfl) (sa_p rfl)))) ?_
  refine kG [bC 0 v8.2,vP 4 96 v1.1,vL 5 38 eRt v9.1,pB 23 v9.2] [] trivial ?_
  refine kI h (fun hc2_9 h=>?_) (fun hc2_9 h=>?_)
  ·refine ygs1 5 (g:=false) (cs:=[.sl (some 38) (v9.1.map eRt)]) [.sl none (v9.1.map eRt)] [bC 0 v8.2,vP 4 96 v1.1,dL 5 eRt v9.1,pB 23 v9.2] (yqf (yka (ywt er_I er_I)) rfl) ?_
   refine kG [bC 0 v8.2,vP 2 96 v1.1,dL 3 eRt v9.1] [] trivial ?_
   refine ypa (q_r ?_)
   obtain rfl:=oi h
   exact ebr [(.ov false (oP 96 v1.1),2),(.d false [.sl none (v9.1.map eRt)],3)]
  refine yga (q_n ?_)
  exact jx v8.2 h
 refine yga (q_n ?_)
 exact jx (w6.1,w6.2.1,w6.2.2.1) h
theorem yyv {a0:Cu}  {r:(Qr×Cu)} (h:yyg a0=some r):MeetsB Tryz.prog 188 (.box (eCu a0)) [] [.p (vRt r.1)] (.box (eCu r.2)):=by
 refine mob Tryz.func188 [bC 0 a0] ?_
 unfold yyg at h
 refine kG [bC 0 a0,bX 2 zR] [] trivial ?_
 obtain⟨v1,hv1,h⟩:=bs h
 obtain⟨v2,hv2,h⟩:=bs h
 refine kG [bC 0 v2.2,bX 2 zR,pI 3 v2.1] [hF 2 [.p (iV v1.1)] (.box (eCu v1.2)),(5,{lend:=some (some [.d false [.sl none (([1,2,3,4,5,7,8,12,16,(w64 (1+v1.1))]).map eI)]],[.p (iV v2.1)],.box (eCu v2.2),false),fix:=some (dL 10 eI ([1,2,3,4,5,7,8,12,16,(w64 (1+v1.1))]))})] (A4 (yja hv1) (show([.d false [.sl none (eraL (([1,2,3,4,5,7,8,12,16,(w64 (1+v1.1))]).map eI))]]:List Arg)=[.d false [.sl none (([1,2,3,4,5,7,8,12,16,(w64 (1+v1.1))]).map eI)]] from(by simp only[yka (h:=eI) er_I])) (yna hv2) (show(SV.d false (eraR [.sl (some 3) (([1,2,3,4,5,7,8,12,16,(w64 (1+v1.1))]).map eI)]):SV)=.d false [.sl none (([1,2,3,4,5,7,8,12,16,(w64 (1+v1.1))]).map eI)] from(congrArg (fun z=>SV.d false z) (yqf (yka er_I) rfl)))) ?_
 obtain⟨v3,hv3,h⟩:=bs h
 obtain⟨v4,hv4,h⟩:=bs h
 refine kG [bC 0 v3.2,bX 2 zR,bR 4 v4.1] [hF 3 [.p (iV v3.1)] (.box (eCu v3.2)),hC 5 [.p (vRt v4.1),.p (.bool v4.2)]] (A2 (yja hv3) (ycc hv4)) ?_
 refine kG [bC 0 v3.2,bR 2 v4.1] [] trivial ?_
 refine ypa ?_
 obtain rfl:=oi h
 exact ebr [(.p (vRt v4.1),2)]
theorem yab1 {a0:Cu} {a1:(List Qp)}  {r:(Qr×Cu)} (h:yin a0 a1=some r):MeetsB Tryz.prog 141 (.box (eCu a0)) [.d false (sP a1)] [.p (vRt r.1)] (.box (eCu r.2)):=by
 refine mob Tryz.func141 [bC 0 a0,dP 1 a1] ?_
 unfold yin at h
 refine kG [bC 0 a0,dP 1 a1,bX 4 zR] [] trivial ?_
 refine yeb ?_
 obtain⟨v1,hv1,h⟩:=bs h
 refine kG [bC 0 v1.2,dP 1 a1,bX 4 zR,pI 6 v1.1] [hF 1 [.p (iV v1.1)] (.box (eCu v1.2))] (A1 (yja hv1)) ?_
 refine yda (yjb (J:=fun (x:Bool)=>[bC 0 v1.2,dP 1 a1,bX 4 zR,pI 6 v1.1,pB 7 x]) (K:=fun x=>ykf a1 v1 x=some r) (fun x2 h=>?_) ?_)
 ·unfold ykf at h
  refine kI h (fun hc3_2 h=>?_) (fun hc3_2 h=>?_)
  ·refine kG [bC 0 v1.2,dP 1 a1,bX 4 zR,pB 12 (decide ((a1.length:Int)>0))] [hN 1 a1] (A1 (lnP a1)) ?_
   refine kI h (fun hc3_3 h=>?_) (fun hc3_3 h=>?_)
   ·obtain⟨v5,hv5,h⟩:=bs h
    obtain⟨v6,hv6,h⟩:=bs h
    refine kG [bC 0 v5.2,bR 4 v6.1] [hN 3 a1,hF 4 [.p (iV v5.1)] (.box (eCu v5.2)),hR 5 (ePt v6)] (A4 (lnP a1) (yja hv5) (yba hv6).1 (yca ePt (yba hv6).2)) ?_
    refine ypa (b_r (q_r ?_))
    obtain rfl:=oi h
    exact ebr [(.p (vRt v6.1),4)]
   refine yga (b_n (q_n ?_))
   obtain⟨v7,hv7,h⟩:=bs h
   refine kG [bC 0 v7.2,bR 4 v7.1] [hF 1 [.p (vRt v7.1)] (.box (eCu v7.2))] (A1 (yzc hv7)) ?_
   refine ypa ?_
   obtain rfl:=oi h
   exact ebr [(.p (vRt v7.1),4)]
  refine kG [bC 0 v1.2,dP 1 a1,bX 4 zR,pI 6 v1.1,pB 21 (v1.1==2)] [] trivial ?_
  refine kI h (fun hc3_7 h=>?_) (fun hc3_7 h=>?_)
  ·refine kG [bC 0 v1.2,dP 1 a1,bX 4 zR,pB 25 (decide ((a1.length:Int)>0))] [hN 1 a1] (A1 (lnP a1)) ?_
   refine kI h (fun hc3_8 h=>?_) (fun hc3_8 h=>?_)
   ·obtain⟨v10,hv10,h⟩:=bs h
    obtain⟨v11,hv11,h⟩:=bs h
    refine kG [bC 0 v10.2,bR 4 v11.2] [hN 3 a1,hF 4 [.p (iV v10.1)] (.box (eCu v10.2)),hR 5 (ePt v11)] (A4 (lnP a1) (yja hv10) (yba hv11).1 (yca ePt (yba hv11).2)) ?_
    refine ypa (b_r (q_r ?_))
    obtain rfl:=oi h
    exact ebr [(.p (vRt v11.2),4)]
   refine yga (b_n (q_n ?_))
   obtain⟨v12,hv12,h⟩:=bs h
   refine kG [bC 0 v12.2,bR 4 v12.1] [hF 1 [.p (vRt v12.1)] (.box (eCu v12.2))] (A1 (yzc hv12)) ?_
   refine ypa ?_
   obtain rfl:=oi h
   exact ebr [(.p (vRt v12.1),4)]
  refine yjb (J:=fun (x:Bool)=>[bC 0 v1.2,bX 4 zR,pI 6 v1.1,pB 34 x]) (K:=fun x=>yzd v1 x=some r) (fun x13 h=>?_) ?_
  ·unfold yzd at h
   refine kI h (fun hc3_13 h=>?_) (fun hc3_13 h=>?_)
   ·obtain⟨v15,hv15,h⟩:=bs h
    obtain⟨v16,hv16,h⟩:=bs h
    refine kG [bC 0 v16.2,bR 4 v16.1] [(3,{lend:=some (some [.d false [.sl none (([2,3,4,5,7,12]).map eI)]],[.p (iV v15.1)],.box (eCu v15.2),false),fix:=some (dL 40 eI ([2,3,4,5,7,12]))}),hF 4 [.p (vRt v16.1)] (.box (eCu v16.2))] (A4 (show([.d false [.sl none (eraL (([2,3,4,5,7,12]).map eI))]]:List Arg)=[.d false [.sl none (([2,3,4,5,7,12]).map eI)]] from(by simp only[yka (h:=eI) er_I])) (yna hv15) (show(SV.d false (eraR [.sl (some 3) (([2,3,4,5,7,12]).map eI)]):SV)=.d false [.sl none (([2,3,4,5,7,12]).map eI)] from(congrArg (fun z=>SV.d false z) (yqf (yka er_I) rfl))) (yjc hv16)) ?_
    refine ypa (b_r (q_r ?_))
    obtain rfl:=oi h
    exact ebr [(.p (vRt v16.1),4)]
   refine kG [bC 0 v1.2,bX 4 zR,pB 43 (v1.1==6)] [] trivial ?_
   refine kI h (fun hc3_16 h=>?_) (fun hc3_16 h=>?_)
   ·obtain⟨v18,hv18,h⟩:=bs h
    refine kG [bC 0 v18.2,bR 4 v18.1] [hF 1 [.p (vRt v18.1)] (.box (eCu v18.2))] (A1 (yyv hv18)) ?_
    refine ypa (b_r (q_r ?_))
    obtain rfl:=oi h
    exact ebr [(.p (vRt v18.1),4)]
   refine yga (b_n (q_n ?_))
   obtain⟨v19,hv19,h⟩:=bs h
   refine kG [bC 0 v19.2,bR 4 v19.1] [hF 1 [.p (vRt v19.1)] (.box (eCu v19.2))] (A1 (yzc hv19)) ?_
   refine ypa ?_
   obtain rfl:=oi h
   exact ebr [(.p (vRt v19.1),4)]
  refine kG [bC 0 v1.2,bX 4 zR,pI 6 v1.1,pB 34 (v1.1==3)] [] trivial ?_
  refine kI h (fun hc4_19 h=>?_) (fun hc4_19 h=>?_)
  ·refine yga (q_n ?_)
   exact jx (v1.1==3) h
  refine kG [bC 0 v1.2,bX 4 zR,pI 6 v1.1,pB 34 (v1.1==4)] [] trivial ?_
  refine kI h (fun hc4_20 h=>?_) (fun hc4_20 h=>?_)
  ·refine yga (q_n ?_)
   exact jx (v1.1==4) h
  refine yhc (r_gq [bC 0 v1.2,bX 4 zR,pI 6 v1.1,pB 34 (v1.1==5)] [] trivial) ?_
  refine q_n ?_
  exact jx (v1.1==5) h
 refine kG [bC 0 v1.2,dP 1 a1,bX 4 zR,pI 6 v1.1,pB 7 (v1.1==0)] [] trivial ?_
 refine kI h (fun hc4_21 h=>?_) (fun hc4_21 h=>?_)
 ·refine yga (q_n ?_)
  exact jx (v1.1==0) h
 refine yhc (r_gq [bC 0 v1.2,dP 1 a1,bX 4 zR,pI 6 v1.1,pB 7 (v1.1==1)] [] trivial) ?_
 refine q_n ?_
 exact jx (v1.1==1) h
theorem yvw {a0:Cu} {a1:(List Qp)}  {r:(Qr×Cu)} (h:yei a0 a1=some r):MeetsB Tryz.prog 104 (.box (eCu a0)) [.d false (sP a1)] [.p (vRt r.1)] (.box (eCu r.2)):=by
 refine mob Tryz.func104 [bC 0 a0,dP 1 a1] ?_
 unfold yei at h
 refine kG [bC 0 a0,dP 1 a1,bX 4 zR] [] trivial ?_
 refine yeb ?_
 obtain⟨v1,hv1,h⟩:=bs h
 refine kG [bC 0 v1.2,dP 1 a1,bX 4 zR,pB 6 v1.1] [hF 1 [.p (.bool v1.1)] (.box (eCu v1.2))] (A1 (ytb hv1)) ?_
 refine kI h (fun hc2_1 h=>?_) (fun hc2_1 h=>?_)
 ·obtain⟨v3,hv3,h⟩:=bs h
  refine kG [bC 0 v3.2,bR 4 v3.1] [hF 2 [.p (vRt v3.1)] (.box (eCu v3.2))] (A1 (yab1 hv3)) ?_
  refine ypa (q_r ?_)
  obtain rfl:=oi h
  exact ebr [(.p (vRt v3.1),4)]
 refine yga (q_n ?_)
 obtain⟨v4,hv4,h⟩:=bs h
 obtain⟨v5,hv5,h⟩:=bs h
 refine kG [bC 0 v5.2,bR 4 v5.1] [(3,{lend:=some (some [.d false [.sl none (([2,4,8]).map eI)]],[.p (iV v4.1)],.box (eCu v4.2),false),fix:=some (dL 12 eI ([2,4,8]))}),hF 4 [.p (vRt v5.1)] (.box (eCu v5.2))] (A4 (show([.d false [.sl none (eraL (([2,4,8]).map eI))]]:List Arg)=[.d false [.sl none (([2,4,8]).map eI)]] from(by simp only[yka (h:=eI) er_I])) (yna hv4) (show(SV.d false (eraR [.sl (some 3) (([2,4,8]).map eI)]):SV)=.d false [.sl none (([2,4,8]).map eI)] from(congrArg (fun z=>SV.d false z) (yqf (yka er_I) rfl))) (yjc hv5)) ?_
 refine ypa ?_
 obtain rfl:=oi h
 exact ebr [(.p (vRt v5.1),4)]
theorem yzv {a0:(List Int)}  {r:((List Qp)×(List Qr)×Qr×Int)} (h:yeh a0=some r):Meets Tryz.prog 41 [.d false [.sl none (a0.map (eU .u8))]] { vals:=[.d false (sP r.1),.d false [.sl none (r.2.1.map eRt)],.p (vRt r.2.2.1),.p (iV r.2.2.2)] }:=by
 refine mo Tryz.func41 [dL 0 (eU .u8) a0] ?_
 unfold yeh at h
 refine kG [dL 0 (eU .u8) a0,bX 4 zR] [] trivial ?_
 refine kG [bX 4 zR,(6,.addr 11 [(0,0)]),bC 11 (a0,0,0)] [] trivial ?_
 obtain⟨v1,hv1,h⟩:=bs h
 refine kG [bX 4 zR,(6,.addr 11 [(0,0)]),vP 7 96 v1.1,dL 8 eRt v1.2.1,bC 11 v1.2.2] [hF 1 [.ov false (oP 96 v1.1),.d false [.sl none (v1.2.1.map eRt)]] (.box (eCu v1.2.2))] (A1 (ypq hv1)) ?_
 obtain⟨v2,hv2,h⟩:=bs h
 obtain⟨v3,hv3,h⟩:=bs h
 obtain⟨v4,hv4,h⟩:=bs h
 refine kG [dP 2 v1.1,dL 3 eRt v1.2.1,bR 4 v2.1,pI 5 v4.1] [(4,{lend:=some (some [.d false (sP v1.1)],[.p (vRt v2.1)],.box (eCu v2.2),false),fix:=some (dP 7 v1.1)}),(8,{lend:=some (some [.d false [.sl none (([41,(-1)]).map eI)]],[.p (iV v3.1)],.box (eCu v3.2),false),fix:=some (dL 24 eI ([41,(-1)]))}),(10,{lend:=some (some [.d false [.sl none (([0,1,2,5,20,40,v3.1]).map eI)]],[.p (iV v4.1)],.box (eCu v4.2),false),fix:=some (dL 26 eI ([0,1,2,5,20,40,v3.1]))})] (B6 (show([.d false [.sl none (eraL (v1.1.map ePt))]]:List Arg)=[.d false (sP v1.1)] from(by simp only[erPt])) (yvw hv2) (show(SV.d false (eraR (oP 96 v1.1)):SV)=.d false (sP v1.1) from(congrArg (fun z=>SV.d false z) (yqf (yka (ywt (ywt er_I er_I) (ywt er_I er_I))) rfl))) (show([.d false [.sl none (eraL (([41,(-1)]).map eI))]]:List Arg)=[.d false [.sl none (([41,(-1)]).map eI)]] from(by simp only[yka (h:=eI) er_I])) (yna hv3) (show(SV.d false (eraR [.sl (some 3) (([41,(-1)]).map eI)]):SV)=.d false [.sl none (([41,(-1)]).map eI)] from(congrArg (fun z=>SV.d false z) (yqf (yka er_I) rfl))) (A3 (show([.d false [.sl none (eraL (([0,1,2,5,20,40,v3.1]).map eI))]]:List Arg)=[.d false [.sl none (([0,1,2,5,20,40,v3.1]).map eI)]] from(by simp only[yka (h:=eI) er_I])) (yna hv4) (show(SV.d false (eraR [.sl (some 3) (([0,1,2,5,20,40,v3.1]).map eI)]):SV)=.d false [.sl none (([0,1,2,5,20,40,v3.1]).map eI)] from(congrArg (fun z=>SV.d false z) (yqf (yka er_I) rfl))))) ?_
 refine ypa ?_
 obtain rfl:=oi h
 exact er [(.d false (sP v1.1),2),(.d false [.sl none (v1.2.1.map eRt)],3),(.p (vRt v2.1),4),(.p (iV v4.1),5)]
theorem yci1 {a0:(List Qp)} {a1:Qr} {a2:Int}  {r:(List Qr)} (h:ybt a0 a1 a2=some r):Meets Tryz.prog 105 [.d false (sP a0),.v (vRt a1),wI a2] { vals:=[rO 38 eRt r] }:=by
 refine mo Tryz.func105 [dP 0 a0,(1,.p (vRt a1)),pI 2 a2] ?_
 unfold ybt at h
 refine kG [dP 0 a0,pI 2 a2,bR 4 a1] [] trivial ?_
 refine kG [dP 0 a0,pI 2 a2,bR 4 a1,vL 7 38 eRt ([a1])] [] trivial ?_
 refine kG [dP 0 a0,pI 2 a2,bR 4 a1,vL 7 38 eRt ([a1]),bX 8 [.raw (.bool false)]] [] trivial ?_
 refine yjb (J:=fun (x:(List Qr))=>[vL 7 38 eRt x]) (K:=fun x=>yev x=some r) (fun x1 h=>?_) ?_
 ·unfold yev at h
  refine kG [vL 6 38 eRt x1] [] trivial ?_
  refine ypa ?_
  obtain rfl:=oi h
  exact er [(.ov false [.sl (some 38) (x1.map eRt)],6)]
 refine kG [dP 0 a0,bR 4 a1,vL 7 38 eRt ([a1]),bX 8 [.raw (.bool false)],pI 11 a2,pI 12 0] [] trivial ?_
 refine yda ?_
 obtain⟨y3,hl_x2,hk_x2⟩:=bs h
 clear h
 refine yyb (J:=fun (x:(Int×Int×(List Qr)×Bool×Int))=>[dP 0 a0,bX 4 [rI x.1,rI x.2.1],vL 7 38 eRt x.2.2.1,bX 8 [.raw (.bool x.2.2.2.1)],pI 11 a2,pI 12 x.2.2.2.2]) hl_x2 wkk (fun x2 o_x2 h hy_x2=>?_)
 unfold ylp at h
 refine kG [dP 0 a0,bX 4 [rI x2.1,rI x2.2.1],vL 7 38 eRt x2.2.2.1,bX 8 [.raw (.bool x2.2.2.2.1)],pI 11 a2,pI 12 x2.2.2.2.2,pB 13 (decide (x2.2.2.2.2<a2))] [] trivial ?_
 refine yeb (kI h (fun hc5_3 h=>?_) (fun hc5_3 h=>?_))
 ·refine yga (q_n (yeb (yda (yeb ?_))))
  obtain⟨v5,hv5,h⟩:=bs h
  refine kG [dP 0 a0,bR 4 v5.1,vL 7 38 eRt x2.2.2.1,bX 8 [.raw (.bool v5.2)],pI 11 a2,pI 12 x2.2.2.2.2] [hT 2 [.p (vRt v5.1)] (.box [.raw (.bool v5.2)])] (A1 (yvj hv5)) ?_
  refine kG [dP 0 a0,bR 4 v5.1,vL 7 38 eRt x2.2.2.1,bX 8 [.raw (.bool v5.2)],pI 11 a2,pI 12 x2.2.2.2.2,pB 18 v5.2] [] trivial ?_
  refine kI h (fun hc7_5 h=>?_) (fun hc7_5 h=>?_)
  ·refine yrb (q_x (b_y rfl ?_))
   refine q_x (lq_x (b_x ?_))
   have hyy:=hy_x2 _ (oi h).symm
   subst hyy
   have h:=hk_x2
   refine q_n ?_
   exact jx x2.2.2.1 h
  refine yga (q_n ?_)
  obtain⟨u7,hu7,h⟩:=bs h
  refine yhc (r_gq [dP 0 a0,bR 4 v5.1,vL 7 38 eRt (x2.2.2.1++[v5.1]),bX 8 [.raw (.bool v5.2)],pI 11 a2,pI 12 x2.2.2.2.2] [(3,{fix:=some (vL 22 38 eRt (x2.2.2.1++[v5.1]))})] (A3 (lG' eRt hu7) (show ∀ row∈((([v5.1]).map eRt):List (List C)),row.length=2 from(yfc fun _=>rfl)) (aP' 38 eRt x2.2.2.1 ([v5.1])))) ?_
  refine b_n (q_n (yhc (r_gq [dP 0 a0,bR 4 v5.1,vL 7 38 eRt (x2.2.2.1++[v5.1]),bX 8 [.raw (.bool v5.2)],pI 11 a2,pI 12 (w64 (x2.2.2.2.2+1))] [] trivial) ?_))
  exact lqn (v5.1.1,v5.1.2,(x2.2.2.1++[v5.1]),v5.2,(w64 (x2.2.2.2.2+1))) h
 refine yrb (q_x (lq_x (b_x ?_)))
 have hyy:=hy_x2 _ (oi h).symm
 subst hyy
 have h:=hk_x2
 refine q_n ?_
 exact jx x2.2.2.1 h
theorem ybb1 {a0:(List Qp)} {a1:(List Qr)} {a2:Qr} {a3:Int}  {r:((List Int)×Bool)} (h:ypn a0 a1 a2 a3=some r):Meets Tryz.prog 42 [.d false (sP a0),.d false [.sl none (a1.map eRt)],.v (vRt a2),wI a3] { vals:=[rO 3 eI r.1,.p (.bool r.2)] }:=by
 refine mo Tryz.func42 [dP 0 a0,dL 1 eRt a1,(2,.p (vRt a2)),pI 3 a3] ?_
 unfold ypn at h
 refine kG [dP 0 a0,dL 1 eRt a1,pI 3 a3,bR 6 a2] [] trivial ?_
 refine yeb ?_
 obtain⟨v1,hv1,h⟩:=bs h
 obtain⟨w5,hw5,h⟩:=bs h
 refine ynb (l1:=[dP 0 a0,dL 1 eRt a1,pI 3 a3,bR 6 a2,pB 31 w5]) ?_ ?_
 ·clear h
  rcases ft (!v1) with ha0 | ha0
  ·replace hw5:=yjh ha0 hw5
   have hw5:=oi hw5
   subst hw5
   exact(r_gq [dP 0 a0,dL 1 eRt a1,pI 3 a3,bR 6 a2,pB 31 true] [hC 1 [.p (.bool v1)],(4,gT),(5,gT),(6,gT),(7,bT),(9,gT),(10,gT),(11,gT),(12,bT),(14,gT),(15,gT),(16,gT),(17,bT)] (B6 (ysf hv1) ha0 ha0 ha0 ha0 tT (B6 tT tT tT tT tT tT (A1 tT))))
  obtain⟨v2,hv2,hw5⟩:=bs (ykh ha0 hw5)
  rcases ft (!v2) with ha1 | ha1
  ·replace hw5:=yjh ha1 hw5
   have hw5:=oi hw5
   subst hw5
   exact(r_gq [dP 0 a0,dL 1 eRt a1,pI 3 a3,bR 6 a2,pB 31 true] [hC 1 [.p (.bool v1)],(4,gF),(5,(gN [.p (.bool v2)])),(6,gF),(7,bF),(9,gT),(10,gT),(11,gT),(12,bT),(14,gT),(15,gT),(16,gT),(17,bT)] (B6 (ysf hv1) ha0 ha0 (yhd hv2) ha0 ha0 (B6 ha1 ha1 ha1 ha1 tT tT (A2 tT tT))))
  obtain⟨v3,hv3,hw5⟩:=bs (ykh ha1 hw5)
  rcases ft (!v3) with ha2 | ha2
  ·replace hw5:=yjh ha2 hw5
   have hw5:=oi hw5
   subst hw5
   exact(r_gq [dP 0 a0,dL 1 eRt a1,pI 3 a3,bR 6 a2,pB 31 true] [hC 1 [.p (.bool v1)],(4,gF),(5,(gN [.p (.bool v2)])),(6,gF),(7,bF),(9,gF),(10,(gN [.p (.bool v3)])),(11,gF),(12,bF),(14,gT),(15,gT),(16,gT),(17,bT)] (B6 (ysf hv1) ha0 ha0 (yhd hv2) ha0 ha0 (B6 ha1 ha1 (yuj hv3) ha1 ha1 ha2 (A3 ha2 ha2 ha2))))
  obtain⟨v4,hv4,hw5⟩:=bs (ykh ha2 hw5)
  have hw5:=oi hw5
  subst hw5
  exact(r_gq [dP 0 a0,dL 1 eRt a1,pI 3 a3,bR 6 a2,pB 31 (!v4)] [hC 1 [.p (.bool v1)],(4,gF),(5,(gN [.p (.bool v2)])),(6,gF),(7,bF),(9,gF),(10,(gN [.p (.bool v3)])),(11,gF),(12,bF),(14,gF),(15,(gN [.p (.bool v4)])),(16,gF),(17,bF)] (B6 (ysf hv1) ha0 ha0 (yhd hv2) ha0 ha0 (B6 ha1 ha1 (yuj hv3) ha1 ha1 ha2 (A4 ha2 (ygb hv4) ha2 ha2))))
 refine kI h (fun hc2_5 h=>?_) (fun hc2_5 h=>?_)
 ·refine kG [vN 8 3,pB 9 false] [] trivial ?_
  refine ypa (q_r ?_)
  obtain rfl:=oi h
  exact er [(.ov false (oN 3),8),(.p (.bool false),9)]
 refine yga (q_n ?_)
 obtain⟨v7,hv7,h⟩:=bs h
 refine kG [dL 1 eRt a1,pI 3 a3,vL 10 38 eRt v7] [hC 3 [rO 38 eRt v7]] (A2 (yci1 hv7) (sR' 38 v7)) ?_
 refine yeb (kG [dL 1 eRt a1,vL 10 38 eRt v7,pB 39 (decide ((v7.length:Int)<=a3))] [hN 1 v7] (A1 (lF eRt v7)) ?_)
 refine kI h (fun hc2_7 h=>?_) (fun hc2_7 h=>?_)
 ·refine kG [vN 8 3,pB 9 false] [] trivial ?_
  refine ypa (q_r ?_)
  obtain rfl:=oi h
  exact er [(.ov false (oN 3),8),(.p (.bool false),9)]
 refine yga (q_n (kG [dL 1 eRt a1,vL 10 38 eRt v7,vN 11 3] [] trivial ?_))
 refine yjb (J:=fun (x:(List Int))=>[vL 11 3 eI x]) (K:=fun x=>yxp x=some r) (fun x9 h=>?_) ?_
 ·unfold yxp at h
  refine kG [vL 8 3 eI x9,pB 9 true] [] trivial ?_
  refine ypa ?_
  obtain rfl:=oi h
  exact er [(.ov false [.sl (some 3) (x9.map eI)],8),(.p (.bool true),9)]
 refine kG [dL 1 eRt a1,vL 10 38 eRt v7,vN 11 3,rF 40 10,pL 41 v7,pI 42 0] [hN 1 v7] (A1 (lF eRt v7)) ?_
 refine yda ?_
 obtain⟨y11,hl_x10,hk_x10⟩:=bs h
 clear h
 refine yyb (J:=fun (x:((List Int)×Int))=>[dL 1 eRt a1,vL 10 38 eRt v7,vL 11 3 eI x.1,rF 40 10,pL 41 v7,pI 42 x.2]) hl_x10 wkk (fun x10 o_x10 h hy_x10=>?_)
 unfold ymf at h
 refine kG [dL 1 eRt a1,vL 10 38 eRt v7,vL 11 3 eI x10.1,rF 40 10,pL 41 v7,pI 42 x10.2,pB 43 (decide (x10.2<(v7.length:Int)))] [] trivial ?_
 refine yeb (kI h (fun hc5_11 h=>?_) (fun hc5_11 h=>?_))
 ·refine yga (q_n (yeb (yda ?_)))
  obtain⟨v13,hv13,h⟩:=bs h
  refine kG [dL 1 eRt a1,vL 10 38 eRt v7,vL 11 3 eI x10.1,bR 13 v13,rF 40 10,pL 41 v7,pI 42 x10.2] [hR 0 (eRt v13),hR 1 (eRt v13)] (A3 (yba hv13).1 (yca eRt (yba hv13).2) (gW 38 eRt hv13)) ?_
  obtain⟨v14,hv14,h⟩:=bs h
  obtain⟨v15,hv15,h⟩:=bs h
  obtain⟨u16,hu16,h⟩:=bs h
  refine yhc (r_gq [dL 1 eRt a1,vL 10 38 eRt v7,vL 11 3 eI (x10.1++[v15]),rF 40 10,pL 41 v7,pI 42 x10.2] [hC 3 [rO 3 eI v14],hR 4 (eI v15),hR 5 (eI v15),(7,{fix:=some (vL 53 3 eI (x10.1++[v15]))})] (B6 (ynu hv14) (show List.all [rO 3 eI v14] simpleR=true from(sa_o (wnR1 (yvc wn_I) rfl) rfl)) (yba hv15).1 (yca eI (yba hv15).2) (gW 3 eI hv15) (lG' eI hu16) (A2 (show ∀ row∈((([v15]).map eI):List (List C)),row.length=1 from(yfc fun _=>rfl)) (aP' 3 eI x10.1 ([v15]))))) ?_
  refine b_n (q_n (yhc (r_gq [dL 1 eRt a1,vL 10 38 eRt v7,vL 11 3 eI (x10.1++[v15]),rF 40 10,pL 41 v7,pI 42 (w64 (x10.2+1))] [] trivial) ?_))
  exact lqn ((x10.1++[v15]),(w64 (x10.2+1))) h
 refine yrb (q_x (lq_x (b_x ?_)))
 have hyy:=hy_x10 _ (oi h).symm
 subst hyy
 have h:=hk_x10
 refine q_n ?_
 exact jx x10.1 h
theorem ycb1 {a0:(List Qp)} {a1:(List Qr)} {a2:Qr} {a3:Int}  {r:((List Int)×Bool)} (h:yqn a0 a1 a2 a3=some r):Meets Tryz.prog 43 [.d false (sP a0),.d false [.sl none (a1.map eRt)],.v (vRt a2),wI a3] { vals:=[rO 3 eI r.1,.p (.bool r.2)] }:=by
 refine mo Tryz.func43 [dP 0 a0,dL 1 eRt a1,(2,.p (vRt a2)),pI 3 a3] ?_
 unfold yqn at h
 refine kG [dP 0 a0,dL 1 eRt a1,pI 3 a3,bR 6 a2] [] trivial ?_
 refine yeb ?_
 obtain⟨v1,hv1,h⟩:=bs h
 obtain⟨w4,hw4,h⟩:=bs h
 refine ynb (l1:=[dP 0 a0,dL 1 eRt a1,pI 3 a3,bR 6 a2,pB 26 w4]) ?_ ?_
 ·clear h
  rcases ft (!v1) with ha0 | ha0
  ·replace hw4:=yjh ha0 hw4
   have hw4:=oi hw4
   subst hw4
   exact(r_gq [dP 0 a0,dL 1 eRt a1,pI 3 a3,bR 6 a2,pB 26 true] [hC 2 [.p (.bool v1)],(5,gT),(6,gT),(7,gT),(8,bT),(10,gT),(11,gT),(12,gT),(13,bT)] (B6 (yjg hv1) ha0 ha0 ha0 ha0 tT (A3 tT tT tT)))
  obtain⟨v2,hv2,hw4⟩:=bs (ykh ha0 hw4)
  rcases ft (!v2) with ha1 | ha1
  ·replace hw4:=yjh ha1 hw4
   have hw4:=oi hw4
   subst hw4
   exact(r_gq [dP 0 a0,dL 1 eRt a1,pI 3 a3,bR 6 a2,pB 26 true] [hC 2 [.p (.bool v1)],(5,gF),(6,(gN [.p (.bool v2)])),(7,gF),(8,bF),(10,gT),(11,gT),(12,gT),(13,bT)] (B6 (yjg hv1) ha0 ha0 (ybe hv2) ha0 ha0 (A4 ha1 ha1 ha1 ha1)))
  obtain⟨v3,hv3,hw4⟩:=bs (ykh ha1 hw4)
  have hw4:=oi hw4
  subst hw4
  exact(r_gq [dP 0 a0,dL 1 eRt a1,pI 3 a3,bR 6 a2,pB 26 (!v3)] [hC 2 [.p (.bool v1)],(5,gF),(6,(gN [.p (.bool v2)])),(7,gF),(8,bF),(10,gF),(11,(gN [.p (.bool v3)])),(12,gF),(13,bF)] (B6 (yjg hv1) ha0 ha0 (ybe hv2) ha0 ha0 (A5 ha1 ha1 (yhg hv3) ha1 ha1)))
 refine kI h (fun hc2_4 h=>?_) (fun hc2_4 h=>?_)
 ·refine kG [vN 8 3,pB 9 false] [] trivial ?_
  refine ypa (q_r ?_)
  obtain rfl:=oi h
  exact er [(.ov false (oN 3),8),(.p (.bool false),9)]
 refine yga (q_n ?_)
 obtain⟨v6,hv6,h⟩:=bs h
 obtain⟨v7,hv7,h⟩:=bs h
 refine kG [dP 0 a0,dL 1 eRt a1,pI 3 a3,bR 6 a2,vL 10 3 eI ([v7])] [hC 2 [rO 3 eI v6],hR 3 (eI v7),hR 4 (eI v7)] (A5 (yoq hv6) (show List.all [rO 3 eI v6] simpleR=true from(sa_o (wnR1 (yvc wn_I) rfl) rfl)) (yba hv7).1 (yca eI (yba hv7).2) (gW 3 eI hv7)) ?_
 refine yjb (J:=fun (x:(List Int))=>[vL 10 3 eI x]) (K:=fun x=>yyp x=some r) (fun x8 h=>?_) ?_
 ·unfold yyp at h
  refine kG [vL 8 3 eI x8,pB 9 true] [] trivial ?_
  refine ypa ?_
  obtain rfl:=oi h
  exact er [(.ov false [.sl (some 3) (x8.map eI)],8),(.p (.bool true),9)]
 refine yda ?_
 obtain⟨y10,hl_x9,hk_x9⟩:=bs h
 clear h
 refine yyb (J:=fun (x:(Int×Int×Int×(List Int)))=>[dP 0 a0,dL 1 eRt a1,pI 3 x.1,bX 6 [rI x.2.1,rI x.2.2.1],vL 10 3 eI x.2.2.2]) hl_x9 wkk (fun x9 o_x9 h hy_x9=>?_)
 unfold ynf at h
 refine yeb (kG [dP 0 a0,dL 1 eRt a1,pI 3 x9.1,bX 6 [rI x9.2.1,rI x9.2.2.1],vL 10 3 eI x9.2.2.2,pB 34 (decide (x9.1>0))] [] trivial ?_)
 refine kI h (fun hc5_10 h=>?_) (fun hc5_10 h=>?_)
 ·refine yga (q_n (yeb (yda ?_)))
  obtain⟨v12,hv12,h⟩:=bs h
  refine kG [dP 0 a0,dL 1 eRt a1,pI 3 x9.1,bX 6 [rI x9.2.1,rI x9.2.2.1],vL 10 3 eI x9.2.2.2,bR 11 v12.1,pB 12 v12.2] [hC 2 [.p (vRt v12.1),.p (.bool v12.2)]] (A1 (yjt hv12)) ?_
  refine yeb (kG [dP 0 a0,dL 1 eRt a1,pI 3 x9.1,bX 6 [rI x9.2.1,rI x9.2.2.1],vL 10 3 eI x9.2.2.2,bR 11 v12.1,pB 44 (!v12.2)] [] trivial ?_)
  refine kI h (fun hc7_12 h=>?_) (fun hc7_12 h=>?_)
  ·refine kG [vN 8 3,pB 9 false] [] trivial ?_
   refine ypa (q_r (b_r (q_r (lq_r ?_))))
   refine b_r (q_r ?_)
   have hyy:=hy_x9 _ (oi h).symm
   subst hyy
   have h:=hk_x9
   dsimp only[Sum.elim] at h
   obtain rfl:=oi h
   exact er [(.ov false (oN 3),8),(.p (.bool false),9)]
  refine yga (q_n (kG [dP 0 a0,dL 1 eRt a1,pI 3 x9.1,bR 6 v12.1,vL 10 3 eI x9.2.2.2] [] trivial ?_))
  obtain⟨v14,hv14,h⟩:=bs h
  obtain⟨v15,hv15,h⟩:=bs h
  obtain⟨u16,hu16,h⟩:=bs h
  refine yhc (r_gq [dP 0 a0,dL 1 eRt a1,pI 3 x9.1,bR 6 v12.1,vL 10 3 eI (x9.2.2.2++[v15])] [hC 3 [rO 3 eI v14],hR 4 (eI v15),hR 5 (eI v15),(7,{fix:=some (vL 53 3 eI (x9.2.2.2++[v15]))})] (B6 (yoq hv14) (show List.all [rO 3 eI v14] simpleR=true from(sa_o (wnR1 (yvc wn_I) rfl) rfl)) (yba hv15).1 (yca eI (yba hv15).2) (gW 3 eI hv15) (lG' eI hu16) (A2 (show ∀ row∈((([v15]).map eI):List (List C)),row.length=1 from(yfc fun _=>rfl)) (aP' 3 eI x9.2.2.2 ([v15]))))) ?_
  refine b_n (q_n (yhc (r_gq [dP 0 a0,dL 1 eRt a1,pI 3 (w64 (x9.1-1)),bR 6 v12.1,vL 10 3 eI (x9.2.2.2++[v15])] [] trivial) ?_))
  exact lqn ((w64 (x9.1-1)),v12.1.1,v12.1.2,(x9.2.2.2++[v15])) h
 refine yrb (q_x (lq_x (b_x ?_)))
 have hyy:=hy_x9 _ (oi h).symm
 subst hyy
 have h:=hk_x9
 dsimp only[Sum.elim] at h
 refine q_n ?_
 exact jx x9.2.2.2 h
theorem yxt {a0:Cu}  {r:(Int×Cu)} (h:yue a0=some r):MeetsB Tryz.prog 107 (.box (eCu a0)) [] [.p (iV r.1)] (.box (eCu r.2)):=by
 refine mob Tryz.func107 [bC 0 a0] ?_
 unfold yue at h
 refine kG [bC 0 a0] [] trivial ?_
 obtain⟨v1,hv1,h⟩:=bs h
 obtain⟨v2,hv2,h⟩:=bs h
 refine kG [bC 0 v2.2,pI 2 v2.1] [(3,{lend:=some (some [.d false [.sl none (([13,(-1)]).map eI)]],[.p (iV v1.1)],.box (eCu v1.2),false),fix:=some (dL 5 eI ([13,(-1)]))}),(5,{lend:=some (some [.d false [.sl none (([0,1,2,3,5,8,12,v1.1]).map eI)]],[.p (iV v2.1)],.box (eCu v2.2),false),fix:=some (dL 7 eI ([0,1,2,3,5,8,12,v1.1]))})] (A6 (show([.d false [.sl none (eraL (([13,(-1)]).map eI))]]:List Arg)=[.d false [.sl none (([13,(-1)]).map eI)]] from(by simp only[yka (h:=eI) er_I])) (yna hv1) (show(SV.d false (eraR [.sl (some 3) (([13,(-1)]).map eI)]):SV)=.d false [.sl none (([13,(-1)]).map eI)] from(congrArg (fun z=>SV.d false z) (yqf (yka er_I) rfl))) (show([.d false [.sl none (eraL (([0,1,2,3,5,8,12,v1.1]).map eI))]]:List Arg)=[.d false [.sl none (([0,1,2,3,5,8,12,v1.1]).map eI)]] from(by simp only[yka (h:=eI) er_I])) (yna hv2) (show(SV.d false (eraR [.sl (some 3) (([0,1,2,3,5,8,12,v1.1]).map eI)]):SV)=.d false [.sl none (([0,1,2,3,5,8,12,v1.1]).map eI)] from(congrArg (fun z=>SV.d false z) (yqf (yka er_I) rfl)))) ?_
 refine ypa ?_
 obtain rfl:=oi h
 exact ebr [(.p (iV v2.1),2)]
theorem you {a0:(List Int)}  {r:((List Qp)×(List Qr)×Int)} (h:ygg a0=some r):Meets Tryz.prog 44 [.d false [.sl none (a0.map (eU .u8))]] { vals:=[.ov false (oP 96 r.1),.d false [.sl none (r.2.1.map eRt)],.p (iV r.2.2)] }:=by
 refine mo Tryz.func44 [dL 0 (eU .u8) a0] ?_
 unfold ygg at h
 refine kG [dL 0 (eU .u8) a0] [] trivial ?_
 refine kG [(5,.addr 10 [(0,0)]),bC 10 (a0,0,0)] [] trivial ?_
 obtain⟨v1,hv1,h⟩:=bs h
 refine kG [(5,.addr 10 [(0,0)]),vP 6 96 v1.1,dL 7 eRt v1.2.1,bC 10 v1.2.2] [hF 1 [.ov false (oP 96 v1.1),.d false [.sl none (v1.2.1.map eRt)]] (.box (eCu v1.2.2))] (A1 (ypq hv1)) ?_
 obtain⟨v2,hv2,h⟩:=bs h
 refine kG [vP 2 96 v1.1,dL 3 eRt v1.2.1,pI 4 v2.1] [hF 3 [.p (iV v2.1)] (.box (eCu v2.2))] (A1 (yxt hv2)) ?_
 refine ypa ?_
 obtain rfl:=oi h
 exact er [(.ov false (oP 96 v1.1),2),(.d false [.sl none (v1.2.1.map eRt)],3),(.p (iV v2.1),4)]
theorem yyn {a0:(List (List Int))} {a1:((List Int)->Option Bool)} {F1:FuncId} {K1:List (Bool×List C)} (hp1:∀ x0 y,a1 x0=some y->Meets Tryz.prog F1 ([.d false [.sl none (x0.map eI)]]++(K1.map fun (g,cs)=>mkA g cs)) { vals:=[.p (.bool y)] }) {r:Int} (h:yac a0 a1=some r):Meets Tryz.prog 203 [.d false [.sl none (a0.map (eF eI))],.d false [.fn F1 K1]] { vals:=[.p (iV r)] }:=by
 refine mo Tryz.func203 [dL 0 (eF eI) a0,(1,.d false [.fn F1 K1])] ?_
 unfold yac at h
 refine kG [dL 0 (eF eI) a0,(1,.d false [.fn F1 K1])] [] trivial ?_
 refine yjb (J:=fun (x:Unit)=>[]) (K:=fun x=>ylb x=some r) (fun x1 h=>?_) ?_
 ·unfold ylb at h
  refine kG [pI 4 (-1)] [] trivial ?_
  refine ypa ?_
  obtain rfl:=oi h
  exact er [(.p (iV (-1)),4)]
 refine kG [dL 0 (eF eI) a0,(1,.d false [.fn F1 K1]),pL 7 a0,pI 8 0] [hN 1 a0] (A1 (lF (eF eI) a0)) ?_
 refine yda ?_
 obtain⟨y3,hl_x2,hk_x2⟩:=bs h
 clear h
 refine yyb (J:=fun (x:Int)=>[dL 0 (eF eI) a0,(1,.d false [.fn F1 K1]),pL 7 a0,pI 8 x]) hl_x2 wkk (fun x2 o_x2 h hy_x2=>?_)
 unfold ymb at h
 refine kG [dL 0 (eF eI) a0,(1,.d false [.fn F1 K1]),pL 7 a0,pI 8 x2,pB 9 (decide (x2<(a0.length:Int)))] [] trivial ?_
 refine yeb (kI h (fun hc5_3 h=>?_) (fun hc5_3 h=>?_))
 ·refine yga (q_n (yeb (yda (kG [dL 0 (eF eI) a0,(1,.d false [.fn F1 K1]),pI 5 x2,pL 7 a0,pI 8 x2] [] trivial ?_))))
  obtain⟨v5,hv5,h⟩:=bs h
  obtain⟨v6,hv6,h⟩:=bs h
  refine kG [dL 0 (eF eI) a0,(1,.d false [.fn F1 K1]),pI 5 x2,pL 7 a0,pI 8 x2,pB 16 v6] [hR 3 [.sl none (v5.map eI)],hC 5 [.p (.bool v6)]] (A3 (yba hv5).1 (yca (eF eI) (yba hv5).2) (hp1 _ _ hv6)) ?_
  refine kI h (fun hc6_6 h=>?_) (fun hc6_6 h=>?_)
  ·refine kG [pI 4 x2] [] trivial ?_
   refine ypa (b_r (q_r (lq_r ?_)))
   refine b_r (q_r ?_)
   have hyy:=hy_x2 _ (oi h).symm
   subst hyy
   have h:=hk_x2
   dsimp only[Sum.elim] at h
   obtain rfl:=oi h
   exact er [(.p (iV x2),4)]
  refine yga (b_n (q_n (yhc (r_gq [dL 0 (eF eI) a0,(1,.d false [.fn F1 K1]),pL 7 a0,pI 8 (w64 (x2+1))] [] trivial) ?_)))
  exact lqn (w64 (x2+1)) h
 refine yrb (q_x (lq_x (b_x ?_)))
 have hyy:=hy_x2 _ (oi h).symm
 subst hyy
 have h:=hk_x2
 dsimp only[Sum.elim] at h
 refine q_n ?_
 exact jx () h
theorem ypm {a0:(List (List Int))} {a1:((List Int)->Option Bool)} {F1:FuncId} {K1:List (Bool×List C)} (hp1:∀ x0 y,a1 x0=some y->Meets Tryz.prog F1 ([.d false [.sl none (x0.map eI)]]++(K1.map fun (g,cs)=>mkA g cs)) { vals:=[.p (.bool y)] }) {r:Bool} (h:ybb a0 a1=some r):Meets Tryz.prog 167 [.d false [.sl none (a0.map (eF eI))],.d false [.fn F1 K1]] { vals:=[.p (.bool r)] }:=by
 refine mo Tryz.func167 [dL 0 (eF eI) a0,(1,.d false [.fn F1 K1])] ?_
 unfold ybb at h
 refine kG [dL 0 (eF eI) a0,(1,.d false [.fn F1 K1])] [] trivial ?_
 obtain⟨v1,hv1,h⟩:=bs h
 refine kG [pB 4 (decide (v1>=0))] [hC 2 [.p (iV v1)]] (A1 (show Meets Tryz.prog 203 ([.d false [.sl none (a0.map (eF eI))],.d false [.fn F1 K1]]++[]) { vals:=[.p (iV v1)] } from(yyn hp1 hv1))) ?_
 refine ypa ?_
 obtain rfl:=oi h
 exact er [(.p (.bool (decide (v1>=0))),4)]
theorem ytp {a0:(List Int)} {a1:(Int->Option Bool)} {F1:FuncId} (hp1:∀ x0 y,a1 x0=some y->Meets Tryz.prog F1 ([wI x0]++[]) { vals:=[.p (.bool y)] }) {r:Int} (h:ycd a0 a1=some r):Meets Tryz.prog 226 [.d false [.sl none (a0.map eI)],.v (.func (.func F1) #[] #[])] { vals:=[.p (iV r)] }:=by
 refine mo Tryz.func226 [dL 0 eI a0,(1,.p (.func (.func F1) #[] #[]))] ?_
 unfold ycd at h
 refine kG [dL 0 eI a0,(1,.p (.func (.func F1) #[] #[]))] [] trivial ?_
 refine yjb (J:=fun (x:Unit)=>[]) (K:=fun x=>yse x=some r) (fun x1 h=>?_) ?_
 ·unfold yse at h
  refine kG [pI 4 (-1)] [] trivial ?_
  refine ypa ?_
  obtain rfl:=oi h
  exact er [(.p (iV (-1)),4)]
 refine kG [dL 0 eI a0,(1,.p (.func (.func F1) #[] #[])),pL 7 a0,pI 8 0] [hN 1 a0] (A1 (lF eI a0)) ?_
 refine yda ?_
 obtain⟨y3,hl_x2,hk_x2⟩:=bs h
 clear h
 refine yyb (J:=fun (x:Int)=>[dL 0 eI a0,(1,.p (.func (.func F1) #[] #[])),pL 7 a0,pI 8 x]) hl_x2 wkk (fun x2 o_x2 h hy_x2=>?_)
 unfold ypc at h
 refine kG [dL 0 eI a0,(1,.p (.func (.func F1) #[] #[])),pL 7 a0,pI 8 x2,pB 9 (decide (x2<(a0.length:Int)))] [] trivial ?_
 refine yeb (kI h (fun hc5_3 h=>?_) (fun hc5_3 h=>?_))
 ·refine yga (q_n (yeb (yda (kG [dL 0 eI a0,(1,.p (.func (.func F1) #[] #[])),pI 5 x2,pL 7 a0,pI 8 x2] [] trivial ?_))))
  obtain⟨v5,hv5,h⟩:=bs h
  obtain⟨v6,hv6,h⟩:=bs h
  refine kG [dL 0 eI a0,(1,.p (.func (.func F1) #[] #[])),pI 5 x2,pL 7 a0,pI 8 x2,pB 16 v6] [hR 3 (eI v5),hC 5 [.p (.bool v6)]] (A3 (yba hv5).1 (yca eI (yba hv5).2) (hp1 _ _ hv6)) ?_
  refine kI h (fun hc6_6 h=>?_) (fun hc6_6 h=>?_)
  ·refine kG [pI 4 x2] [] trivial ?_
   refine ypa (b_r (q_r (lq_r ?_)))
   refine b_r (q_r ?_)
   have hyy:=hy_x2 _ (oi h).symm
   subst hyy
   have h:=hk_x2
   dsimp only[Sum.elim] at h
   obtain rfl:=oi h
   exact er [(.p (iV x2),4)]
  refine yga (b_n (q_n (yhc (r_gq [dL 0 eI a0,(1,.p (.func (.func F1) #[] #[])),pL 7 a0,pI 8 (w64 (x2+1))] [] trivial) ?_)))
  exact lqn (w64 (x2+1)) h
 refine yrb (q_x (lq_x (b_x ?_)))
 have hyy:=hy_x2 _ (oi h).symm
 subst hyy
 have h:=hk_x2
 dsimp only[Sum.elim] at h
 refine q_n ?_
 exact jx () h
theorem yrn {a0:(List Int)} {a1:(Int->Option Bool)} {F1:FuncId} (hp1:∀ x0 y,a1 x0=some y->Meets Tryz.prog F1 ([wI x0]++[]) { vals:=[.p (.bool y)] }) {r:Bool} (h:yqc a0 a1=some r):Meets Tryz.prog 205 [.d false [.sl none (a0.map eI)],.v (.func (.func F1) #[] #[])] { vals:=[.p (.bool r)] }:=by
 refine mo Tryz.func205 [dL 0 eI a0,(1,.p (.func (.func F1) #[] #[]))] ?_
 unfold yqc at h
 refine kG [dL 0 eI a0,(1,.p (.func (.func F1) #[] #[]))] [] trivial ?_
 obtain⟨v1,hv1,h⟩:=bs h
 refine kG [pB 4 (decide (v1>=0))] [hC 2 [.p (iV v1)]] (A1 (show Meets Tryz.prog 226 ([.d false [.sl none (a0.map eI)],.v (.func (.func F1) #[] #[])]++[]) { vals:=[.p (iV v1)] } from(ytp hp1 hv1))) ?_
 refine ypa ?_
 obtain rfl:=oi h
 exact er [(.p (.bool (decide (v1>=0))),4)]
theorem yxx {a0:Int}  {r:Bool} (h:ytg a0=some r):Meets Tryz.prog 206 [wI a0] { vals:=[.p (.bool r)] }:=by
 refine mo Tryz.func206 [pI 0 a0] ?_
 unfold ytg at h
 refine kG [pI 0 a0] [] trivial ?_
 obtain⟨v1,hv1,h⟩:=bs h
 refine kG [pB 2 (!v1)] [hC 1 [.p (.bool v1)]] (A1 (ygb hv1)) ?_
 refine ypa ?_
 obtain rfl:=oi h
 exact er [(.p (.bool (!v1)),2)]
theorem ydb1 {a0:(List Int)} {c0:(List (List Int))}  {r:Bool} (h:yzj a0 c0=some r):Meets Tryz.prog 204 [.d false [.sl none (a0.map eI)],.d false [.pt [.sl none (c0.map (eF eI))]]] { vals:=[.p (.bool r)] }:=by
 refine mo Tryz.func204 [dL 0 eI a0,(1,.d false [.pt [.sl none (c0.map (eF eI))]])] ?_
 unfold yzj at h
 refine kG [dL 0 eI a0,(1,.d false [.pt [.sl none (c0.map (eF eI))]])] [] trivial ?_
 obtain⟨w2,hw2,h⟩:=bs h
 refine ynb (l1:=[pB 3 w2]) ?_ ?_
 ·clear h
  rcases ft ((a0.length:Int) != (c0.length:Int)) with ha0 | ha0
  ·replace hw2:=yjh ha0 hw2
   have hw2:=oi hw2
   subst hw2
   exact(r_gq [pB 3 true] [hN 1 a0,hN 3 c0,(6,gT),(7,gT),(8,bT)] (A5 (lF eI a0) (lF (eF eI) c0) ha0 ha0 ha0))
  obtain⟨v1,hv1,hw2⟩:=bs (ykh ha0 hw2)
  have hw2:=oi hw2
  subst hw2
  exact(r_gq [pB 3 v1] [hN 1 a0,hN 3 c0,(6,gF),(7,(gN [.p (.bool v1)])),(8,bF)] (A6 (lF eI a0) (lF (eF eI) c0) ha0 ha0 (show Meets Tryz.prog 205 ([.d false [.sl none (a0.map eI)],.v (.func (.func 206) #[] #[])]++[]) { vals:=[.p (.bool v1)] } from(yrn (fun x0 y hy=>yxx hy) hv1)) ha0))
 refine ypa ?_
 obtain rfl:=oi h
 exact er [(.p (.bool w2),3)]
theorem ygw {a0:(List (List Int))}  {r:Bool} (h:yyq a0=some r):Meets Tryz.prog 171 [.d false [.sl none (a0.map (eF eI))]] { vals:=[.p (.bool r)] }:=by
 refine mo Tryz.func171 [dL 0 (eF eI) a0] ?_
 unfold yyq at h
 refine kG [bX 1 [.sl none (a0.map (eF eI))]] [] trivial ?_
 refine yib2 1 [.sl none (a0.map (eF eI))] [.sl none (a0.map (eF eI))] [(1,.d false [.pt [.sl none (a0.map (eF eI))]])] (by kernel_rfl) (yqf (yka (yjc2 er_I)) rfl) (by kernel_rfl) (by kernel_rfl) ?_
 obtain⟨v1,hv1,h⟩:=bs h
 obtain⟨w3,hw3,h⟩:=bs h
 refine ynb (l1:=[pB 2 w3]) ?_ ?_
 ·clear h
  rcases ft v1 with ha0 | ha0
  ·obtain⟨v2,hv2,hw3⟩:=bs (yjh ha0 hw3)
   have hw3:=oi hw3
   subst hw3
   exact(r_gq [pB 2 (!v2)] [hN 1 a0,hC 2 [.p (.bool v1)],(4,gT),(5,gT),(6,{g:=some true,call:=some (none,[.p (.bool v2)],true)}),(7,gT),(8,bT)] (B6 (lF (eF eI) a0) (ygb hv1) ha0 ha0 ha0 (show Meets Tryz.prog 167 ([.d false [.sl none (a0.map (eF eI))],.d false [.fn 204 [(false,[.pt [.sl none (a0.map (eF eI))]])]]]++[]) { vals:=[.p (.bool v2)] } from(ypm (fun x0 y hy=>ydb1 hy) hv2)) (A2 ha0 ha0)))
  replace hw3:=ykh ha0 hw3
  have hw3:=oi hw3
  subst hw3
  exact(r_gq [pB 2 false] [hN 1 a0,hC 2 [.p (.bool v1)],(4,gF),(5,gF),(6,gF),(7,gF),(8,bF)] (B6 (lF (eF eI) a0) (ygb hv1) ha0 ha0 ha0 ha0 (A1 ha0)))
 refine ypa ?_
 obtain rfl:=oi h
 exact er [(.p (.bool w3),2)]
theorem yyx {a0:(List (List Int))} {a1:Int}  {r:Bool} (h:ycm a0 a1=some r):Meets Tryz.prog 111 [.d false [.sl none (a0.map (eF eI))],wI a1] { vals:=[.p (.bool r)] }:=by
 refine mo Tryz.func111 [dL 0 (eF eI) a0,pI 1 a1] ?_
 unfold ycm at h
 refine kG [dL 0 (eF eI) a0,pI 1 a1] [] trivial ?_
 obtain⟨v1,hv1,h⟩:=bs h
 obtain⟨w3,hw3,h⟩:=bs h
 refine ynb (l1:=[pB 4 w3]) ?_ ?_
 ·clear h
  rcases ft v1 with ha0 | ha0
  ·obtain⟨v2,hv2,hw3⟩:=bs (yjh ha0 hw3)
   have hw3:=oi hw3
   subst hw3
   exact(r_gq [pB 4 v2] [hC 1 [.p (.bool v1)],(3,gT),(4,{g:=some true,call:=some (none,[.p (.bool v2)],true)}),(5,bT)] (A5 (ygw hv1) ha0 ha0 (ygb hv2) ha0))
  replace hw3:=ykh ha0 hw3
  have hw3:=oi hw3
  subst hw3
  exact(r_gq [pB 4 false] [hC 1 [.p (.bool v1)],(3,gF),(4,gF),(5,bF)] (A4 (ygw hv1) ha0 ha0 ha0))
 refine ypa ?_
 obtain rfl:=oi h
 exact er [(.p (.bool w3),4)]
theorem yeb1 {a0:(List (List Int))} {a1:Int} {a2:Int}  {r:(List (List Int))} (h:yym a0 a1 a2=some r):Meets Tryz.prog 133 [.d false [.sl none (a0.map (eF eI))],wI a1,wI a2] { vals:=[rO 32 (eO 3 eI) r] }:=by
 refine mo Tryz.func133 [dL 0 (eF eI) a0,pI 1 a1,pI 2 a2] ?_
 unfold yym at h
 refine kG [dL 0 (eF eI) a0,pI 1 a1,pI 2 a2] [] trivial ?_
 obtain⟨v1,hv1,h⟩:=bs h
 refine kG [dL 0 (eF eI) a0,pI 1 a1,pI 2 a2,vL 7 32 (eO 3 eI) v1] [hN 1 a0,hC 2 [rO 32 (eO 3 eI) v1]] (A3 (lF (eF eI) a0) (yxn hv1) (show List.all [rO 32 (eO 3 eI) v1] simpleR=true from(sa_o (wnR1 (yvc (wn_O wn_I)) rfl) rfl))) ?_
 refine yjb (J:=fun (x:(List (List Int)))=>[dL 0 (eF eI) a0,pI 1 a1,pI 2 a2,vL 7 32 (eO 3 eI) x]) (K:=fun x=>yhl a0 a1 a2 x=some r) (fun x2 h=>?_) ?_
 ·unfold yhl at h
  refine yjb (J:=fun (x:(List (List Int)))=>[vL 7 32 (eO 3 eI) x]) (K:=fun x=>ywp x=some r) (fun x3 h=>?_) ?_
  ·unfold ywp at h
   refine kG [vL 6 32 (eO 3 eI) x3] [] trivial ?_
   refine ypa ?_
   obtain rfl:=oi h
   exact er [(.ov false [.sl (some 32) (x3.map (eO 3 eI))],6)]
  refine kG [dL 0 (eF eI) a0,pI 2 a2,vL 7 32 (eO 3 eI) x2,pI 31 a1,pI 32 0] [] trivial ?_
  refine yda ?_
  obtain⟨y5,hl_x4,hk_x4⟩:=bs h
  clear h
  refine yyb (J:=fun (x:((List (List Int))×Int))=>[dL 0 (eF eI) a0,pI 2 a2,vL 7 32 (eO 3 eI) x.1,pI 31 a1,pI 32 x.2]) hl_x4 wkk (fun x4 o_x4 h hy_x4=>?_)
  unfold yff at h
  refine kG [dL 0 (eF eI) a0,pI 2 a2,vL 7 32 (eO 3 eI) x4.1,pI 31 a1,pI 32 x4.2,pB 33 (decide (x4.2<a1))] [] trivial ?_
  refine yeb (kI h (fun hc5_5 h=>?_) (fun hc5_5 h=>?_))
  ·refine yga (q_n (yjb (J:=fun (x:(List (List Int)))=>[dL 0 (eF eI) a0,pI 2 a2,vL 7 32 (eO 3 eI) x,pI 31 a1,pI 32 x4.2]) (K:=fun x=>ydl x4 x=some o_x4) (fun x7 h=>?_) ?_))
   ·unfold ydl at h
    refine yhc (r_gq [dL 0 (eF eI) a0,pI 2 a2,vL 7 32 (eO 3 eI) x7,pI 31 a1,pI 32 (w64 (x4.2+1))] [] trivial) ?_
    exact lqn (x7,(w64 (x4.2+1))) h
   refine yda ?_
   obtain⟨v8,hv8,h⟩:=bs h
   refine kG [dL 0 (eF eI) a0,pI 2 a2,vL 7 32 (eO 3 eI) x4.1,vL 9 32 (eO 3 eI) v8,pI 31 a1,pI 32 x4.2] [hN 1 a0,hC 2 [rO 32 (eO 3 eI) v8]] (A3 (lF (eF eI) a0) (yxn hv8) (show List.all [rO 32 (eO 3 eI) v8] simpleR=true from(sa_o (wnR1 (yvc (wn_O wn_I)) rfl) rfl))) ?_
   refine yjb (J:=fun (x:(List (List Int)))=>[dL 0 (eF eI) a0,pI 2 a2,vL 9 32 (eO 3 eI) x,pI 31 a1,pI 32 x4.2]) (K:=fun x=>yel x4 x=some o_x4) (fun x9 h=>?_) ?_
   ·unfold yel at h
    refine yhc (r_gq [dL 0 (eF eI) a0,pI 2 a2,vL 7 32 (eO 3 eI) x9,pI 31 a1,pI 32 x4.2] [] trivial) ?_
    refine b_n (q_n ?_)
    exact jx x9 h
   refine kG [dL 0 (eF eI) a0,pI 2 a2,vL 7 32 (eO 3 eI) x4.1,vL 9 32 (eO 3 eI) v8,pI 31 a1,pI 32 x4.2,rF 37 7,pL 38 x4.1,pI 39 0] [hN 1 x4.1] (A1 (lF (eO 3 eI) x4.1)) ?_
   refine yda ?_
   obtain⟨y11,hl_x10,hk_x10⟩:=bs h
   clear h
   refine yyb (J:=fun (x:((List (List Int))×Int))=>[dL 0 (eF eI) a0,pI 2 a2,vL 7 32 (eO 3 eI) x4.1,vL 9 32 (eO 3 eI) x.1,pI 31 a1,pI 32 x4.2,rF 37 7,pL 38 x4.1,pI 39 x.2]) hl_x10 wkk (fun x10 o_x10 h hy_x10=>?_)
   unfold yef at h
   refine kG [dL 0 (eF eI) a0,pI 2 a2,vL 7 32 (eO 3 eI) x4.1,vL 9 32 (eO 3 eI) x10.1,pI 31 a1,pI 32 x4.2,rF 37 7,pL 38 x4.1,pI 39 x10.2,pB 40 (decide (x10.2<(x4.1.length:Int)))] [] trivial ?_
   refine yeb (kI h (fun hc10_11 h=>?_) (fun hc10_11 h=>?_))
   ·refine yga (q_n (yjb (J:=fun (x:(List (List Int)))=>[dL 0 (eF eI) a0,pI 2 a2,vL 7 32 (eO 3 eI) x4.1,vL 9 32 (eO 3 eI) x,pI 31 a1,pI 32 x4.2,rF 37 7,pL 38 x4.1,pI 39 x10.2]) (K:=fun x=>yfl x10 x=some o_x10) (fun x13 h=>?_) ?_))
    ·unfold yfl at h
     refine yhc (r_gq [dL 0 (eF eI) a0,pI 2 a2,vL 7 32 (eO 3 eI) x4.1,vL 9 32 (eO 3 eI) x13,pI 31 a1,pI 32 x4.2,rF 37 7,pL 38 x4.1,pI 39 (w64 (x10.2+1))] [] trivial) ?_
     exact lqn (x13,(w64 (x10.2+1))) h
    refine yda ?_
    obtain⟨v14,hv14,h⟩:=bs h
    refine kG [dL 0 (eF eI) a0,pI 2 a2,vL 7 32 (eO 3 eI) x4.1,vL 9 32 (eO 3 eI) x10.1,pI 10 x10.2,(11,.ref 7 [(0,0),((Int.toNat x10.2),0)] none),pI 31 a1,pI 32 x4.2,rF 37 7,pL 38 x4.1,pI 39 x10.2] [hR 1 [.sl (some 3) (v14.map eI)],hR 2 [.sl (some 3) (v14.map eI)]] (A4 (yba hv14).1 (yca (eO 3 eI) (yba hv14).2) (show frR [.sl (some 3) (v14.map eI)]=false from rfl) (gW 32 (eO 3 eI) hv14)) ?_
    refine kG [dL 0 (eF eI) a0,pI 2 a2,vL 7 32 (eO 3 eI) x4.1,vL 9 32 (eO 3 eI) x10.1,pI 10 x10.2,pI 31 a1,pI 32 x4.2,rF 37 7,pL 38 x4.1,pI 39 x10.2,(44,.ref 7 [(0,0),((Int.toNat x10.2),0)] none),pL 45 v14,pI 46 0] [(1,{deep:=some [.sl (some 3) (v14.map eI)],n:=some v14.length})] (A2 (lF eI v14) (gW 32 (eO 3 eI) hv14)) ?_
    refine yda ?_
    obtain⟨y16,hl_x15,hk_x15⟩:=bs h
    clear h
    refine yyb (J:=fun (x:((List (List Int))×Int))=>[dL 0 (eF eI) a0,pI 2 a2,vL 7 32 (eO 3 eI) x4.1,vL 9 32 (eO 3 eI) x.1,pI 10 x10.2,pI 31 a1,pI 32 x4.2,rF 37 7,pL 38 x4.1,pI 39 x10.2,(44,.ref 7 [(0,0),((Int.toNat x10.2),0)] none),pL 45 v14,pI 46 x.2]) hl_x15 wkk (fun x15 o_x15 h hy_x15=>?_)
    unfold ydf at h
    refine kG [dL 0 (eF eI) a0,pI 2 a2,vL 7 32 (eO 3 eI) x4.1,vL 9 32 (eO 3 eI) x15.1,pI 10 x10.2,pI 31 a1,pI 32 x4.2,rF 37 7,pL 38 x4.1,pI 39 x10.2,(44,.ref 7 [(0,0),((Int.toNat x10.2),0)] none),pL 45 v14,pI 46 x15.2,pB 47 (decide (x15.2<(v14.length:Int)))] [] trivial ?_
    refine yeb (kI h (fun hc14_16 h=>?_) (fun hc14_16 h=>?_))
    ·refine yga (q_n (yjb (J:=fun (x:(List (List Int)))=>[dL 0 (eF eI) a0,pI 2 a2,vL 7 32 (eO 3 eI) x4.1,vL 9 32 (eO 3 eI) x,pI 10 x10.2,pI 31 a1,pI 32 x4.2,rF 37 7,pL 38 x4.1,pI 39 x10.2,(44,.ref 7 [(0,0),((Int.toNat x10.2),0)] none),pL 45 v14,pI 46 x15.2]) (K:=fun x=>ygl x15 x=some o_x15) (fun x18 h=>?_) ?_))
     ·unfold ygl at h
      refine yhc (r_gq [dL 0 (eF eI) a0,pI 2 a2,vL 7 32 (eO 3 eI) x4.1,vL 9 32 (eO 3 eI) x18,pI 10 x10.2,pI 31 a1,pI 32 x4.2,rF 37 7,pL 38 x4.1,pI 39 x10.2,(44,.ref 7 [(0,0),((Int.toNat x10.2),0)] none),pL 45 v14,pI 46 (w64 (x15.2+1))] [] trivial) ?_
      exact lqn (x18,(w64 (x15.2+1))) h
     refine yda ?_
     obtain⟨v19,hv19,h⟩:=bs h
     refine kG [dL 0 (eF eI) a0,pI 2 a2,vL 7 32 (eO 3 eI) x4.1,vL 9 32 (eO 3 eI) x15.1,pI 10 x10.2,pI 12 x15.2,pI 13 v19,pI 31 a1,pI 32 x4.2,rF 37 7,pL 38 x4.1,pI 39 x10.2,(44,.ref 7 [(0,0),((Int.toNat x10.2),0)] none),pL 45 v14,pI 46 x15.2] [(1,{deep:=some [.sl (some 3) (v14.map eI)],row:=some (eI v19)}),hR 2 (eI v19)] (A4 (yba hv19).1 (yca eI (yba hv19).2) (gW 32 (eO 3 eI) hv14) (show getRow [[.sl (some 32) (x4.1.map (eO 3 eI))]] [(0,0),((Int.toNat x10.2),0),((Int.toNat x15.2),0)]=some (eI v19) from((gr0 rfl).trans ((grs (yca (eO 3 eI) (yba hv14).2) rfl).trans (gre (yca eI (yba hv19).2)))))) ?_
     obtain⟨v20,hv20,h⟩:=bs h
     refine kG [dL 0 (eF eI) a0,pI 2 a2,vL 7 32 (eO 3 eI) x4.1,vL 9 32 (eO 3 eI) x15.1,pI 10 x10.2,pI 13 v19,pI 31 a1,pI 32 x4.2,rF 37 7,pL 38 x4.1,pI 39 x10.2,(44,.ref 7 [(0,0),((Int.toNat x10.2),0)] none),pL 45 v14,pI 46 x15.2,dL 54 eI v20,pL 55 v20,pI 56 0] [hR 2 [.sl none (v20.map eI)],hN 4 v20] (A3 (yba hv20).1 (yca (eF eI) (yba hv20).2) (lF eI v20)) ?_
     refine yda ?_
     obtain⟨y22,hl_x21,hk_x21⟩:=bs h
     clear h
     refine yyb (J:=fun (x:((List (List Int))×Int))=>[dL 0 (eF eI) a0,pI 2 a2,vL 7 32 (eO 3 eI) x4.1,vL 9 32 (eO 3 eI) x.1,pI 10 x10.2,pI 13 v19,pI 31 a1,pI 32 x4.2,rF 37 7,pL 38 x4.1,pI 39 x10.2,(44,.ref 7 [(0,0),((Int.toNat x10.2),0)] none),pL 45 v14,pI 46 x15.2,dL 54 eI v20,pL 55 v20,pI 56 x.2]) hl_x21 wkk (fun x21 o_x21 h hy_x21=>?_)
     unfold ycf at h
     refine kG [dL 0 (eF eI) a0,pI 2 a2,vL 7 32 (eO 3 eI) x4.1,vL 9 32 (eO 3 eI) x21.1,pI 10 x10.2,pI 13 v19,pI 31 a1,pI 32 x4.2,rF 37 7,pL 38 x4.1,pI 39 x10.2,(44,.ref 7 [(0,0),((Int.toNat x10.2),0)] none),pL 45 v14,pI 46 x15.2,dL 54 eI v20,pL 55 v20,pI 56 x21.2,pB 57 (decide (x21.2<(v20.length:Int)))] [] trivial ?_
     refine yeb (kI h (fun hc18_22 h=>?_) (fun hc18_22 h=>?_))
     ·refine yga (q_n (yeb (yda ?_)))
      obtain⟨v24,hv24,h⟩:=bs h
      refine kG [dL 0 (eF eI) a0,pI 2 a2,vL 7 32 (eO 3 eI) x4.1,vL 9 32 (eO 3 eI) x21.1,pI 10 x10.2,pI 13 v19,pI 14 x21.2,pI 15 v24,pI 31 a1,pI 32 x4.2,rF 37 7,pL 38 x4.1,pI 39 x10.2,(44,.ref 7 [(0,0),((Int.toNat x10.2),0)] none),pL 45 v14,pI 46 x15.2,dL 54 eI v20,pL 55 v20,pI 56 x21.2] [hR 1 (eI v24)] (A2 (yba hv24).1 (yca eI (yba hv24).2)) ?_
      obtain⟨v25,hv25,h⟩:=bs h
      obtain⟨v26,hv26,h⟩:=bs h
      refine yhc (r_dq yfa 18 [] [dL 0 (eF eI) a0,pI 2 a2,vL 7 32 (eO 3 eI) x4.1,vL 9 32 (eO 3 eI) (x21.1.set (Int.toNat x10.2) (v25.set (Int.toNat x21.2) (if a2<(w64 (v26+(w64 (v19*v24)))) then a2 else(w64 (v26+(w64 (v19*v24))))))),pI 10 x10.2,pI 13 v19,pI 31 a1,pI 32 x4.2,rF 37 7,pL 38 x4.1,pI 39 x10.2,(44,.ref 7 [(0,0),((Int.toNat x10.2),0)] none),pL 45 v14,pI 46 x15.2,dL 54 eI v20,pL 55 v20,pI 56 x21.2] [hR 2 [.sl (some 3) (v25.map eI)],hR 3 [.sl (some 3) (v25.map eI)],hR 7 [.sl (some 3) (v25.map eI)],hR 8 [.sl (some 3) (v25.map eI)],(10,{deep:=some [.sl (some 3) (v25.map eI)],row:=some (eI v26)}),hR 11 (eI v26),(18,{deep:=some [.sl (some 3) (v25.map eI)],row:=some (eI v26)}),(19,{row:=some (eI v26),fix:=some (vL 9 32 (eO 3 eI) (x21.1.set (Int.toNat x10.2) (v25.set (Int.toNat x21.2) (if a2<(w64 (v26+(w64 (v19*v24)))) then a2 else(w64 (v26+(w64 (v19*v24))))))))})] (B6 (yba hv25).1 (yca (eO 3 eI) (yba hv25).2) (show frR [.sl (some 3) (v25.map eI)]=false from rfl) (gW 32 (eO 3 eI) hv25) (yba hv25).1 (yca (eO 3 eI) (yba hv25).2) (B6 (show frR [.sl (some 3) (v25.map eI)]=false from rfl) (gW 32 (eO 3 eI) hv25) (yba hv26).1 (yca eI (yba hv26).2) (gW 32 (eO 3 eI) hv25) (show getRow [[.sl (some 32) (x21.1.map (eO 3 eI))]] [(0,0),((Int.toNat x10.2),0),((Int.toNat x21.2),0)]=some (eI v26) from((gr0 rfl).trans ((grs (yca (eO 3 eI) (yba hv25).2) rfl).trans (gre (yca eI (yba hv26).2))))) (A5 (yba hv26).1 (yca eI (yba hv26).2) (gW 32 (eO 3 eI) hv25) (show getRow [[.sl (some 32) (x21.1.map (eO 3 eI))]] [(0,0),((Int.toNat x10.2),0),((Int.toNat x21.2),0)]=some (eI v26) from((gr0 rfl).trans ((grs (yca (eO 3 eI) (yba hv25).2) rfl).trans (gre (yca eI (yba hv26).2))))) (show(SV.ov false [.sl (some 32) (setL (x21.1.map (eO 3 eI)) [((Int.toNat x10.2),0),((Int.toNat x21.2),0)] [rI (if a2<(w64 (v26+(w64 (v19*v24)))) then a2 else(w64 (v26+(w64 (v19*v24)))))])]:SV)=.ov false [.sl (some 32) ((x21.1.set (Int.toNat x10.2) (v25.set (Int.toNat x21.2) (if a2<(w64 (v26+(w64 (v19*v24)))) then a2 else(w64 (v26+(w64 (v19*v24))))))).map (eO 3 eI))] from(congrArg (fun z=>SV.ov false [.sl (some 32) z]) (set2 (f:=(eO 3 eI)) (y:=(v25.set (Int.toNat x21.2) (if a2<(w64 (v26+(w64 (v19*v24)))) then a2 else(w64 (v26+(w64 (v19*v24))))))) (yba hv25).2 rfl (set1 (f:=eI) (y:=(if a2<(w64 (v26+(w64 (v19*v24)))) then a2 else(w64 (v26+(w64 (v19*v24)))))) (yba hv26).2 rfl) rfl))))))) ?_
      refine b_n (q_n (yhc (r_gq [dL 0 (eF eI) a0,pI 2 a2,vL 7 32 (eO 3 eI) x4.1,vL 9 32 (eO 3 eI) (x21.1.set (Int.toNat x10.2) (v25.set (Int.toNat x21.2) (if a2<(w64 (v26+(w64 (v19*v24)))) then a2 else(w64 (v26+(w64 (v19*v24))))))),pI 10 x10.2,pI 13 v19,pI 31 a1,pI 32 x4.2,rF 37 7,pL 38 x4.1,pI 39 x10.2,(44,.ref 7 [(0,0),((Int.toNat x10.2),0)] none),pL 45 v14,pI 46 x15.2,dL 54 eI v20,pL 55 v20,pI 56 (w64 (x21.2+1))] [] trivial) ?_))
      exact lqn ((x21.1.set (Int.toNat x10.2) (v25.set (Int.toNat x21.2) (if a2<(w64 (v26+(w64 (v19*v24)))) then a2 else(w64 (v26+(w64 (v19*v24))))))),(w64 (x21.2+1))) h
     refine yrb (q_x (lq_x (b_x (b_n ?_))))
     have hyy:=hy_x21 _ (oi h).symm
     subst hyy
     have h:=hk_x21
     refine q_n ?_
     exact jx x21.1 h
    refine yrb (q_x (lq_x (b_x (b_n ?_))))
    have hyy:=hy_x15 _ (oi h).symm
    subst hyy
    have h:=hk_x15
    refine q_n ?_
    exact jx x15.1 h
   refine yrb (q_x (lq_x (b_x ?_)))
   have hyy:=hy_x10 _ (oi h).symm
   subst hyy
   have h:=hk_x10
   refine q_n ?_
   exact jx x10.1 h
  refine yrb (q_x (lq_x (b_x ?_)))
  have hyy:=hy_x4 _ (oi h).symm
  subst hyy
  have h:=hk_x4
  refine q_n ?_
  exact jx x4.1 h
 refine kG [dL 0 (eF eI) a0,pI 1 a1,pI 2 a2,vL 7 32 (eO 3 eI) v1,pL 20 v1,pI 21 0] [hN 1 v1] (A1 (lF (eO 3 eI) v1)) ?_
 refine yda ?_
 obtain⟨y28,hl_x27,hk_x27⟩:=bs h
 clear h
 refine yyb (J:=fun (x:((List (List Int))×Int))=>[dL 0 (eF eI) a0,pI 1 a1,pI 2 a2,vL 7 32 (eO 3 eI) x.1,pL 20 v1,pI 21 x.2]) hl_x27 wkk (fun x27 o_x27 h hy_x27=>?_)
 unfold yai at h
 refine kG [dL 0 (eF eI) a0,pI 1 a1,pI 2 a2,vL 7 32 (eO 3 eI) x27.1,pL 20 v1,pI 21 x27.2,pB 22 (decide (x27.2<(v1.length:Int)))] [] trivial ?_
 refine yeb (kI h (fun hc5_28 h=>?_) (fun hc5_28 h=>?_))
 ·refine yga (q_n (yeb (yda (kG [dL 0 (eF eI) a0,pI 1 a1,pI 2 a2,vL 7 32 (eO 3 eI) x27.1,pI 8 x27.2,pL 20 v1,pI 21 x27.2] [] trivial ?_))))
  obtain⟨v30,hv30,h⟩:=bs h
  obtain⟨v31,hv31,h⟩:=bs h
  refine yhc (r_gq [dL 0 (eF eI) a0,pI 1 a1,pI 2 a2,vL 7 32 (eO 3 eI) (x27.1.set (Int.toNat x27.2) (v30.set (Int.toNat x27.2) 1)),pL 20 v1,pI 21 x27.2] [hR 2 [.sl (some 3) (v30.map eI)],hR 3 [.sl (some 3) (v30.map eI)],(5,{deep:=some [.sl (some 3) (v30.map eI)],row:=some (eI v31)}),(6,{row:=some (eI v31),fix:=some (vL 7 32 (eO 3 eI) (x27.1.set (Int.toNat x27.2) (v30.set (Int.toNat x27.2) 1)))})] (B6 (yba hv30).1 (yca (eO 3 eI) (yba hv30).2) (show frR [.sl (some 3) (v30.map eI)]=false from rfl) (gW 32 (eO 3 eI) hv30) (yba hv31).1 (yca eI (yba hv31).2) (A3 (gW 32 (eO 3 eI) hv30) (show getRow [[.sl (some 32) (x27.1.map (eO 3 eI))]] [(0,0),((Int.toNat x27.2),0),((Int.toNat x27.2),0)]=some (eI v31) from((gr0 rfl).trans ((grs (yca (eO 3 eI) (yba hv30).2) rfl).trans (gre (yca eI (yba hv31).2))))) (show(SV.ov false [.sl (some 32) (setL (x27.1.map (eO 3 eI)) [((Int.toNat x27.2),0),((Int.toNat x27.2),0)] [rI 1])]:SV)=.ov false [.sl (some 32) ((x27.1.set (Int.toNat x27.2) (v30.set (Int.toNat x27.2) 1)).map (eO 3 eI))] from(congrArg (fun z=>SV.ov false [.sl (some 32) z]) (set2 (f:=(eO 3 eI)) (y:=(v30.set (Int.toNat x27.2) 1)) (yba hv30).2 rfl (set1 (f:=eI) (y:=1) (yba hv31).2 rfl) rfl)))))) ?_
  refine b_n (q_n (yhc (r_gq [dL 0 (eF eI) a0,pI 1 a1,pI 2 a2,vL 7 32 (eO 3 eI) (x27.1.set (Int.toNat x27.2) (v30.set (Int.toNat x27.2) 1)),pL 20 v1,pI 21 (w64 (x27.2+1))] [] trivial) ?_))
  exact lqn ((x27.1.set (Int.toNat x27.2) (v30.set (Int.toNat x27.2) 1)),(w64 (x27.2+1))) h
 refine yrb (q_x (lq_x (b_x ?_)))
 have hyy:=hy_x27 _ (oi h).symm
 subst hyy
 have h:=hk_x27
 refine q_n ?_
 exact jx x27.1 h
theorem ypa1 {a0:(List (List Int))} {a1:Int}  {r:(List (List Int))} (h:yzq a0 a1=some r):Meets Tryz.prog 112 [.d false [.sl none (a0.map (eF eI))],wI a1] { vals:=[rO 32 (eO 3 eI) r] }:=by
 refine mo Tryz.func112 [dL 0 (eF eI) a0,pI 1 a1] ?_
 unfold yzq at h
 refine kG [dL 0 (eF eI) a0,pI 1 a1] [] trivial ?_
 obtain⟨v1,hv1,h⟩:=bs h
 refine kG [vL 4 32 (eO 3 eI) v1] [hC 2 [rO 32 (eO 3 eI) v1]] (A2 (yeb1 hv1) (show List.all [rO 32 (eO 3 eI) v1] simpleR=true from(sa_o (wnR1 (yvc (wn_O wn_I)) rfl) rfl))) ?_
 refine ypa ?_
 obtain rfl:=oi h
 exact er [(.ov false [.sl (some 32) (v1.map (eO 3 eI))],4)]
theorem yzn {a0:(List (List Int))} {a1:((List Int)->Option Bool)} {F1:FuncId} (hp1:∀ x0 y,a1 x0=some y->Meets Tryz.prog F1 ([.d false [.sl none (x0.map eI)]]++[]) { vals:=[.p (.bool y)] }) {r:Int} (h:yac a0 a1=some r):Meets Tryz.prog 203 [.d false [.sl none (a0.map (eF eI))],.v (.func (.func F1) #[] #[])] { vals:=[.p (iV r)] }:=by
 refine mo Tryz.func203 [dL 0 (eF eI) a0,(1,.p (.func (.func F1) #[] #[]))] ?_
 unfold yac at h
 refine kG [dL 0 (eF eI) a0,(1,.p (.func (.func F1) #[] #[]))] [] trivial ?_
 refine yjb (J:=fun (x:Unit)=>[]) (K:=fun x=>ylb x=some r) (fun x1 h=>?_) ?_
 ·unfold ylb at h
  refine kG [pI 4 (-1)] [] trivial ?_
  refine ypa ?_
  obtain rfl:=oi h
  exact er [(.p (iV (-1)),4)]
 refine kG [dL 0 (eF eI) a0,(1,.p (.func (.func F1) #[] #[])),pL 7 a0,pI 8 0] [hN 1 a0] (A1 (lF (eF eI) a0)) ?_
 refine yda ?_
 obtain⟨y3,hl_x2,hk_x2⟩:=bs h
 clear h
 refine yyb (J:=fun (x:Int)=>[dL 0 (eF eI) a0,(1,.p (.func (.func F1) #[] #[])),pL 7 a0,pI 8 x]) hl_x2 wkk (fun x2 o_x2 h hy_x2=>?_)
 unfold ymb at h
 refine kG [dL 0 (eF eI) a0,(1,.p (.func (.func F1) #[] #[])),pL 7 a0,pI 8 x2,pB 9 (decide (x2<(a0.length:Int)))] [] trivial ?_
 refine yeb (kI h (fun hc5_3 h=>?_) (fun hc5_3 h=>?_))
 ·refine yga (q_n (yeb (yda (kG [dL 0 (eF eI) a0,(1,.p (.func (.func F1) #[] #[])),pI 5 x2,pL 7 a0,pI 8 x2] [] trivial ?_))))
  obtain⟨v5,hv5,h⟩:=bs h
  obtain⟨v6,hv6,h⟩:=bs h
  refine kG [dL 0 (eF eI) a0,(1,.p (.func (.func F1) #[] #[])),pI 5 x2,pL 7 a0,pI 8 x2,pB 16 v6] [hR 3 [.sl none (v5.map eI)],hC 5 [.p (.bool v6)]] (A3 (yba hv5).1 (yca (eF eI) (yba hv5).2) (hp1 _ _ hv6)) ?_
  refine kI h (fun hc6_6 h=>?_) (fun hc6_6 h=>?_)
  ·refine kG [pI 4 x2] [] trivial ?_
   refine ypa (b_r (q_r (lq_r ?_)))
   refine b_r (q_r ?_)
   have hyy:=hy_x2 _ (oi h).symm
   subst hyy
   have h:=hk_x2
   dsimp only[Sum.elim] at h
   obtain rfl:=oi h
   exact er [(.p (iV x2),4)]
  refine yga (b_n (q_n (yhc (r_gq [dL 0 (eF eI) a0,(1,.p (.func (.func F1) #[] #[])),pL 7 a0,pI 8 (w64 (x2+1))] [] trivial) ?_)))
  exact lqn (w64 (x2+1)) h
 refine yrb (q_x (lq_x (b_x ?_)))
 have hyy:=hy_x2 _ (oi h).symm
 subst hyy
 have h:=hk_x2
 dsimp only[Sum.elim] at h
 refine q_n ?_
 exact jx () h
theorem yqm {a0:(List (List Int))} {a1:((List Int)->Option Bool)} {F1:FuncId} (hp1:∀ x0 y,a1 x0=some y->Meets Tryz.prog F1 ([.d false [.sl none (x0.map eI)]]++[]) { vals:=[.p (.bool y)] }) {r:Bool} (h:ybb a0 a1=some r):Meets Tryz.prog 167 [.d false [.sl none (a0.map (eF eI))],.v (.func (.func F1) #[] #[])] { vals:=[.p (.bool r)] }:=by
 refine mo Tryz.func167 [dL 0 (eF eI) a0,(1,.p (.func (.func F1) #[] #[]))] ?_
 unfold ybb at h
 refine kG [dL 0 (eF eI) a0,(1,.p (.func (.func F1) #[] #[]))] [] trivial ?_
 obtain⟨v1,hv1,h⟩:=bs h
 refine kG [pB 4 (decide (v1>=0))] [hC 2 [.p (iV v1)]] (A1 (show Meets Tryz.prog 203 ([.d false [.sl none (a0.map (eF eI))],.v (.func (.func F1) #[] #[])]++[]) { vals:=[.p (iV v1)] } from(yzn hp1 hv1))) ?_
 refine ypa ?_
 obtain rfl:=oi h
 exact er [(.p (.bool (decide (v1>=0))),4)]
theorem ypu {a0:(List Int)}  {r:Int} (h:yzf a0=some r):Meets Tryz.prog 169 [.d false [.sl none (a0.map eI)]] { vals:=[.p (iV r)] }:=by
 refine mo Tryz.func169 [dL 0 eI a0] ?_
 unfold yzf at h
 refine kG [dL 0 eI a0] [] trivial ?_
 refine yjb (J:=fun (x:Unit)=>[dL 0 eI a0]) (K:=fun x=>yyf a0 x=some r) (fun x1 h=>?_) ?_
 ·unfold yyf at h
  obtain⟨v2,hv2,h⟩:=bs h
  refine kG [dL 0 eI a0,pI 3 v2] [hR 1 (eI v2)] (A2 (yba hv2).1 (yca eI (yba hv2).2)) ?_
  refine yjb (J:=fun (x:Int)=>[pI 3 x]) (K:=fun x=>ynj x=some r) (fun x3 h=>?_) ?_
  ·unfold ynj at h
   refine kG [pI 2 x3] [] trivial ?_
   refine ypa ?_
   obtain rfl:=oi h
   exact er [(.p (iV x3),2)]
  refine kG [dL 0 eI a0,pI 3 v2,pI 4 1] [] trivial ?_
  refine yda ?_
  obtain⟨y5,hl_x4,hk_x4⟩:=bs h
  clear h
  refine yyb (J:=fun (x:Qr)=>[dL 0 eI a0,pI 3 x.1,pI 4 x.2]) hl_x4 wkk (fun x4 o_x4 h hy_x4=>?_)
  unfold ywd at h
  refine yeb (kG [dL 0 eI a0,pI 3 x4.1,pI 4 x4.2,pB 15 (decide (x4.2<(a0.length:Int)))] [hN 2 a0] (A1 (lF eI a0)) ?_)
  refine kI h (fun hc5_5 h=>?_) (fun hc5_5 h=>?_)
  ·refine yga (q_n (yeb (yda ?_)))
   obtain⟨v7,hv7,h⟩:=bs h
   refine yhc (r_gq [dL 0 eI a0,pI 3 (if x4.1<v7 then v7 else x4.1),pI 4 x4.2] [hR 3 (eI v7)] (A2 (yba hv7).1 (yca eI (yba hv7).2))) ?_
   refine b_n (q_n (yhc (r_gq [dL 0 eI a0,pI 3 (if x4.1<v7 then v7 else x4.1),pI 4 (w64 (x4.2+1))] [] trivial) ?_))
   exact lqn ((if x4.1<v7 then v7 else x4.1),(w64 (x4.2+1))) h
  refine yrb (q_x (lq_x (b_x ?_)))
  have hyy:=hy_x4 _ (oi h).symm
  subst hyy
  have h:=hk_x4
  refine q_n ?_
  exact jx x4.1 h
 refine kG [dL 0 eI a0,pB 7 (decide ((a0.length:Int)<1))] [hN 1 a0] (A1 (lF eI a0)) ?_
 refine kI h (fun hc2_7 h=>?_) (fun hc2_7 h=>?_)
 ·cases h
 refine yga (q_n ?_)
 exact jx () h
theorem yfb1 {a0:(List Int)}  {r:Bool} (h:yvh a0=some r):Meets Tryz.prog 168 [.d false [.sl none (a0.map eI)]] { vals:=[.p (.bool r)] }:=by
 refine mo Tryz.func168 [dL 0 eI a0] ?_
 unfold yvh at h
 refine kG [dL 0 eI a0] [] trivial ?_
 obtain⟨v1,hv1,h⟩:=bs h
 refine kG [pB 2 (decide (v1>1000000000))] [hC 1 [.p (iV v1)]] (A1 (ypu hv1)) ?_
 refine ypa ?_
 obtain rfl:=oi h
 exact er [(.p (.bool (decide (v1>1000000000))),2)]
theorem yyd1 {a0:(List (List Int))} {a1:Int}  {r:((List (List Int))×Bool)} (h:ywh a0 a1=some r):Meets Tryz.prog 108 [.d false [.sl none (a0.map (eF eI))],wI a1] { vals:=[rO 32 (eO 3 eI) r.1,.p (.bool r.2)] }:=by
 refine mo Tryz.func108 [dL 0 (eF eI) a0,pI 1 a1] ?_
 unfold ywh at h
 refine kG [dL 0 (eF eI) a0,pI 1 a1] [] trivial ?_
 refine yeb ?_
 obtain⟨v1,hv1,h⟩:=bs h
 refine kG [dL 0 (eF eI) a0,pI 1 a1,pB 10 (!v1)] [hC 2 [.p (.bool v1)]] (A1 (yyx hv1)) ?_
 refine kI h (fun hc2_1 h=>?_) (fun hc2_1 h=>?_)
 ·refine kG [vN 4 32,pB 5 false] [] trivial ?_
  refine ypa (q_r ?_)
  obtain rfl:=oi h
  exact er [(.ov false (oN 32),4),(.p (.bool false),5)]
 refine yga (q_n ?_)
 obtain⟨v3,hv3,h⟩:=bs h
 refine kG [vL 6 32 (eO 3 eI) v3] [hC 2 [rO 32 (eO 3 eI) v3]] (A2 (ypa1 hv3) (show List.all [rO 32 (eO 3 eI) v3] simpleR=true from(sa_o (wnR1 (yvc (wn_O wn_I)) rfl) rfl))) ?_
 refine yeb ?_
 obtain⟨v4,hv4,h⟩:=bs h
 refine kG [vL 6 32 (eO 3 eI) v3,pB 15 v4] [(1,(cS [.d false [.sl none (v3.map (eF eI))],.v (.func (.func 168) #[] #[])] [.p (.bool v4)]))] (A2 (show([.d false [.sl none (eraL (v3.map (eO 3 eI)))],.v (.func (.func 168) #[] #[])]:List Arg)=[.d false [.sl none (v3.map (eF eI))],.v (.func (.func 168) #[] #[])] from(by simp only[yka (h:=(eF eI)) (yxr1 er_I)])) (show Meets Tryz.prog 167 ([.d false [.sl none (v3.map (eF eI))],.v (.func (.func 168) #[] #[])]++[]) { vals:=[.p (.bool v4)] } from(yqm (fun x0 y hy=>yfb1 hy) hv4))) ?_
 refine kI h (fun hc2_4 h=>?_) (fun hc2_4 h=>?_)
 ·refine kG [vN 4 32,pB 5 false] [] trivial ?_
  refine ypa (q_r ?_)
  obtain rfl:=oi h
  exact er [(.ov false (oN 32),4),(.p (.bool false),5)]
 refine yga (q_n (kG [vL 4 32 (eO 3 eI) v3,pB 5 true] [] trivial ?_))
 refine ypa ?_
 obtain rfl:=oi h
 exact er [(.ov false [.sl (some 32) (v3.map (eO 3 eI))],4),(.p (.bool true),5)]
theorem yrz {a0:(List Qp)} {a1:(List Qr)} {a2:Int}  {r:(Int×Bool)} (h:yal a0 a1 a2=some r):Meets Tryz.prog 45 [.d false (sP a0),.d false [.sl none (a1.map eRt)],wI a2] { vals:=[.p (iV r.1),.p (.bool r.2)] }:=by
 refine mo Tryz.func45 [dP 0 a0,dL 1 eRt a1,pI 2 a2] ?_
 unfold yal at h
 refine kG [dP 0 a0,dL 1 eRt a1,pI 2 a2] [] trivial ?_
 refine yeb ?_
 obtain⟨v1,hv1,h⟩:=bs h
 refine kG [dP 0 a0,dL 1 eRt a1,pI 2 a2,pB 8 v1.1,pB 9 v1.2] [hC 2 [.p (.bool v1.1),.p (.bool v1.2)]] (A1 (ygp hv1)) ?_
 refine ynb (l1:=[dP 0 a0,dL 1 eRt a1,pI 2 a2,pB 29 ((!v1.2)||(!v1.1))]) ?_ ?_
 ·rcases ft (!v1.2) with ha0 | ha0
  ·exact RegOk.of_eq (r_gq [dP 0 a0,dL 1 eRt a1,pI 2 a2,pB 29 true] [(3,gT),(4,gT),(5,bT)] (A3 ha0 ha0 ha0)) (by simp[ha0])
  exact RegOk.of_eq (r_gq [dP 0 a0,dL 1 eRt a1,pI 2 a2,pB 29 (!v1.1)] [(3,gF),(4,gF),(5,bF)] (A3 ha0 ha0 ha0)) (by simp[ha0])
 refine kI h (fun hc2_1 h=>?_) (fun hc2_1 h=>?_)
 ·refine kG [pI 6 0,pB 7 false] [] trivial ?_
  refine ypa (q_r ?_)
  obtain rfl:=oi h
  exact er [(.p (iV 0),6),(.p (.bool false),7)]
 refine yga (q_n ?_)
 obtain⟨v3,hv3,h⟩:=bs h
 refine kG [pI 2 a2,vL 10 32 (eO 3 eI) v3.1,pB 11 v3.2] [hC 2 [rO 32 (eO 3 eI) v3.1,.p (.bool v3.2)]] (A2 (yum hv3) (show List.all [rO 32 (eO 3 eI) v3.1,.p (.bool v3.2)] simpleR=true from(sa_o (wnR1 (yvc (wn_O wn_I)) rfl) (sa_p rfl)))) ?_
 refine yeb (kG [pI 2 a2,vL 10 32 (eO 3 eI) v3.1,pB 37 (!v3.2)] [] trivial ?_)
 refine kI h (fun hc2_3 h=>?_) (fun hc2_3 h=>?_)
 ·refine kG [pI 6 0,pB 7 false] [] trivial ?_
  refine ypa (q_r ?_)
  obtain rfl:=oi h
  exact er [(.p (iV 0),6),(.p (.bool false),7)]
 refine yga (q_n ?_)
 obtain⟨v5,hv5,h⟩:=bs h
 refine kG [pB 11 v5.2,vL 12 32 (eO 3 eI) v5.1] [(2,(cS [.d false [.sl none (v3.1.map (eF eI))],wI a2] [rO 32 (eO 3 eI) v5.1,.p (.bool v5.2)]))] (A3 (show([.d false [.sl none (eraL (v3.1.map (eO 3 eI)))],wI a2]:List Arg)=[.d false [.sl none (v3.1.map (eF eI))],wI a2] from(by simp only[yka (h:=(eF eI)) (yxr1 er_I)])) (yyd1 hv5) (show List.all [rO 32 (eO 3 eI) v5.1,.p (.bool v5.2)] simpleR=true from(sa_o (wnR1 (yvc (wn_O wn_I)) rfl) (sa_p rfl)))) ?_
 refine kG [pB 11 v5.2,vL 12 32 (eO 3 eI) v5.1,pI 13 0] [] trivial ?_
 refine yjb (J:=fun (x:Int)=>[pB 11 v5.2,pI 13 x]) (K:=fun x=>yfh v5 x=some r) (fun x6 h=>?_) ?_
 ·unfold yfh at h
  refine yeb (ynb (l1:=[pI 13 x6,pB 66 ((!v5.2)||(decide (x6>1000000000)))]) ?_ ?_)
  ·rcases ft (!v5.2) with ha2 | ha2
   ·exact RegOk.of_eq (r_gq [pI 13 x6,pB 66 true] [(3,gT),(4,gT),(5,bT)] (A3 ha2 ha2 ha2)) (by simp[ha2])
   exact RegOk.of_eq (r_gq [pI 13 x6,pB 66 (decide (x6>1000000000))] [(3,gF),(4,gF),(5,bF)] (A3 ha2 ha2 ha2)) (by simp[ha2])
  refine kI h (fun hc2_6 h=>?_) (fun hc2_6 h=>?_)
  ·refine kG [pI 6 0,pB 7 false] [] trivial ?_
   refine ypa (q_r ?_)
   obtain rfl:=oi h
   exact er [(.p (iV 0),6),(.p (.bool false),7)]
  refine yga (q_n (kG [pI 6 x6,pB 7 true] [] trivial ?_))
  refine ypa ?_
  obtain rfl:=oi h
  exact er [(.p (iV x6),6),(.p (.bool true),7)]
 refine kG [pB 11 v5.2,vL 12 32 (eO 3 eI) v5.1,pI 13 0,rF 44 12,pL 45 v5.1,pI 46 0] [hN 1 v5.1] (A1 (lF (eO 3 eI) v5.1)) ?_
 refine yda ?_
 obtain⟨y9,hl_x8,hk_x8⟩:=bs h
 clear h
 refine yyb (J:=fun (x:Qr)=>[pB 11 v5.2,vL 12 32 (eO 3 eI) v5.1,pI 13 x.1,rF 44 12,pL 45 v5.1,pI 46 x.2]) hl_x8 wkk (fun x8 o_x8 h hy_x8=>?_)
 unfold ygh at h
 refine kG [pB 11 v5.2,vL 12 32 (eO 3 eI) v5.1,pI 13 x8.1,rF 44 12,pL 45 v5.1,pI 46 x8.2,pB 47 (decide (x8.2<(v5.1.length:Int)))] [] trivial ?_
 refine yeb (kI h (fun hc5_9 h=>?_) (fun hc5_9 h=>?_))
 ·refine yga (q_n (yjb (J:=fun (x:Int)=>[pB 11 v5.2,vL 12 32 (eO 3 eI) v5.1,pI 13 x,rF 44 12,pL 45 v5.1,pI 46 x8.2]) (K:=fun x=>yqo x8 x=some o_x8) (fun x11 h=>?_) ?_))
  ·unfold yqo at h
   refine yhc (r_gq [pB 11 v5.2,vL 12 32 (eO 3 eI) v5.1,pI 13 x11,rF 44 12,pL 45 v5.1,pI 46 (w64 (x8.2+1))] [] trivial) ?_
   exact lqn (x11,(w64 (x8.2+1))) h
  refine yda ?_
  obtain⟨v12,hv12,h⟩:=bs h
  refine kG [pB 11 v5.2,vL 12 32 (eO 3 eI) v5.1,pI 13 x8.1,(15,.ref 12 [(0,0),((Int.toNat x8.2),0)] none),rF 44 12,pL 45 v5.1,pI 46 x8.2] [hR 0 [.sl (some 3) (v12.map eI)],hR 1 [.sl (some 3) (v12.map eI)]] (A4 (yba hv12).1 (yca (eO 3 eI) (yba hv12).2) (show frR [.sl (some 3) (v12.map eI)]=false from rfl) (gW 32 (eO 3 eI) hv12)) ?_
  refine kG [pB 11 v5.2,vL 12 32 (eO 3 eI) v5.1,pI 13 x8.1,rF 44 12,pL 45 v5.1,pI 46 x8.2,(50,.ref 12 [(0,0),((Int.toNat x8.2),0)] none),pL 51 v12,pI 52 0] [(1,{deep:=some [.sl (some 3) (v12.map eI)],n:=some v12.length})] (A2 (lF eI v12) (gW 32 (eO 3 eI) hv12)) ?_
  refine yda ?_
  obtain⟨y14,hl_x13,hk_x13⟩:=bs h
  clear h
  refine yyb (J:=fun (x:Qr)=>[pB 11 v5.2,vL 12 32 (eO 3 eI) v5.1,pI 13 x.1,rF 44 12,pL 45 v5.1,pI 46 x8.2,(50,.ref 12 [(0,0),((Int.toNat x8.2),0)] none),pL 51 v12,pI 52 x.2]) hl_x13 wkk (fun x13 o_x13 h hy_x13=>?_)
  unfold yct at h
  refine kG [pB 11 v5.2,vL 12 32 (eO 3 eI) v5.1,pI 13 x13.1,rF 44 12,pL 45 v5.1,pI 46 x8.2,(50,.ref 12 [(0,0),((Int.toNat x8.2),0)] none),pL 51 v12,pI 52 x13.2,pB 53 (decide (x13.2<(v12.length:Int)))] [] trivial ?_
  refine yeb (kI h (fun hc9_14 h=>?_) (fun hc9_14 h=>?_))
  ·refine yga (q_n (yeb (yda ?_)))
   obtain⟨v16,hv16,h⟩:=bs h
   refine kG [pB 11 v5.2,vL 12 32 (eO 3 eI) v5.1,pI 13 x13.1,pI 17 v16,rF 44 12,pL 45 v5.1,pI 46 x8.2,(50,.ref 12 [(0,0),((Int.toNat x8.2),0)] none),pL 51 v12,pI 52 x13.2] [(0,{deep:=some [.sl (some 3) (v12.map eI)],row:=some (eI v16)}),hR 1 (eI v16)] (A4 (yba hv16).1 (yca eI (yba hv16).2) (gW 32 (eO 3 eI) hv12) (show getRow [[.sl (some 32) (v5.1.map (eO 3 eI))]] [(0,0),((Int.toNat x8.2),0),((Int.toNat x13.2),0)]=some (eI v16) from((gr0 rfl).trans ((grs (yca (eO 3 eI) (yba hv12).2) rfl).trans (gre (yca eI (yba hv16).2)))))) ?_
   refine yhc (r_gq [pB 11 v5.2,vL 12 32 (eO 3 eI) v5.1,pI 13 (w64 (x13.1+v16)),rF 44 12,pL 45 v5.1,pI 46 x8.2,(50,.ref 12 [(0,0),((Int.toNat x8.2),0)] none),pL 51 v12,pI 52 x13.2] [] trivial) ?_
   refine b_n (q_n (yhc (r_gq [pB 11 v5.2,vL 12 32 (eO 3 eI) v5.1,pI 13 (w64 (x13.1+v16)),rF 44 12,pL 45 v5.1,pI 46 x8.2,(50,.ref 12 [(0,0),((Int.toNat x8.2),0)] none),pL 51 v12,pI 52 (w64 (x13.2+1))] [] trivial) ?_))
   exact lqn ((w64 (x13.1+v16)),(w64 (x13.2+1))) h
  refine yrb (q_x (lq_x (b_x (b_n ?_))))
  have hyy:=hy_x13 _ (oi h).symm
  subst hyy
  have h:=hk_x13
  refine q_n ?_
  exact jx x13.1 h
 refine yrb (q_x (lq_x (b_x ?_)))
 have hyy:=hy_x8 _ (oi h).symm
 subst hyy
 have h:=hk_x8
 refine q_n ?_
 exact jx x8.1 h
theorem yzd1 {a0:Int}  {r:Bool} (h:yrl a0=some r):Meets Tryz.prog 109 [wI a0] { vals:=[.p (.bool r)] }:=by
 refine mo Tryz.func109 [pI 0 a0] ?_
 unfold yrl at h
 refine kG [pI 0 a0] [] trivial ?_
 obtain⟨v1,hv1,h⟩:=bs h
 refine kG [pB 2 v1] [hC 1 [.p (.bool v1)]] (A1 (yhg hv1)) ?_
 refine ypa ?_
 obtain rfl:=oi h
 exact er [(.p (.bool v1),2)]
theorem ydi1 {a0:Int}  {r:Int} (h:ycv a0=some r):Meets Tryz.prog 170 [wI a0] { vals:=[.p (iV r)] }:=by
 refine mo Tryz.func170 [pI 0 a0] ?_
 unfold ycv at h
 refine kG [pI 0 a0] [] trivial ?_
 obtain⟨v1,hv1,h⟩:=bs h
 refine kG [pI 2 v1] [hC 1 [.p (iV v1)]] (A1 (yew hv1)) ?_
 refine ypa ?_
 obtain rfl:=oi h
 exact er [(.p (iV v1),2)]
theorem yae1 {a0:(List (List Int))} {a1:Int}  {r:(List (List Int))} (h:yeo a0 a1=some r):Meets Tryz.prog 110 [.d false [.sl none (a0.map (eF eI))],wI a1] { vals:=[rO 32 (eO 3 eI) r] }:=by
 refine mo Tryz.func110 [dL 0 (eF eI) a0,pI 1 a1] ?_
 unfold yeo at h
 refine kG [dL 0 (eF eI) a0,pI 1 a1] [] trivial ?_
 refine kG [dL 0 (eF eI) a0,pI 1 a1,vN 5 32] [] trivial ?_
 refine yjb (J:=fun (x:(List (List Int)))=>[dL 0 (eF eI) a0,pI 1 a1,vL 5 32 (eO 3 eI) x]) (K:=fun x=>yap a0 a1 x=some r) (fun x1 h=>?_) ?_
 ·unfold yap at h
  refine yjb (J:=fun (x:(List (List Int)))=>[vL 5 32 (eO 3 eI) x]) (K:=fun x=>yns x=some r) (fun x2 h=>?_) ?_
  ·unfold yns at h
   refine kG [vL 4 32 (eO 3 eI) x2] [] trivial ?_
   refine ypa ?_
   obtain rfl:=oi h
   exact er [(.ov false [.sl (some 32) (x2.map (eO 3 eI))],4)]
  refine yda ?_
  obtain⟨y4,hl_x3,hk_x3⟩:=bs h
  clear h
  refine yyb (J:=fun (x:(Int×(List (List Int))))=>[dL 0 (eF eI) a0,pI 1 x.1,vL 5 32 (eO 3 eI) x.2]) hl_x3 wkk (fun x3 o_x3 h hy_x3=>?_)
  unfold yji at h
  refine yeb (kG [dL 0 (eF eI) a0,pI 1 x3.1,vL 5 32 (eO 3 eI) x3.2,pB 31 (decide (x3.1>0))] [] trivial ?_)
  refine kI h (fun hc5_4 h=>?_) (fun hc5_4 h=>?_)
  ·refine yga (q_n (yjb (J:=fun (x:(List (List Int)))=>[dL 0 (eF eI) a0,pI 1 x3.1,vL 5 32 (eO 3 eI) x]) (K:=fun x=>yvo x3 x=some o_x3) (fun x6 h=>?_) ?_))
   ·unfold yvo at h
    refine yhc (r_gq [dL 0 (eF eI) a0,pI 1 (w64 (x3.1-1)),vL 5 32 (eO 3 eI) x6] [] trivial) ?_
    exact lqn ((w64 (x3.1-1)),x6) h
   refine yda (kG [dL 0 (eF eI) a0,pI 1 x3.1,vL 5 32 (eO 3 eI) x3.2,vN 7 32] [] trivial ?_)
   refine yjb (J:=fun (x:(List (List Int)))=>[dL 0 (eF eI) a0,pI 1 x3.1,vL 7 32 (eO 3 eI) x]) (K:=fun x=>ywo x3 x=some o_x3) (fun x7 h=>?_) ?_
   ·unfold ywo at h
    refine yhc (r_gq [dL 0 (eF eI) a0,pI 1 x3.1,vL 5 32 (eO 3 eI) x7] [] trivial) ?_
    refine b_n (q_n ?_)
    exact jx x7 h
   refine kG [dL 0 (eF eI) a0,pI 1 x3.1,vL 5 32 (eO 3 eI) x3.2,vN 7 32,pL 35 a0,pI 36 0] [hN 1 a0] (A1 (lF (eF eI) a0)) ?_
   refine yda ?_
   obtain⟨y9,hl_x8,hk_x8⟩:=bs h
   clear h
   refine yyb (J:=fun (x:((List (List Int))×Int))=>[dL 0 (eF eI) a0,pI 1 x3.1,vL 5 32 (eO 3 eI) x3.2,vL 7 32 (eO 3 eI) x.1,pL 35 a0,pI 36 x.2]) hl_x8 wkk (fun x8 o_x8 h hy_x8=>?_)
   unfold yii at h
   refine kG [dL 0 (eF eI) a0,pI 1 x3.1,vL 5 32 (eO 3 eI) x3.2,vL 7 32 (eO 3 eI) x8.1,pL 35 a0,pI 36 x8.2,pB 37 (decide (x8.2<(a0.length:Int)))] [] trivial ?_
   refine yeb (kI h (fun hc10_9 h=>?_) (fun hc10_9 h=>?_))
   ·refine yga (q_n (yjb (J:=fun (x:(List (List Int)))=>[dL 0 (eF eI) a0,pI 1 x3.1,vL 5 32 (eO 3 eI) x3.2,vL 7 32 (eO 3 eI) x,pL 35 a0,pI 36 x8.2]) (K:=fun x=>yxo x8 x=some o_x8) (fun x11 h=>?_) ?_))
    ·unfold yxo at h
     refine yhc (r_gq [dL 0 (eF eI) a0,pI 1 x3.1,vL 5 32 (eO 3 eI) x3.2,vL 7 32 (eO 3 eI) x11,pL 35 a0,pI 36 (w64 (x8.2+1))] [] trivial) ?_
     exact lqn (x11,(w64 (x8.2+1))) h
    refine yda (kG [dL 0 (eF eI) a0,pI 1 x3.1,vL 5 32 (eO 3 eI) x3.2,vL 7 32 (eO 3 eI) x8.1,pI 8 x8.2,pL 35 a0,pI 36 x8.2] [] trivial ?_)
    obtain⟨u12,hu12,h⟩:=bs h
    refine kG [dL 0 (eF eI) a0,pI 1 x3.1,vL 5 32 (eO 3 eI) x3.2,vL 7 32 (eO 3 eI) x8.1,pI 8 x8.2,vL 9 3 eI (List.replicate (Int.toNat (a0.length:Int)) (0:Int)),pL 35 a0,pI 36 x8.2] [hN 1 a0,(2,{fix:=some (vL 41 3 eI (List.replicate (Int.toNat (a0.length:Int)) (0:Int)))})] (A5 (lF (eF eI) a0) (show(a0.length:Int)=(a0.length:Int) from rfl) (ysa hu12).1 (ysa hu12).2 (show(SV.ov false [.sl (some 3) (List.replicate (Int.toNat (a0.length:Int)) [rI 0])]:SV)=.ov false [.sl (some 3) ((List.replicate (Int.toNat (a0.length:Int)) (0:Int)).map eI)] from(congrArg (fun z=>SV.ov false [.sl (some 3) z]) (yth1 eI (0:Int))))) ?_
    refine yjb (J:=fun (x:(List Int))=>[dL 0 (eF eI) a0,pI 1 x3.1,vL 5 32 (eO 3 eI) x3.2,vL 7 32 (eO 3 eI) x8.1,vL 9 3 eI x,pL 35 a0,pI 36 x8.2]) (K:=fun x=>yyo x8 x=some o_x8) (fun x13 h=>?_) ?_
    ·unfold yyo at h
     obtain⟨u14,hu14,h⟩:=bs h
     refine yhc (r_gq [dL 0 (eF eI) a0,pI 1 x3.1,vL 5 32 (eO 3 eI) x3.2,vL 7 32 (eO 3 eI) (x8.1++[x13]),pL 35 a0,pI 36 x8.2] [(3,{fix:=some (vL 81 32 (eO 3 eI) (x8.1++[x13]))})] (A3 (lG' (eO 3 eI) hu14) (show ∀ row∈((([x13]).map (eO 3 eI)):List (List C)),row.length=1 from(yfc fun _=>rfl)) (aP' 32 (eO 3 eI) x8.1 ([x13])))) ?_
     refine b_n (q_n ?_)
     exact jx (x8.1++[x13]) h
    refine kG [dL 0 (eF eI) a0,pI 1 x3.1,vL 5 32 (eO 3 eI) x3.2,vL 7 32 (eO 3 eI) x8.1,pI 8 x8.2,vL 9 3 eI (List.replicate (Int.toNat (a0.length:Int)) (0:Int)),pL 35 a0,pI 36 x8.2,pL 43 a0,pI 44 0] [hN 1 a0] (A1 (lF (eF eI) a0)) ?_
    refine yda ?_
    obtain⟨y16,hl_x15,hk_x15⟩:=bs h
    clear h
    refine yyb (J:=fun (x:((List Int)×Int))=>[dL 0 (eF eI) a0,pI 1 x3.1,vL 5 32 (eO 3 eI) x3.2,vL 7 32 (eO 3 eI) x8.1,pI 8 x8.2,vL 9 3 eI x.1,pL 35 a0,pI 36 x8.2,pL 43 a0,pI 44 x.2]) hl_x15 wkk (fun x15 o_x15 h hy_x15=>?_)
    unfold yhi at h
    refine kG [dL 0 (eF eI) a0,pI 1 x3.1,vL 5 32 (eO 3 eI) x3.2,vL 7 32 (eO 3 eI) x8.1,pI 8 x8.2,vL 9 3 eI x15.1,pL 35 a0,pI 36 x8.2,pL 43 a0,pI 44 x15.2,pB 45 (decide (x15.2<(a0.length:Int)))] [] trivial ?_
    refine yeb (kI h (fun hc15_16 h=>?_) (fun hc15_16 h=>?_))
    ·refine yga (q_n (yjb (J:=fun (x:(List Int))=>[dL 0 (eF eI) a0,pI 1 x3.1,vL 5 32 (eO 3 eI) x3.2,vL 7 32 (eO 3 eI) x8.1,pI 8 x8.2,vL 9 3 eI x,pL 35 a0,pI 36 x8.2,pL 43 a0,pI 44 x15.2]) (K:=fun x=>yzo x15 x=some o_x15) (fun x18 h=>?_) ?_))
     ·unfold yzo at h
      refine yhc (r_gq [dL 0 (eF eI) a0,pI 1 x3.1,vL 5 32 (eO 3 eI) x3.2,vL 7 32 (eO 3 eI) x8.1,pI 8 x8.2,vL 9 3 eI x18,pL 35 a0,pI 36 x8.2,pL 43 a0,pI 44 (w64 (x15.2+1))] [] trivial) ?_
      exact lqn (x18,(w64 (x15.2+1))) h
     refine yda (kG [dL 0 (eF eI) a0,pI 1 x3.1,vL 5 32 (eO 3 eI) x3.2,vL 7 32 (eO 3 eI) x8.1,pI 8 x8.2,vL 9 3 eI x15.1,pI 10 x15.2,pL 35 a0,pI 36 x8.2,pL 43 a0,pI 44 x15.2] [] trivial ?_)
     refine kG [dL 0 (eF eI) a0,pI 1 x3.1,vL 5 32 (eO 3 eI) x3.2,vL 7 32 (eO 3 eI) x8.1,pI 8 x8.2,vL 9 3 eI x15.1,pI 10 x15.2,pL 35 a0,pI 36 x8.2,pL 43 a0,pI 44 x15.2,pL 48 a0,pI 49 0] [hN 1 a0] (A1 (lF (eF eI) a0)) ?_
     refine yda ?_
     obtain⟨y20,hl_x19,hk_x19⟩:=bs h
     clear h
     refine yyb (J:=fun (x:((List Int)×Int))=>[dL 0 (eF eI) a0,pI 1 x3.1,vL 5 32 (eO 3 eI) x3.2,vL 7 32 (eO 3 eI) x8.1,pI 8 x8.2,vL 9 3 eI x.1,pI 10 x15.2,pL 35 a0,pI 36 x8.2,pL 43 a0,pI 44 x15.2,pL 48 a0,pI 49 x.2]) hl_x19 wkk (fun x19 o_x19 h hy_x19=>?_)
     unfold ygi at h
     refine kG [dL 0 (eF eI) a0,pI 1 x3.1,vL 5 32 (eO 3 eI) x3.2,vL 7 32 (eO 3 eI) x8.1,pI 8 x8.2,vL 9 3 eI x19.1,pI 10 x15.2,pL 35 a0,pI 36 x8.2,pL 43 a0,pI 44 x15.2,pL 48 a0,pI 49 x19.2,pB 50 (decide (x19.2<(a0.length:Int)))] [] trivial ?_
     refine yeb (kI h (fun hc19_20 h=>?_) (fun hc19_20 h=>?_))
     ·refine yga (q_n (yeb (yda (kG [dL 0 (eF eI) a0,pI 1 x3.1,vL 5 32 (eO 3 eI) x3.2,vL 7 32 (eO 3 eI) x8.1,pI 8 x8.2,vL 9 3 eI x19.1,pI 10 x15.2,pI 11 x19.2,pL 35 a0,pI 36 x8.2,pL 43 a0,pI 44 x15.2,pL 48 a0,pI 49 x19.2] [] trivial ?_))))
      obtain⟨v22,hv22,h⟩:=bs h
      obtain⟨v23,hv23,h⟩:=bs h
      obtain⟨v24,hv24,h⟩:=bs h
      obtain⟨v25,hv25,h⟩:=bs h
      obtain⟨v26,hv26,h⟩:=bs h
      obtain⟨v27,hv27,h⟩:=bs h
      refine yhc (r_dq yfa 23 [] [dL 0 (eF eI) a0,pI 1 x3.1,vL 5 32 (eO 3 eI) x3.2,vL 7 32 (eO 3 eI) x8.1,pI 8 x8.2,vL 9 3 eI (x19.1.set (Int.toNat x15.2) v27),pI 10 x15.2,pL 35 a0,pI 36 x8.2,pL 43 a0,pI 44 x15.2,pL 48 a0,pI 49 x19.2] [hR 4 (eI v22),hR 5 (eI v22),hR 8 [.sl (some 3) (v23.map eI)],hR 9 [.sl (some 3) (v23.map eI)],(11,{deep:=some [.sl (some 3) (v23.map eI)],row:=some (eI v24)}),hR 12 (eI v24),hR 15 [.sl none (v25.map eI)],hR 18 (eI v26),hC 22 [.p (iV v27)],hR 23 (eI v22),(24,{row:=some (eI v22),fix:=some (vL 9 3 eI (x19.1.set (Int.toNat x15.2) v27))})] (B6 (yba hv22).1 (yca eI (yba hv22).2) (gW 3 eI hv22) (yba hv23).1 (yca (eO 3 eI) (yba hv23).2) (show frR [.sl (some 3) (v23.map eI)]=false from rfl) (B6 (gW 32 (eO 3 eI) hv23) (yba hv24).1 (yca eI (yba hv24).2) (gW 32 (eO 3 eI) hv23) (show getRow [[.sl (some 32) (x3.2.map (eO 3 eI))]] [(0,0),((Int.toNat x8.2),0),((Int.toNat x19.2),0)]=some (eI v24) from((gr0 rfl).trans ((grs (yca (eO 3 eI) (yba hv23).2) rfl).trans (gre (yca eI (yba hv24).2))))) (yba hv25).1 (B6 (yca (eF eI) (yba hv25).2) (yba hv26).1 (yca eI (yba hv26).2) (ydi1 hv27) (yba hv22).1 (yca eI (yba hv22).2) (A2 (gW 3 eI hv22) (show(SV.ov false [.sl (some 3) (setL (x19.1.map eI) [((Int.toNat x15.2),0)] (eI v27))]:SV)=.ov false [.sl (some 3) ((x19.1.set (Int.toNat x15.2) v27).map eI)] from(congrArg (fun z=>SV.ov false [.sl (some 3) z]) (set1 (f:=eI) (y:=v27) (yba hv22).2 rfl)))))))) ?_
      refine b_n (q_n (yhc (r_gq [dL 0 (eF eI) a0,pI 1 x3.1,vL 5 32 (eO 3 eI) x3.2,vL 7 32 (eO 3 eI) x8.1,pI 8 x8.2,vL 9 3 eI (x19.1.set (Int.toNat x15.2) v27),pI 10 x15.2,pL 35 a0,pI 36 x8.2,pL 43 a0,pI 44 x15.2,pL 48 a0,pI 49 (w64 (x19.2+1))] [] trivial) ?_))
      exact lqn ((x19.1.set (Int.toNat x15.2) v27),(w64 (x19.2+1))) h
     refine yrb (q_x (lq_x (b_x (b_n ?_))))
     have hyy:=hy_x19 _ (oi h).symm
     subst hyy
     have h:=hk_x19
     refine q_n ?_
     exact jx x19.1 h
    refine yrb (q_x (lq_x (b_x ?_)))
    have hyy:=hy_x15 _ (oi h).symm
    subst hyy
    have h:=hk_x15
    refine q_n ?_
    exact jx x15.1 h
   refine yrb (q_x (lq_x (b_x ?_)))
   have hyy:=hy_x8 _ (oi h).symm
   subst hyy
   have h:=hk_x8
   refine q_n ?_
   exact jx x8.1 h
  refine yrb (q_x (lq_x (b_x ?_)))
  have hyy:=hy_x3 _ (oi h).symm
  subst hyy
  have h:=hk_x3
  refine q_n ?_
  exact jx x3.2 h
 refine kG [dL 0 (eF eI) a0,pI 1 a1,vN 5 32,pL 13 a0,pI 14 0] [hN 1 a0] (A1 (lF (eF eI) a0)) ?_
 refine yda ?_
 obtain⟨y29,hl_x28,hk_x28⟩:=bs h
 clear h
 refine yyb (J:=fun (x:((List (List Int))×Int))=>[dL 0 (eF eI) a0,pI 1 a1,vL 5 32 (eO 3 eI) x.1,pL 13 a0,pI 14 x.2]) hl_x28 wkk (fun x28 o_x28 h hy_x28=>?_)
 unfold ysk at h
 refine kG [dL 0 (eF eI) a0,pI 1 a1,vL 5 32 (eO 3 eI) x28.1,pL 13 a0,pI 14 x28.2,pB 15 (decide (x28.2<(a0.length:Int)))] [] trivial ?_
 refine yeb (kI h (fun hc5_29 h=>?_) (fun hc5_29 h=>?_))
 ·refine yga (q_n (yeb (yda (kG [dL 0 (eF eI) a0,pI 1 a1,vL 5 32 (eO 3 eI) x28.1,pI 6 x28.2,pL 13 a0,pI 14 x28.2] [] trivial ?_))))
  obtain⟨u31,hu31,h⟩:=bs h
  obtain⟨u32,hu32,h⟩:=bs h
  refine kG [dL 0 (eF eI) a0,pI 1 a1,vL 5 32 (eO 3 eI) (x28.1++[(List.replicate (Int.toNat (a0.length:Int)) (0:Int))]),pI 6 x28.2,pL 13 a0,pI 14 x28.2] [hN 2 a0,(3,{fix:=some (vL 20 3 eI (List.replicate (Int.toNat (a0.length:Int)) (0:Int)))}),(5,{fix:=some (vL 22 32 (eO 3 eI) (x28.1++[(List.replicate (Int.toNat (a0.length:Int)) (0:Int))]))})] (B6 (lF (eF eI) a0) (show(a0.length:Int)=(a0.length:Int) from rfl) (ysa hu31).1 (ysa hu31).2 (show(SV.ov false [.sl (some 3) (List.replicate (Int.toNat (a0.length:Int)) [rI 0])]:SV)=.ov false [.sl (some 3) ((List.replicate (Int.toNat (a0.length:Int)) (0:Int)).map eI)] from(congrArg (fun z=>SV.ov false [.sl (some 3) z]) (yth1 eI (0:Int)))) (lG' (eO 3 eI) hu32) (A2 (show ∀ row∈((([(List.replicate (Int.toNat (a0.length:Int)) (0:Int))]).map (eO 3 eI)):List (List C)),row.length=1 from(yfc fun _=>rfl)) (aP' 32 (eO 3 eI) x28.1 ([(List.replicate (Int.toNat (a0.length:Int)) (0:Int))])))) ?_
  obtain⟨v33,hv33,h⟩:=bs h
  obtain⟨v34,hv34,h⟩:=bs h
  refine yhc (r_gq [dL 0 (eF eI) a0,pI 1 a1,vL 5 32 (eO 3 eI) ((x28.1++[(List.replicate (Int.toNat (a0.length:Int)) (0:Int))]).set (Int.toNat x28.2) (v33.set (Int.toNat x28.2) 1)),pL 13 a0,pI 14 x28.2] [hR 2 [.sl (some 3) (v33.map eI)],hR 3 [.sl (some 3) (v33.map eI)],(5,{deep:=some [.sl (some 3) (v33.map eI)],row:=some (eI v34)}),(6,{row:=some (eI v34),fix:=some (vL 5 32 (eO 3 eI) ((x28.1++[(List.replicate (Int.toNat (a0.length:Int)) (0:Int))]).set (Int.toNat x28.2) (v33.set (Int.toNat x28.2) 1)))})] (B6 (yba hv33).1 (yca (eO 3 eI) (yba hv33).2) (show frR [.sl (some 3) (v33.map eI)]=false from rfl) (gW 32 (eO 3 eI) hv33) (yba hv34).1 (yca eI (yba hv34).2) (A3 (gW 32 (eO 3 eI) hv33) (show getRow [[.sl (some 32) ((x28.1++[(List.replicate (Int.toNat (a0.length:Int)) (0:Int))]).map (eO 3 eI))]] [(0,0),((Int.toNat x28.2),0),((Int.toNat x28.2),0)]=some (eI v34) from((gr0 rfl).trans ((grs (yca (eO 3 eI) (yba hv33).2) rfl).trans (gre (yca eI (yba hv34).2))))) (show(SV.ov false [.sl (some 32) (setL ((x28.1++[(List.replicate (Int.toNat (a0.length:Int)) (0:Int))]).map (eO 3 eI)) [((Int.toNat x28.2),0),((Int.toNat x28.2),0)] [rI 1])]:SV)=.ov false [.sl (some 32) (((x28.1++[(List.replicate (Int.toNat (a0.length:Int)) (0:Int))]).set (Int.toNat x28.2) (v33.set (Int.toNat x28.2) 1)).map (eO 3 eI))] from(congrArg (fun z=>SV.ov false [.sl (some 32) z]) (set2 (f:=(eO 3 eI)) (y:=(v33.set (Int.toNat x28.2) 1)) (yba hv33).2 rfl (set1 (f:=eI) (y:=1) (yba hv34).2 rfl) rfl)))))) ?_
  refine b_n (q_n (yhc (r_gq [dL 0 (eF eI) a0,pI 1 a1,vL 5 32 (eO 3 eI) ((x28.1++[(List.replicate (Int.toNat (a0.length:Int)) (0:Int))]).set (Int.toNat x28.2) (v33.set (Int.toNat x28.2) 1)),pL 13 a0,pI 14 (w64 (x28.2+1))] [] trivial) ?_))
  exact lqn (((x28.1++[(List.replicate (Int.toNat (a0.length:Int)) (0:Int))]).set (Int.toNat x28.2) (v33.set (Int.toNat x28.2) 1)),(w64 (x28.2+1))) h
 refine yrb (q_x (lq_x (b_x ?_)))
 have hyy:=hy_x28 _ (oi h).symm
 subst hyy
 have h:=hk_x28
 refine q_n ?_
 exact jx x28.1 h
theorem ysz {a0:(List Qp)} {a1:(List Qr)} {a2:Int}  {r:(Int×Bool)} (h:ybl a0 a1 a2=some r):Meets Tryz.prog 46 [.d false (sP a0),.d false [.sl none (a1.map eRt)],wI a2] { vals:=[.p (iV r.1),.p (.bool r.2)] }:=by
 refine mo Tryz.func46 [dP 0 a0,dL 1 eRt a1,pI 2 a2] ?_
 unfold ybl at h
 refine kG [dP 0 a0,dL 1 eRt a1,pI 2 a2] [] trivial ?_
 refine yeb ?_
 obtain⟨v1,hv1,h⟩:=bs h
 obtain⟨w3,hw3,h⟩:=bs h
 refine ynb (l1:=[dP 0 a0,dL 1 eRt a1,pI 2 a2,pB 25 w3]) ?_ ?_
 ·clear h
  rcases ft (!v1) with ha0 | ha0
  ·replace hw3:=yjh ha0 hw3
   have hw3:=oi hw3
   subst hw3
   exact(r_gq [dP 0 a0,dL 1 eRt a1,pI 2 a2,pB 25 true] [hC 2 [.p (.bool v1)],(5,gT),(6,gT),(7,gT),(8,bT)] (A5 (yjg hv1) ha0 ha0 ha0 ha0))
  obtain⟨v2,hv2,hw3⟩:=bs (ykh ha0 hw3)
  have hw3:=oi hw3
  subst hw3
  exact(r_gq [dP 0 a0,dL 1 eRt a1,pI 2 a2,pB 25 (!v2)] [hC 2 [.p (.bool v1)],(5,gF),(6,(gN [.p (.bool v2)])),(7,gF),(8,bF)] (A6 (yjg hv1) ha0 ha0 (yzd1 hv2) ha0 ha0))
 refine kI h (fun hc2_3 h=>?_) (fun hc2_3 h=>?_)
 ·refine kG [pI 6 0,pB 7 false] [] trivial ?_
  refine ypa (q_r ?_)
  obtain rfl:=oi h
  exact er [(.p (iV 0),6),(.p (.bool false),7)]
 refine yga (q_n (yeb ?_))
 obtain⟨v5,hv5,h⟩:=bs h
 refine kG [dP 0 a0,dL 1 eRt a1,pI 2 a2,pB 8 v5.1,pB 9 v5.2] [hC 2 [.p (.bool v5.1),.p (.bool v5.2)]] (A1 (yku hv5)) ?_
 refine ynb (l1:=[dP 0 a0,dL 1 eRt a1,pI 2 a2,pB 37 ((!v5.1)||(!v5.2))]) ?_ ?_
 ·rcases ft (!v5.1) with ha1 | ha1
  ·exact RegOk.of_eq (r_gq [dP 0 a0,dL 1 eRt a1,pI 2 a2,pB 37 true] [(3,gT),(4,gT),(5,bT)] (A3 ha1 ha1 ha1)) (by simp[ha1])
  exact RegOk.of_eq (r_gq [dP 0 a0,dL 1 eRt a1,pI 2 a2,pB 37 (!v5.2)] [(3,gF),(4,gF),(5,bF)] (A3 ha1 ha1 ha1)) (by simp[ha1])
 refine kI h (fun hc2_5 h=>?_) (fun hc2_5 h=>?_)
 ·refine kG [pI 6 0,pB 7 false] [] trivial ?_
  refine ypa (q_r ?_)
  obtain rfl:=oi h
  exact er [(.p (iV 0),6),(.p (.bool false),7)]
 refine yga (q_n ?_)
 obtain⟨v7,hv7,h⟩:=bs h
 refine kG [pI 2 a2,vL 10 32 (eO 3 eI) v7.1] [hC 2 [rO 32 (eO 3 eI) v7.1,.p (.bool v7.2)]] (A2 (yfw hv7) (show List.all [rO 32 (eO 3 eI) v7.1,.p (.bool v7.2)] simpleR=true from(sa_o (wnR1 (yvc (wn_O wn_I)) rfl) (sa_p rfl)))) ?_
 refine kG [pI 2 a2,vL 10 32 (eO 3 eI) v7.1,pI 12 0] [] trivial ?_
 refine yjb (J:=fun (x:Int)=>[pI 12 x]) (K:=fun x=>yjk x=some r) (fun x8 h=>?_) ?_
 ·unfold yjk at h
  refine yeb (kG [pI 12 x8,pB 66 (decide (x8>1000000000))] [] trivial ?_)
  refine kI h (fun hc2_8 h=>?_) (fun hc2_8 h=>?_)
  ·refine kG [pI 6 0,pB 7 false] [] trivial ?_
   refine ypa (q_r ?_)
   obtain rfl:=oi h
   exact er [(.p (iV 0),6),(.p (.bool false),7)]
  refine yga (q_n (kG [pI 6 x8,pB 7 true] [] trivial ?_))
  refine ypa ?_
  obtain rfl:=oi h
  exact er [(.p (iV x8),6),(.p (.bool true),7)]
 obtain⟨v10,hv10,h⟩:=bs h
 refine kG [pI 12 0,vL 46 32 (eO 3 eI) v10,pL 47 v10,pI 48 0] [(2,(cS [.d false [.sl none (v7.1.map (eF eI))],wI a2] [rO 32 (eO 3 eI) v10])),hN 3 v10] (A4 (show([.d false [.sl none (eraL (v7.1.map (eO 3 eI)))],wI a2]:List Arg)=[.d false [.sl none (v7.1.map (eF eI))],wI a2] from(by simp only[yka (h:=(eF eI)) (yxr1 er_I)])) (yae1 hv10) (show List.all [rO 32 (eO 3 eI) v10] simpleR=true from(sa_o (wnR1 (yvc (wn_O wn_I)) rfl) rfl)) (lF (eO 3 eI) v10)) ?_
 refine yda ?_
 obtain⟨y12,hl_x11,hk_x11⟩:=bs h
 clear h
 refine yyb (J:=fun (x:Qr)=>[pI 12 x.1,vL 46 32 (eO 3 eI) v10,pL 47 v10,pI 48 x.2]) hl_x11 wkk (fun x11 o_x11 h hy_x11=>?_)
 unfold ytd at h
 refine kG [pI 12 x11.1,vL 46 32 (eO 3 eI) v10,pL 47 v10,pI 48 x11.2,pB 49 (decide (x11.2<(v10.length:Int)))] [] trivial ?_
 refine yeb (kI h (fun hc5_12 h=>?_) (fun hc5_12 h=>?_))
 ·refine yga (q_n (yjb (J:=fun (x:Int)=>[pI 12 x,vL 46 32 (eO 3 eI) v10,pL 47 v10,pI 48 x11.2]) (K:=fun x=>yro x11 x=some o_x11) (fun x14 h=>?_) ?_))
  ·unfold yro at h
   refine yhc (r_gq [pI 12 x14,vL 46 32 (eO 3 eI) v10,pL 47 v10,pI 48 (w64 (x11.2+1))] [] trivial) ?_
   exact lqn (x14,(w64 (x11.2+1))) h
  refine yda ?_
  obtain⟨v15,hv15,h⟩:=bs h
  refine kG [pI 12 x11.1,(14,.ref 46 [(0,0),((Int.toNat x11.2),0)] none),vL 46 32 (eO 3 eI) v10,pL 47 v10,pI 48 x11.2] [hR 0 [.sl (some 3) (v15.map eI)],hR 1 [.sl (some 3) (v15.map eI)]] (A4 (yba hv15).1 (yca (eO 3 eI) (yba hv15).2) (show frR [.sl (some 3) (v15.map eI)]=false from rfl) (gW 32 (eO 3 eI) hv15)) ?_
  refine kG [pI 12 x11.1,vL 46 32 (eO 3 eI) v10,pL 47 v10,pI 48 x11.2,(52,.ref 46 [(0,0),((Int.toNat x11.2),0)] none),pL 53 v15,pI 54 0] [(1,{deep:=some [.sl (some 3) (v15.map eI)],n:=some v15.length})] (A2 (lF eI v15) (gW 32 (eO 3 eI) hv15)) ?_
  refine yda ?_
  obtain⟨y17,hl_x16,hk_x16⟩:=bs h
  clear h
  refine yyb (J:=fun (x:Qr)=>[pI 12 x.1,vL 46 32 (eO 3 eI) v10,pL 47 v10,pI 48 x11.2,(52,.ref 46 [(0,0),((Int.toNat x11.2),0)] none),pL 53 v15,pI 54 x.2]) hl_x16 wkk (fun x16 o_x16 h hy_x16=>?_)
  unfold ysd at h
  refine kG [pI 12 x16.1,vL 46 32 (eO 3 eI) v10,pL 47 v10,pI 48 x11.2,(52,.ref 46 [(0,0),((Int.toNat x11.2),0)] none),pL 53 v15,pI 54 x16.2,pB 55 (decide (x16.2<(v15.length:Int)))] [] trivial ?_
  refine yeb (kI h (fun hc9_17 h=>?_) (fun hc9_17 h=>?_))
  ·refine yga (q_n (yeb (yda ?_)))
   obtain⟨v19,hv19,h⟩:=bs h
   refine kG [pI 12 x16.1,pI 16 v19,vL 46 32 (eO 3 eI) v10,pL 47 v10,pI 48 x11.2,(52,.ref 46 [(0,0),((Int.toNat x11.2),0)] none),pL 53 v15,pI 54 x16.2] [(0,{deep:=some [.sl (some 3) (v15.map eI)],row:=some (eI v19)}),hR 1 (eI v19)] (A4 (yba hv19).1 (yca eI (yba hv19).2) (gW 32 (eO 3 eI) hv15) (show getRow [[.sl (some 32) (v10.map (eO 3 eI))]] [(0,0),((Int.toNat x11.2),0),((Int.toNat x16.2),0)]=some (eI v19) from((gr0 rfl).trans ((grs (yca (eO 3 eI) (yba hv15).2) rfl).trans (gre (yca eI (yba hv19).2)))))) ?_
   refine yeb (kG [pI 12 x16.1,pI 16 v19,vL 46 32 (eO 3 eI) v10,pL 47 v10,pI 48 x11.2,(52,.ref 46 [(0,0),((Int.toNat x11.2),0)] none),pL 53 v15,pI 54 x16.2,pB 59 (decide (v19>1000000000))] [] trivial ?_)
   refine kI h (fun hc11_19 h=>?_) (fun hc11_19 h=>?_)
   ·refine kG [pI 6 0,pB 7 false] [] trivial ?_
    refine ypa (q_r (b_r (q_r (lq_r ?_))))
    refine b_r (b_r (q_r (lq_r ?_)))
    refine b_r (q_r ?_)
    have hyy:=hy_x16 _ (oi h).symm
    subst hyy
    have h:=hk_x16
    dsimp only[Sum.elim] at h
    have hyy:=hy_x11 _ (oi h).symm
    subst hyy
    have h:=hk_x11
    dsimp only[Sum.elim] at h
    obtain rfl:=oi h
    exact er [(.p (iV 0),6),(.p (.bool false),7)]
   refine yga (q_n (yhc (r_gq [pI 12 (w64 (x16.1+v19)),vL 46 32 (eO 3 eI) v10,pL 47 v10,pI 48 x11.2,(52,.ref 46 [(0,0),((Int.toNat x11.2),0)] none),pL 53 v15,pI 54 x16.2] [] trivial) ?_))
   refine b_n (q_n (yhc (r_gq [pI 12 (w64 (x16.1+v19)),vL 46 32 (eO 3 eI) v10,pL 47 v10,pI 48 x11.2,(52,.ref 46 [(0,0),((Int.toNat x11.2),0)] none),pL 53 v15,pI 54 (w64 (x16.2+1))] [] trivial) ?_))
   exact lqn ((w64 (x16.1+v19)),(w64 (x16.2+1))) h
  refine yrb (q_x (lq_x (b_x (b_n ?_))))
  have hyy:=hy_x16 _ (oi h).symm
  subst hyy
  have h:=hk_x16
  dsimp only[Sum.elim] at h
  refine q_n ?_
  exact jx x16.1 h
 refine yrb (q_x (lq_x (b_x ?_)))
 have hyy:=hy_x11 _ (oi h).symm
 subst hyy
 have h:=hk_x11
 dsimp only[Sum.elim] at h
 refine q_n ?_
 exact jx x11.1 h
theorem ytz {a0:(List (List Int))} {a1:Int}  {r:(Int×Bool)} (h:yki a0 a1=some r):Meets Tryz.prog 47 [.d false [.sl none (a0.map (eF eI))],wI a1] { vals:=[.p (iV r.1),.p (.bool r.2)] }:=by
 refine mo Tryz.func47 [dL 0 (eF eI) a0,pI 1 a1] ?_
 unfold yki at h
 refine kG [dL 0 (eF eI) a0,pI 1 a1] [] trivial ?_
 refine yeb ?_
 obtain⟨v1,hv1,h⟩:=bs h
 refine kG [dL 0 (eF eI) a0,pI 1 a1,pB 14 (!v1)] [hC 2 [.p (.bool v1)]] (A1 (yyx hv1)) ?_
 refine kI h (fun hc2_1 h=>?_) (fun hc2_1 h=>?_)
 ·refine kG [pI 4 0,pB 5 false] [] trivial ?_
  refine ypa (q_r ?_)
  obtain rfl:=oi h
  exact er [(.p (iV 0),4),(.p (.bool false),5)]
 refine yga (q_n (kG [dL 0 (eF eI) a0,pI 1 a1,pI 6 0] [] trivial ?_))
 refine yjb (J:=fun (x:Int)=>[pI 6 x]) (K:=fun x=>yak x=some r) (fun x3 h=>?_) ?_
 ·unfold yak at h
  refine yeb (kG [pI 6 x3,pB 35 (decide (x3>1000000000))] [] trivial ?_)
  refine kI h (fun hc2_3 h=>?_) (fun hc2_3 h=>?_)
  ·refine kG [pI 4 0,pB 5 false] [] trivial ?_
   refine ypa (q_r ?_)
   obtain rfl:=oi h
   exact er [(.p (iV 0),4),(.p (.bool false),5)]
  refine yga (q_n (kG [pI 4 x3,pB 5 true] [] trivial ?_))
  refine ypa ?_
  obtain rfl:=oi h
  exact er [(.p (iV x3),4),(.p (.bool true),5)]
 obtain⟨v5,hv5,h⟩:=bs h
 refine kG [pI 6 0,vL 17 32 (eO 3 eI) v5,pL 18 v5,pI 19 0] [hC 2 [rO 32 (eO 3 eI) v5],hN 3 v5] (A3 (ypa1 hv5) (show List.all [rO 32 (eO 3 eI) v5] simpleR=true from(sa_o (wnR1 (yvc (wn_O wn_I)) rfl) rfl)) (lF (eO 3 eI) v5)) ?_
 refine yda ?_
 obtain⟨y7,hl_x6,hk_x6⟩:=bs h
 clear h
 refine yyb (J:=fun (x:Qr)=>[pI 6 x.1,vL 17 32 (eO 3 eI) v5,pL 18 v5,pI 19 x.2]) hl_x6 wkk (fun x6 o_x6 h hy_x6=>?_)
 unfold yke at h
 refine kG [pI 6 x6.1,vL 17 32 (eO 3 eI) v5,pL 18 v5,pI 19 x6.2,pB 20 (decide (x6.2<(v5.length:Int)))] [] trivial ?_
 refine yeb (kI h (fun hc5_7 h=>?_) (fun hc5_7 h=>?_))
 ·refine yga (q_n (yjb (J:=fun (x:Int)=>[pI 6 x,vL 17 32 (eO 3 eI) v5,pL 18 v5,pI 19 x6.2]) (K:=fun x=>ybk x6 x=some o_x6) (fun x9 h=>?_) ?_))
  ·unfold ybk at h
   refine yhc (r_gq [pI 6 x9,vL 17 32 (eO 3 eI) v5,pL 18 v5,pI 19 (w64 (x6.2+1))] [] trivial) ?_
   exact lqn (x9,(w64 (x6.2+1))) h
  refine yda ?_
  obtain⟨v10,hv10,h⟩:=bs h
  refine kG [pI 6 x6.1,(8,.ref 17 [(0,0),((Int.toNat x6.2),0)] none),vL 17 32 (eO 3 eI) v5,pL 18 v5,pI 19 x6.2] [hR 0 [.sl (some 3) (v10.map eI)],hR 1 [.sl (some 3) (v10.map eI)]] (A4 (yba hv10).1 (yca (eO 3 eI) (yba hv10).2) (show frR [.sl (some 3) (v10.map eI)]=false from rfl) (gW 32 (eO 3 eI) hv10)) ?_
  refine kG [pI 6 x6.1,vL 17 32 (eO 3 eI) v5,pL 18 v5,pI 19 x6.2,(23,.ref 17 [(0,0),((Int.toNat x6.2),0)] none),pL 24 v10,pI 25 0] [(1,{deep:=some [.sl (some 3) (v10.map eI)],n:=some v10.length})] (A2 (lF eI v10) (gW 32 (eO 3 eI) hv10)) ?_
  refine yda ?_
  obtain⟨y12,hl_x11,hk_x11⟩:=bs h
  clear h
  refine yyb (J:=fun (x:Qr)=>[pI 6 x.1,vL 17 32 (eO 3 eI) v5,pL 18 v5,pI 19 x6.2,(23,.ref 17 [(0,0),((Int.toNat x6.2),0)] none),pL 24 v10,pI 25 x.2]) hl_x11 wkk (fun x11 o_x11 h hy_x11=>?_)
  unfold yje at h
  refine kG [pI 6 x11.1,vL 17 32 (eO 3 eI) v5,pL 18 v5,pI 19 x6.2,(23,.ref 17 [(0,0),((Int.toNat x6.2),0)] none),pL 24 v10,pI 25 x11.2,pB 26 (decide (x11.2<(v10.length:Int)))] [] trivial ?_
  refine yeb (kI h (fun hc9_12 h=>?_) (fun hc9_12 h=>?_))
  ·refine yga (q_n (yeb (yda ?_)))
   obtain⟨v14,hv14,h⟩:=bs h
   refine kG [pI 6 x11.1,pI 10 v14,vL 17 32 (eO 3 eI) v5,pL 18 v5,pI 19 x6.2,(23,.ref 17 [(0,0),((Int.toNat x6.2),0)] none),pL 24 v10,pI 25 x11.2] [(0,{deep:=some [.sl (some 3) (v10.map eI)],row:=some (eI v14)}),hR 1 (eI v14)] (A4 (yba hv14).1 (yca eI (yba hv14).2) (gW 32 (eO 3 eI) hv10) (show getRow [[.sl (some 32) (v5.map (eO 3 eI))]] [(0,0),((Int.toNat x6.2),0),((Int.toNat x11.2),0)]=some (eI v14) from((gr0 rfl).trans ((grs (yca (eO 3 eI) (yba hv10).2) rfl).trans (gre (yca eI (yba hv14).2)))))) ?_
   refine yhc (r_gq [pI 6 (w64 (x11.1+v14)),vL 17 32 (eO 3 eI) v5,pL 18 v5,pI 19 x6.2,(23,.ref 17 [(0,0),((Int.toNat x6.2),0)] none),pL 24 v10,pI 25 x11.2] [] trivial) ?_
   refine b_n (q_n (yhc (r_gq [pI 6 (w64 (x11.1+v14)),vL 17 32 (eO 3 eI) v5,pL 18 v5,pI 19 x6.2,(23,.ref 17 [(0,0),((Int.toNat x6.2),0)] none),pL 24 v10,pI 25 (w64 (x11.2+1))] [] trivial) ?_))
   exact lqn ((w64 (x11.1+v14)),(w64 (x11.2+1))) h
  refine yrb (q_x (lq_x (b_x (b_n ?_))))
  have hyy:=hy_x11 _ (oi h).symm
  subst hyy
  have h:=hk_x11
  refine q_n ?_
  exact jx x11.1 h
 refine yrb (q_x (lq_x (b_x ?_)))
 have hyy:=hy_x6 _ (oi h).symm
 subst hyy
 have h:=hk_x6
 refine q_n ?_
 exact jx x6.1 h
end Go.PV

/-
  Walks through the functions that the law reaches: each answers as its plain definition does.
  Conditions: none.
-/
import Derived.KernelRfl
import Derived.Test.YtigabkbbbpokbaaGreatWMarkovPartA
import Derived.Test.YtigabkbbbpokbaaGreatProg
import Derived.Test.YtigabkbbbpokbaaGreatSrtYtigabkbbbpokbaaGreat
import Derived.Test.YtigabkbbbpokbaaGreatGrwYtigabkbbbpokbaaGreat
import Derived.Test.YtigabkbbbpokbaaGreatPvCx
open Go Go.PV Go.Proofs
set_option linter.all false
namespace Go.PV
attribute [local irreducible] pvC pvL pvD sOp seqQ blockQ Meets MeetsB Ok OkL RegOk agree endQ seqL blockL loopQ endL endLB OkV Takes
theorem yoh {a0:(List Qp)}  {r:Bool} (h:yle a0=some r):Meets Tryz.prog 74 [.d false (sP a0)] { vals:=[.p (.bool r)] }:=by
 refine mo Tryz.func74 [dP 0 a0] ?_
 unfold yle at h
 refine kG [dP 0 a0] [] trivial ?_
 refine yeb ?_
 obtain⟨v1,hv1,h⟩:=bs h
 refine kG [dP 0 a0,pB 8 (!v1)] [hN 1 a0,hC 2 [.p (.bool v1)]] (A2 (lnP a0) (yhg hv1)) ?_
 refine kI h (fun hc2_1 h=>?_) (fun hc2_1 h=>?_)
 ·refine kG [pB 2 false] [] trivial ?_
  refine ypa (q_r ?_)
  obtain rfl:=oi h
  exact er [(.p (.bool false),2)]
 refine yga (q_n (yjb (J:=fun (x:Unit)=>[dP 0 a0]) (K:=fun x=>ycq a0 x=some r) (fun x3 h=>?_) ?_))
 ·unfold ycq at h
  obtain⟨v4,hv4,h⟩:=bs h
  obtain⟨v5,hv5,h⟩:=bs h
  obtain⟨v6,hv6,h⟩:=bs h
  obtain⟨w10,hw10,h⟩:=bs h
  refine ynb (l1:=[pB 2 w10]) ?_ ?_
  ·clear h
   rcases ft (v6==0) with ha1 | ha1
   ·obtain⟨v7,hv7,hw10⟩:=bs (yjh ha1 hw10)
    obtain⟨v8,hv8,hw10⟩:=bs hw10
    obtain⟨v9,hv9,hw10⟩:=bs hw10
    have hw10:=oi hw10
    subst hw10
    exact(r_dq yfa 16 [] [pB 2 (v9==0)] [hR 1 (ePt v4),hC 4 [.p (vRt v5)],hC 5 [.p (iV v6)],(8,gT),(9,gT),(10,{g:=some true,n:=some a0.length}),(11,gT),(12,{g:=some true,row:=some (ePt v7)}),(13,gT),(14,gT),(15,{g:=some true,call:=some (none,[.p (vRt v8)],true)}),(16,{g:=some true,call:=some (none,[.p (iV v9)],true)}),(17,gT),(18,bT)] (B6 (yba hv4).1 (yca ePt (yba hv4).2) (yhb hv5) (yde hv6) ha1 ha1 (B6 ha1 (lnP a0) ha1 ha1 (yba hv7).1 (yca ePt (yba hv7).2) (B6 ha1 ha1 ha1 (yhb hv8) ha1 (yde hv9) (A2 ha1 ha1)))))
   replace hw10:=ykh ha1 hw10
   have hw10:=oi hw10
   subst hw10
   exact(r_dq yfa 16 [] [pB 2 false] [hR 1 (ePt v4),hC 4 [.p (vRt v5)],hC 5 [.p (iV v6)],(8,gF),(9,gF),(10,gF),(11,gF),(12,gF),(13,gF),(14,gF),(15,gF),(16,gF),(17,gF),(18,bF)] (B6 (yba hv4).1 (yca ePt (yba hv4).2) (yhb hv5) (yde hv6) ha1 ha1 (B6 ha1 ha1 ha1 ha1 ha1 ha1 (A3 ha1 ha1 ha1))))
  refine ypa ?_
  obtain rfl:=oi h
  exact er [(.p (.bool w10),2)]
 refine kG [dP 0 a0,dP 9 a0,pL 10 a0,pI 11 0] [hN 1 a0] (A1 (lnP a0)) ?_
 refine yda ?_
 obtain⟨y12,hl_x11,hk_x11⟩:=bs h
 clear h
 refine yyb (J:=fun (x:Int)=>[dP 0 a0,dP 9 a0,pL 10 a0,pI 11 x]) hl_x11 wkk (fun x11 o_x11 h hy_x11=>?_)
 unfold ybn at h
 refine kG [dP 0 a0,dP 9 a0,pL 10 a0,pI 11 x11,pB 12 (decide (x11<(a0.length:Int)))] [] trivial ?_
 refine yeb (kI h (fun hc5_12 h=>?_) (fun hc5_12 h=>?_))
 ·refine yga (q_n (yeb (yda ?_)))
  obtain⟨v14,hv14,h⟩:=bs h
  refine kG [dP 0 a0,pI 3 x11,bP 4 v14,dP 9 a0,pL 10 a0,pI 11 x11] [hR 1 (ePt v14)] (A2 (yba hv14).1 (yca ePt (yba hv14).2)) ?_
  obtain⟨v15,hv15,h⟩:=bs h
  obtain⟨w19,hw19,h⟩:=bs h
  refine ynb (l1:=[dP 0 a0,dP 9 a0,pL 10 a0,pI 11 x11,pB 41 w19]) ?_ ?_
  ·clear h
   rcases ft (!v15) with ha2 | ha2
   ·replace hw19:=yjh ha2 hw19
    have hw19:=oi hw19
    subst hw19
    exact(r_dq yfa 22 [] [dP 0 a0,dP 9 a0,pL 10 a0,pI 11 x11,pB 41 true] [hC 2 [.p (.bool v15)],(5,gT),(6,gT),(7,gT),(8,gT),(9,bT),(11,gT),(12,gT),(13,gT),(24,gT),(25,bT)] (B6 (yig hv15) ha2 ha2 ha2 ha2 ha2 (A5 tT tT tT tT tT)))
   obtain⟨v16,hv16,hw19⟩:=bs (ykh ha2 hw19)
   rcases ft (!v16) with ha3 | ha3
   ·replace hw19:=yjh ha3 hw19
    have hw19:=oi hw19
    subst hw19
    exact(r_dq yfa 22 [] [dP 0 a0,dP 9 a0,pL 10 a0,pI 11 x11,pB 41 true] [hC 2 [.p (.bool v15)],(5,gF),(6,gF),(7,(gN [.p (.bool v16)])),(8,gF),(9,bF),(11,gT),(12,gT),(13,gT),(24,gT),(25,bT)] (B6 (yig hv15) ha2 ha2 ha2 (yig hv16) ha2 (A6 ha2 ha3 ha3 ha3 ha3 ha3)))
   replace hw19:=ykh ha3 hw19
   rcases ft (decide (x11>0)) with ha4 | ha4
   ·obtain⟨v17,hv17,hw19⟩:=bs (yjh ha4 hw19)
    obtain⟨v18,hv18,hw19⟩:=bs hw19
    have hw19:=oi hw19
    subst hw19
    exact(r_dq yfa 22 [] [dP 0 a0,dP 9 a0,pL 10 a0,pI 11 x11,pB 41 (decide (v18>=0))] [hC 2 [.p (.bool v15)],(5,gF),(6,gF),(7,(gN [.p (.bool v16)])),(8,gF),(9,bF),(11,gF),(12,gF),(13,gF),(14,gT),(15,gT),(16,gT),(17,{g:=some true,row:=some (ePt v17)}),(18,gT),(19,gT),(20,gT),(21,gT),(22,{g:=some true,call:=some (none,[.p (iV v18)],true)}),(23,gT),(24,gFbT),(25,bF)] (B6 (yig hv15) ha2 ha2 ha2 (yig hv16) ha2 (B6 ha2 ha3 ha3 ha3 ha4 ha4 (B6 ha4 ha4 (yba hv17).1 (yca ePt (yba hv17).2) ha4 ha4 (B6 ha4 ha4 ha4 (yde hv18) ha4 ha3 (A2 ha4 ha3))))))
   replace hw19:=ykh ha4 hw19
   have hw19:=oi hw19
   subst hw19
   exact(r_dq yfa 22 [] [dP 0 a0,dP 9 a0,pL 10 a0,pI 11 x11,pB 41 false] [hC 2 [.p (.bool v15)],(5,gF),(6,gF),(7,(gN [.p (.bool v16)])),(8,gF),(9,bF),(11,gF),(12,gF),(13,gF),(14,gF),(15,gF),(16,gF),(17,gF),(18,gF),(19,gF),(20,gF),(21,gF),(22,gF),(23,gF),(24,gFbF),(25,bF)] (B6 (yig hv15) ha2 ha2 ha2 (yig hv16) ha2 (B6 ha2 ha3 ha3 ha3 ha4 ha4 (B6 ha4 ha4 ha4 ha4 ha4 ha4 (A5 ha4 ha4 ha3 ha4 ha3)))))
  refine kI h (fun hc6_19 h=>?_) (fun hc6_19 h=>?_)
  ·refine kG [pB 2 false] [] trivial ?_
   refine ypa (b_r (q_r (lq_r ?_)))
   refine b_r (q_r ?_)
   have hyy:=hy_x11 _ (oi h).symm
   subst hyy
   have h:=hk_x11
   dsimp only[Sum.elim] at h
   obtain rfl:=oi h
   exact er [(.p (.bool false),2)]
  refine yga (b_n (q_n (yhc (r_gq [dP 0 a0,dP 9 a0,pL 10 a0,pI 11 (w64 (x11+1))] [] trivial) ?_)))
  exact lqn (w64 (x11+1)) h
 refine yrb (q_x (lq_x (b_x ?_)))
 have hyy:=hy_x11 _ (oi h).symm
 subst hyy
 have h:=hk_x11
 dsimp only[Sum.elim] at h
 refine q_n ?_
 exact jx () h
theorem yfu {a0:Qr} {a1:Qr}  {r:(Qr×Bool)} (h:yip a0 a1=some r):Meets Tryz.prog 198 [.v (vRt a0),.v (vRt a1)] { vals:=[.p (vRt r.1),.p (.bool r.2)] }:=by
 refine mo Tryz.func198 [(0,.p (vRt a0)),(1,.p (vRt a1))] ?_
 unfold yip at h
 refine kG [bR 2 a0,bR 3 a1,bX 4 zR] [] trivial ?_
 obtain⟨v1,hv1,h⟩:=bs h
 refine kG [bR 4 v1.1,pB 5 v1.2] [hC 16 [.p (vRt v1.1),.p (.bool v1.2)]] (A1 (ycc hv1)) ?_
 refine ypa ?_
 obtain rfl:=oi h
 exact er [(.p (vRt v1.1),4),(.p (.bool v1.2),5)]
theorem yxh1 {a0:Qr} {a1:Qr}  {r:(Qr×Bool)} (h:yys a0 a1=some r):Meets Tryz.prog 212 [.v (vRt a0),.v (vRt a1)] { vals:=[.p (vRt r.1),.p (.bool r.2)] }:=by
 refine mo Tryz.func212 [(0,.p (vRt a0)),(1,.p (vRt a1))] ?_
 unfold yys at h
 refine kG [bR 2 a0,bR 3 a1,bX 4 zR] [] trivial ?_
 refine yeb (kG [bR 2 a0,bR 3 a1,bX 4 zR,pB 8 (a1.1==0)] [] trivial ?_)
 refine kI h (fun hc2_0 h=>?_) (fun hc2_0 h=>?_)
 ·refine kG [bX 4 zR,pB 5 false] [] trivial ?_
  refine ypa (q_r ?_)
  obtain rfl:=oi h
  exact er [(.p (.agg #[.int .i64 0,.int .i64 0]),4),(.p (.bool false),5)]
 refine yga (q_n ?_)
 obtain⟨v2,hv2,h⟩:=bs h
 refine kG [bR 4 v2.1,pB 5 v2.2] [hC 10 [.p (vRt v2.1),.p (.bool v2.2)]] (A1 (ycc hv2)) ?_
 refine ypa ?_
 obtain rfl:=oi h
 exact er [(.p (vRt v2.1),4),(.p (.bool v2.2),5)]
theorem yto {a0:Qp} {a1:Qp}  {r:Qr} (h:yrh a0 a1=some r):Meets Tryz.prog 200 [.v (vPt a0),.v (vPt a1)] { vals:=[.p (vRt r)] }:=by
 refine mo Tryz.func200 [(0,.p (vPt a0)),(1,.p (vPt a1))] ?_
 unfold yrh at h
 refine kG [bP 2 a0,bP 3 a1,bX 4 zR] [] trivial ?_
 obtain⟨v1,hv1,h⟩:=bs h
 refine kG [bP 2 a0,bP 3 a1,bX 4 zR,bR 5 v1.1] [hC 4 [.p (vRt v1.1),.p (.bool v1.2)]] (A1 (yfu hv1)) ?_
 obtain⟨v2,hv2,h⟩:=bs h
 refine kG [bX 4 zR,bR 5 v1.1,bR 7 v2.1] [hC 4 [.p (vRt v2.1),.p (.bool v2.2)]] (A1 (yfu hv2)) ?_
 obtain⟨v3,hv3,h⟩:=bs h
 refine kG [bX 4 zR,bR 9 v3.1] [hC 2 [.p (vRt v3.1),.p (.bool v3.2)]] (A1 (yxh1 hv3)) ?_
 refine kG [bR 4 v3.1] [] trivial ?_
 refine ypa ?_
 obtain rfl:=oi h
 exact er [(.p (vRt v3.1),4)]
theorem ylc1 {a0:(List Qp)}  {r:(List Qp)} (h:ypj a0=some r):Meets Tryz.prog 193 [.d false (sP a0)] { vals:=[.ov false (oP 96 r)] }:=by
 refine mo Tryz.func193 [dP 0 a0] ?_
 unfold ypj at h
 refine kG [dP 0 a0] [] trivial ?_
 obtain⟨v1,hv1,h⟩:=bs h
 refine kG [dP 0 a0,vP 3 96 ([v1])] [hR 1 (ePt v1)] (A2 (yba hv1).1 (yca ePt (yba hv1).2)) ?_
 refine yjb (J:=fun (x:(List Qp))=>[vP 3 96 x]) (K:=fun x=>ygr x=some r) (fun x2 h=>?_) ?_
 ·unfold ygr at h
  refine kG [vP 2 96 x2] [] trivial ?_
  refine ypa ?_
  obtain rfl:=oi h
  exact er [(.ov false (oP 96 x2),2)]
 refine kG [dP 0 a0,vP 3 96 ([v1]),pI 4 1] [] trivial ?_
 refine yda ?_
 obtain⟨y4,hl_x3,hk_x3⟩:=bs h
 clear h
 refine yyb (J:=fun (x:((List Qp)×Int))=>[dP 0 a0,vP 3 96 x.1,pI 4 x.2]) hl_x3 wkk (fun x3 o_x3 h hy_x3=>?_)
 unfold yzg at h
 refine yeb (kG [dP 0 a0,vP 3 96 x3.1,pI 4 x3.2,pB 12 (decide (x3.2<(a0.length:Int)))] [hN 2 a0] (A1 (lnP a0)) ?_)
 refine kI h (fun hc5_4 h=>?_) (fun hc5_4 h=>?_)
 ·refine yga (q_n (yeb (yda ?_)))
  obtain⟨w11,hw11,h⟩:=bs h
  refine ynb (l1:=[dP 0 a0,vP 3 96 x3.1,pI 4 x3.2,pB 42 w11]) ?_ ?_
  ·clear h
   rcases ft ((w64 (x3.2+1))==(a0.length:Int)) with ha1 | ha1
   ·replace hw11:=yjh ha1 hw11
    have hw11:=oi hw11
    subst hw11
    exact(r_dq yfa 25 [] [dP 0 a0,vP 3 96 x3.1,pI 4 x3.2,pB 42 true] [hN 3 a0,(6,gT),(7,gT),(8,gT),(9,gT),(10,gT),(11,gT),(12,gT),(13,gT),(14,gT),(15,gT),(16,gT),(17,gT),(18,gT),(19,gT),(20,gT),(21,gT),(22,gT),(23,gT),(24,gT),(25,gT),(26,gT),(27,bT)] (B6 (lnP a0) ha1 ha1 ha1 ha1 ha1 (B6 ha1 ha1 ha1 ha1 ha1 ha1 (B6 ha1 ha1 ha1 ha1 ha1 ha1 (A5 ha1 ha1 ha1 ha1 ha1)))))
   obtain⟨v6,hv6,hw11⟩:=bs (ykh ha1 hw11)
   obtain⟨v7,hv7,hw11⟩:=bs hw11
   obtain⟨v8,hv8,hw11⟩:=bs hw11
   obtain⟨v9,hv9,hw11⟩:=bs hw11
   obtain⟨v10,hv10,hw11⟩:=bs hw11
   have hw11:=oi hw11
   subst hw11
   exact(r_dq yfa 25 [] [dP 0 a0,vP 3 96 x3.1,pI 4 x3.2,pB 42 (nR v8 v10)] [hN 3 a0,(6,gF),(7,gF),(8,gF),(9,{g:=some false,row:=some (ePt v6)}),(10,gF),(11,gF),(12,gF),(13,{g:=some false,row:=some (ePt v7)}),(14,gF),(15,(gN [.p (vRt v8)])),(16,gF),(17,gF),(18,{g:=some false,row:=some (ePt v7)}),(19,gF),(20,gF),(21,gF),(22,gF),(23,{g:=some false,row:=some (ePt v9)}),(24,gF),(25,(gN [.p (vRt v10)])),(26,(hB (nR v8 v10))),(27,bF)] (B6 (lnP a0) ha1 ha1 ha1 ha1 (yba hv6).1 (B6 (yca ePt (yba hv6).2) ha1 ha1 ha1 ha1 (yba hv7).1 (B6 (yca ePt (yba hv7).2) ha1 ha1 (yto hv8) ha1 ha1 (B6 ha1 (yba hv7).1 (yca ePt (yba hv7).2) ha1 ha1 ha1 (B6 ha1 ha1 (yba hv9).1 (yca ePt (yba hv9).2) ha1 ha1 (A4 (yto hv10) ha1 (show PureAt Tryz.prog (.binOp .neq 38 (.tmp 30) (.tmp 40) 38) [vRt v8,vRt v10] (.bool (nR v8 v10)) from(yrf1 (by kernel_rfl))) ha1)))))))
  refine kI h (fun hc6_11 h=>?_) (fun hc6_11 h=>?_)
  ·obtain⟨v13,hv13,h⟩:=bs h
   obtain⟨u14,hu14,h⟩:=bs h
   refine yhc (r_gq [dP 0 a0,vP 3 96 (x3.1++[v13]),pI 4 x3.2] [hR 3 (ePt v13),(6,{fix:=some (vP 49 96 (x3.1++[v13]))})] (A5 (yba hv13).1 (yca ePt (yba hv13).2) (lG' ePt hu14) (show ∀ row∈((([v13]).map ePt):List (List C)),row.length=4 from(yfc fun _=>rfl)) (aP' 96 ePt x3.1 ([v13])))) ?_
   refine b_n (q_n (yhc (r_gq [dP 0 a0,vP 3 96 (x3.1++[v13]),pI 4 (w64 (x3.2+1))] [] trivial) ?_))
   exact lqn ((x3.1++[v13]),(w64 (x3.2+1))) h
  refine yga (b_n (q_n (yhc (r_gq [dP 0 a0,vP 3 96 x3.1,pI 4 (w64 (x3.2+1))] [] trivial) ?_)))
  exact lqn (x3.1,(w64 (x3.2+1))) h
 refine yrb (q_x (lq_x (b_x ?_)))
 have hyy:=hy_x3 _ (oi h).symm
 subst hyy
 have h:=hk_x3
 refine q_n ?_
 exact jx x3.1 h
theorem yak1 {a0:(List Qp)}  {r:(List Qr)} (h:yqy a0=some r):Meets Tryz.prog 192 [.d false (sP a0)] { vals:=[rO 38 eRt r] }:=by
 refine mo Tryz.func192 [dP 0 a0] ?_
 unfold yqy at h
 refine kG [dP 0 a0] [] trivial ?_
 refine kG [dP 0 a0,vN 3 38] [] trivial ?_
 refine yjb (J:=fun (x:(List Qr))=>[vL 3 38 eRt x]) (K:=fun x=>yax x=some r) (fun x1 h=>?_) ?_
 ·unfold yax at h
  refine kG [vL 2 38 eRt x1] [] trivial ?_
  refine ypa ?_
  obtain rfl:=oi h
  exact er [(.ov false [.sl (some 38) (x1.map eRt)],2)]
 refine kG [vN 3 38,dP 6 a0,pL 7 a0,pI 8 0] [hN 1 a0] (A1 (lnP a0)) ?_
 refine yda ?_
 obtain⟨y3,hl_x2,hk_x2⟩:=bs h
 clear h
 refine yyb (J:=fun (x:((List Qr)×Int))=>[vL 3 38 eRt x.1,dP 6 a0,pL 7 a0,pI 8 x.2]) hl_x2 wkk (fun x2 o_x2 h hy_x2=>?_)
 unfold ylo at h
 refine kG [vL 3 38 eRt x2.1,dP 6 a0,pL 7 a0,pI 8 x2.2,pB 9 (decide (x2.2<(a0.length:Int)))] [] trivial ?_
 refine yeb (kI h (fun hc5_3 h=>?_) (fun hc5_3 h=>?_))
 ·refine yga (q_n (yeb (yda ?_)))
  obtain⟨v5,hv5,h⟩:=bs h
  refine kG [vL 3 38 eRt x2.1,bP 5 v5,dP 6 a0,pL 7 a0,pI 8 x2.2] [hR 0 (ePt v5)] (A2 (yba hv5).1 (yca ePt (yba hv5).2)) ?_
  obtain⟨u6,hu6,h⟩:=bs h
  refine yhc (r_gq [vL 3 38 eRt (x2.1++[v5.1]),dP 6 a0,pL 7 a0,pI 8 x2.2] [(4,{fix:=some (vL 16 38 eRt (x2.1++[v5.1]))})] (A3 (lG' eRt hu6) (show ∀ row∈((([v5.1]).map eRt):List (List C)),row.length=2 from(yfc fun _=>rfl)) (aP' 38 eRt x2.1 ([v5.1])))) ?_
  refine b_n (q_n (yhc (r_gq [vL 3 38 eRt (x2.1++[v5.1]),dP 6 a0,pL 7 a0,pI 8 (w64 (x2.2+1))] [] trivial) ?_))
  exact lqn ((x2.1++[v5.1]),(w64 (x2.2+1))) h
 refine yrb (q_x (lq_x (b_x ?_)))
 have hyy:=hy_x2 _ (oi h).symm
 subst hyy
 have h:=hk_x2
 refine q_n ?_
 exact jx x2.1 h
theorem ymc1 {a0:(List Qp)}  {r:(List Qr)} (h:ykp a0=some r):Meets Tryz.prog 237 [.d false (sP a0)] { vals:=[rO 38 eRt r] }:=by
 refine mo Tryz.func237 [dP 0 a0] ?_
 unfold ykp at h
 refine kG [dP 0 a0] [] trivial ?_
 refine kG [dP 0 a0,vN 3 38] [] trivial ?_
 refine yjb (J:=fun (x:(List Qr))=>[vL 3 38 eRt x]) (K:=fun x=>ydr x=some r) (fun x1 h=>?_) ?_
 ·unfold ydr at h
  refine kG [vL 2 38 eRt x1] [] trivial ?_
  refine ypa ?_
  obtain rfl:=oi h
  exact er [(.ov false [.sl (some 38) (x1.map eRt)],2)]
 refine kG [dP 0 a0,vN 3 38,pI 4 1] [] trivial ?_
 refine yda ?_
 obtain⟨y3,hl_x2,hk_x2⟩:=bs h
 clear h
 refine yyb (J:=fun (x:((List Qr)×Int))=>[dP 0 a0,vL 3 38 eRt x.1,pI 4 x.2]) hl_x2 wkk (fun x2 o_x2 h hy_x2=>?_)
 unfold yhj at h
 refine yeb (kG [dP 0 a0,vL 3 38 eRt x2.1,pI 4 x2.2,pB 8 (decide (x2.2<(a0.length:Int)))] [hN 2 a0] (A1 (lnP a0)) ?_)
 refine kI h (fun hc5_3 h=>?_) (fun hc5_3 h=>?_)
 ·refine yga (q_n (yeb (yda ?_)))
  obtain⟨v5,hv5,h⟩:=bs h
  obtain⟨v6,hv6,h⟩:=bs h
  obtain⟨v7,hv7,h⟩:=bs h
  obtain⟨u8,hu8,h⟩:=bs h
  refine yhc (r_dq yfa 12 [] [dP 0 a0,vL 3 38 eRt (x2.1++[v7]),pI 4 x2.2] [hR 4 (ePt v5),hR 8 (ePt v6),hC 10 [.p (vRt v7)],(12,{fix:=some (vL 23 38 eRt (x2.1++[v7]))})] (B6 (yba hv5).1 (yca ePt (yba hv5).2) (yba hv6).1 (yca ePt (yba hv6).2) (yto hv7) (lG' eRt hu8) (A2 (show ∀ row∈((([v7]).map eRt):List (List C)),row.length=2 from(yfc fun _=>rfl)) (aP' 38 eRt x2.1 ([v7]))))) ?_
  refine b_n (q_n (yhc (r_gq [dP 0 a0,vL 3 38 eRt (x2.1++[v7]),pI 4 (w64 (x2.2+1))] [] trivial) ?_))
  exact lqn ((x2.1++[v7]),(w64 (x2.2+1))) h
 refine yrb (q_x (lq_x (b_x ?_)))
 have hyy:=hy_x2 _ (oi h).symm
 subst hyy
 have h:=hk_x2
 refine q_n ?_
 exact jx x2.1 h
theorem ywf1 {a0:(List Qp)}  {r:(List (List Int))} (h:yat a0=some r):Meets Tryz.prog 224 [.d false (sP a0)] { vals:=[rO 32 (eO 3 eI) r] }:=by
 refine mo Tryz.func224 [dP 0 a0] ?_
 unfold yat at h
 refine kG [dP 0 a0] [] trivial ?_
 refine kG [dP 0 a0,vN 3 32] [] trivial ?_
 refine yjb (J:=fun (x:(List (List Int)))=>[vL 3 32 (eO 3 eI) x]) (K:=fun x=>ypt x=some r) (fun x1 h=>?_) ?_
 ·unfold ypt at h
  refine kG [vL 2 32 (eO 3 eI) x1] [] trivial ?_
  refine ypa ?_
  obtain rfl:=oi h
  exact er [(.ov false [.sl (some 32) (x1.map (eO 3 eI))],2)]
 obtain⟨v2,hv2,h⟩:=bs h
 refine kG [vN 3 32,vL 9 38 eRt v2,pL 10 v2,pI 11 0] [hC 1 [rO 38 eRt v2],hN 2 v2] (A3 (ymc1 hv2) (sR' 38 v2) (lF eRt v2)) ?_
 refine yda ?_
 obtain⟨y4,hl_x3,hk_x3⟩:=bs h
 clear h
 refine yyb (J:=fun (x:((List (List Int))×Int))=>[vL 3 32 (eO 3 eI) x.1,vL 9 38 eRt v2,pL 10 v2,pI 11 x.2]) hl_x3 wkk (fun x3 o_x3 h hy_x3=>?_)
 unfold ydk at h
 refine kG [vL 3 32 (eO 3 eI) x3.1,vL 9 38 eRt v2,pL 10 v2,pI 11 x3.2,pB 12 (decide (x3.2<(v2.length:Int)))] [] trivial ?_
 refine yeb (kI h (fun hc5_4 h=>?_) (fun hc5_4 h=>?_))
 ·refine yga (q_n (yeb (yda ?_)))
  obtain⟨v6,hv6,h⟩:=bs h
  refine kG [vL 3 32 (eO 3 eI) x3.1,pI 4 x3.2,bR 5 v6,vL 9 38 eRt v2,pL 10 v2,pI 11 x3.2] [hR 1 (eRt v6),hR 2 (eRt v6)] (A3 (yba hv6).1 (yca eRt (yba hv6).2) (gW 38 eRt hv6)) ?_
  obtain⟨v7,hv7,h⟩:=bs h
  refine kG [vL 3 32 (eO 3 eI) x3.1,pI 4 x3.2,pI 6 v7,vL 9 38 eRt v2,pL 10 v2,pI 11 x3.2] [hC 2 [.p (iV v7)]] (A1 (yrx hv7)) ?_
  refine yeb (kG [vL 3 32 (eO 3 eI) x3.1,pI 4 x3.2,pI 6 v7,pL 7 x3.1,vL 9 38 eRt v2,pL 10 v2,pI 11 x3.2] [hN 1 x3.1] (A1 (lF (eO 3 eI) x3.1)) ?_)
  obtain⟨w10,hw10,h⟩:=bs h
  refine ynb (l1:=[vL 3 32 (eO 3 eI) x3.1,pI 4 x3.2,pI 6 v7,pL 7 x3.1,vL 9 38 eRt v2,pL 10 v2,pI 11 x3.2,pB 33 w10]) ?_ ?_
  ·clear h
   rcases ft (decide ((x3.1.length:Int)>0)) with ha1 | ha1
   ·obtain⟨v8,hv8,hw10⟩:=bs (yjh ha1 hw10)
    obtain⟨v9,hv9,hw10⟩:=bs hw10
    have hw10:=oi hw10
    subst hw10
    exact(r_gq [vL 3 32 (eO 3 eI) x3.1,pI 4 x3.2,pI 6 v7,pL 7 x3.1,vL 9 38 eRt v2,pL 10 v2,pI 11 x3.2,pB 33 (v9==v7)] [(3,gT),(4,gT),(5,gT),(6,{g:=some true,row:=some [.sl (some 3) (v8.map eI)]}),(7,{g:=some true,row:=some [.sl (some 3) (v8.map eI)]}),(8,{g:=some true,deep:=some [.sl (some 3) (v8.map eI)],row:=some (eI v9)}),(9,{g:=some true,row:=some (eI v9)}),(10,gT),(11,gT),(12,bT)] (B6 ha1 ha1 ha1 ha1 (yba hv8).1 (yca (eO 3 eI) (yba hv8).2) (B6 ha1 (show frR [.sl (some 3) (v8.map eI)]=false from rfl) (gW 32 (eO 3 eI) hv8) ha1 (yba hv9).1 (yca eI (yba hv9).2) (A6 (gW 32 (eO 3 eI) hv8) ha1 (show getRow [[.sl (some 32) (x3.1.map (eO 3 eI))]] [(0,0),((Int.toNat (w64 ((x3.1.length:Int)-1))),0),((Int.toNat 2),0)]=some (eI v9) from((gr0 rfl).trans ((grs (yca (eO 3 eI) (yba hv8).2) rfl).trans (gre (yca eI (yba hv9).2))))) ha1 ha1 ha1))))
   replace hw10:=ykh ha1 hw10
   have hw10:=oi hw10
   subst hw10
   exact(r_gq [vL 3 32 (eO 3 eI) x3.1,pI 4 x3.2,pI 6 v7,pL 7 x3.1,vL 9 38 eRt v2,pL 10 v2,pI 11 x3.2,pB 33 false] [(3,gF),(4,gF),(5,gF),(6,gF),(7,gF),(8,gF),(9,gF),(10,gF),(11,gF),(12,bF)] (B6 ha1 ha1 ha1 ha1 ha1 ha1 (A4 ha1 ha1 ha1 ha1)))
  refine kI h (fun hc7_10 h=>?_) (fun hc7_10 h=>?_)
  ·obtain⟨v12,hv12,h⟩:=bs h
   obtain⟨v13,hv13,h⟩:=bs h
   refine kG [vL 3 32 (eO 3 eI) (x3.1.set (Int.toNat (w64 ((x3.1.length:Int)-1))) (v12.set (Int.toNat 1) (w64 (x3.2+1)))),vL 9 38 eRt v2,pL 10 v2,pI 11 x3.2] [hR 3 [.sl (some 3) (v12.map eI)],hR 4 [.sl (some 3) (v12.map eI)],(7,{deep:=some [.sl (some 3) (v12.map eI)],row:=some (eI v13)}),(8,{row:=some (eI v13),fix:=some (vL 3 32 (eO 3 eI) (x3.1.set (Int.toNat (w64 ((x3.1.length:Int)-1))) (v12.set (Int.toNat 1) (w64 (x3.2+1)))))})] (B6 (yba hv12).1 (yca (eO 3 eI) (yba hv12).2) (show frR [.sl (some 3) (v12.map eI)]=false from rfl) (gW 32 (eO 3 eI) hv12) (yba hv13).1 (yca eI (yba hv13).2) (A3 (gW 32 (eO 3 eI) hv12) (show getRow [[.sl (some 32) (x3.1.map (eO 3 eI))]] [(0,0),((Int.toNat (w64 ((x3.1.length:Int)-1))),0),((Int.toNat 1),0)]=some (eI v13) from((gr0 rfl).trans ((grs (yca (eO 3 eI) (yba hv12).2) rfl).trans (gre (yca eI (yba hv13).2))))) (show(SV.ov false [.sl (some 32) (setL (x3.1.map (eO 3 eI)) [((Int.toNat (w64 ((x3.1.length:Int)-1))),0),((Int.toNat 1),0)] [rI (w64 (x3.2+1))])]:SV)=.ov false [.sl (some 32) ((x3.1.set (Int.toNat (w64 ((x3.1.length:Int)-1))) (v12.set (Int.toNat 1) (w64 (x3.2+1)))).map (eO 3 eI))] from(congrArg (fun z=>SV.ov false [.sl (some 32) z]) (set2 (f:=(eO 3 eI)) (y:=(v12.set (Int.toNat 1) (w64 (x3.2+1)))) (yba hv12).2 rfl (set1 (f:=eI) (y:=(w64 (x3.2+1))) (yba hv13).2 rfl) rfl))))) ?_
   refine yrb (q_x (b_x (q_n (yhc (r_gq [vL 3 32 (eO 3 eI) (x3.1.set (Int.toNat (w64 ((x3.1.length:Int)-1))) (v12.set (Int.toNat 1) (w64 (x3.2+1)))),vL 9 38 eRt v2,pL 10 v2,pI 11 (w64 (x3.2+1))] [] trivial) ?_))))
   exact lqn ((x3.1.set (Int.toNat (w64 ((x3.1.length:Int)-1))) (v12.set (Int.toNat 1) (w64 (x3.2+1)))),(w64 (x3.2+1))) h
  refine yga (q_n ?_)
  obtain⟨u14,hu14,h⟩:=bs h
  refine yhc (r_gq [vL 3 32 (eO 3 eI) (x3.1++[[x3.2,(w64 (x3.2+1)),v7]]),vL 9 38 eRt v2,pL 10 v2,pI 11 x3.2] [(7,{fix:=some (vL 49 32 (eO 3 eI) (x3.1++[[x3.2,(w64 (x3.2+1)),v7]]))})] (A3 (lG' (eO 3 eI) hu14) (show ∀ row∈((([[x3.2,(w64 (x3.2+1)),v7]]).map (eO 3 eI)):List (List C)),row.length=1 from(yfc fun _=>rfl)) (aP' 32 (eO 3 eI) x3.1 ([[x3.2,(w64 (x3.2+1)),v7]])))) ?_
  refine b_n (q_n (yhc (r_gq [vL 3 32 (eO 3 eI) (x3.1++[[x3.2,(w64 (x3.2+1)),v7]]),vL 9 38 eRt v2,pL 10 v2,pI 11 (w64 (x3.2+1))] [] trivial) ?_))
  exact lqn ((x3.1++[[x3.2,(w64 (x3.2+1)),v7]]),(w64 (x3.2+1))) h
 refine yrb (q_x (lq_x (b_x ?_)))
 have hyy:=hy_x3 _ (oi h).symm
 subst hyy
 have h:=hk_x3
 refine q_n ?_
 exact jx x3.1 h
theorem yud1 {a0:(List Qp)}  {r:(List Qr)} (h:yij a0=some r):Meets Tryz.prog 194 [.d false (sP a0)] { vals:=[rO 38 eRt r] }:=by
 refine mo Tryz.func194 [dP 0 a0] ?_
 unfold yij at h
 refine kG [dP 0 a0] [] trivial ?_
 refine kG [dP 0 a0,vN 3 38] [] trivial ?_
 refine yjb (J:=fun (x:(List Qr))=>[vL 3 38 eRt x]) (K:=fun x=>yps x=some r) (fun x1 h=>?_) ?_
 ·unfold yps at h
  refine kG [vL 2 38 eRt x1] [] trivial ?_
  refine ypa ?_
  obtain rfl:=oi h
  exact er [(.ov false [.sl (some 38) (x1.map eRt)],2)]
 obtain⟨v2,hv2,h⟩:=bs h
 obtain⟨u3,hu3,h⟩:=bs h
 refine kG [dP 0 a0,vN 3 38,dL 8 (eF eI) (v2.drop (Int.toNat 1)),pL 9 (v2.drop (Int.toNat 1)),pI 10 0] [hC 1 [rO 32 (eO 3 eI) v2],(2,{pre:=some (dL 7 (eF eI) v2),fix:=some (dL 8 (eF eI) (v2.drop (Int.toNat 1)))}),hN 3 (v2.drop (Int.toNat 1))] (B6 (ywf1 hv2) (show List.all [rO 32 (eO 3 eI) v2] simpleR=true from(sa_o (wnR1 (yvc (wn_O wn_I)) rfl) rfl)) (show(SV.d false (eraR [.sl (some 32) (v2.map (eO 3 eI))]):SV)=.d false [.sl none (v2.map (eF eI))] from(congrArg (fun z=>SV.d false z) (yqf (yka (yxr1 er_I)) rfl))) (show(Int.toNat 1)<=(v2.map (eF eI)).length from(by have hg:=(ysa hu3);first | (simp only[List.length_map];omega) | omega)) (show(v2.map (eF eI)).length<=(v2.map (eF eI)).length from(Nat.le_refl _)) (show ∀ row∈(v2.map (eF eI)),row.length=1 from(yfc fun _=>rfl)) (A3 (show(0:Int)<=1 from(by have hg:=(ysa hu3);omega)) (show(SV.d false [.sl none (((v2.map (eF eI)).take (v2.map (eF eI)).length).drop (Int.toNat 1))]:SV)=.d false [.sl none ((v2.drop (Int.toNat 1)).map (eF eI))] from(congrArg (fun z=>SV.d false [.sl none z]) ypy1)) (lF (eF eI) (v2.drop (Int.toNat 1))))) ?_
 refine yda ?_
 obtain⟨y5,hl_x4,hk_x4⟩:=bs h
 clear h
 refine yyb (J:=fun (x:((List Qr)×Int))=>[dP 0 a0,vL 3 38 eRt x.1,dL 8 (eF eI) (v2.drop (Int.toNat 1)),pL 9 (v2.drop (Int.toNat 1)),pI 10 x.2]) hl_x4 wkk (fun x4 o_x4 h hy_x4=>?_)
 unfold yng at h
 refine kG [dP 0 a0,vL 3 38 eRt x4.1,dL 8 (eF eI) (v2.drop (Int.toNat 1)),pL 9 (v2.drop (Int.toNat 1)),pI 10 x4.2,pB 11 (decide (x4.2<((v2.drop (Int.toNat 1)).length:Int)))] [] trivial ?_
 refine yeb (kI h (fun hc5_5 h=>?_) (fun hc5_5 h=>?_))
 ·refine yga (q_n (yeb (yda ?_)))
  obtain⟨v7,hv7,h⟩:=bs h
  refine kG [dP 0 a0,vL 3 38 eRt x4.1,dL 5 eI v7,dL 8 (eF eI) (v2.drop (Int.toNat 1)),pL 9 (v2.drop (Int.toNat 1)),pI 10 x4.2] [hR 0 [.sl none (v7.map eI)]] (A2 (yba hv7).1 (yca (eF eI) (yba hv7).2)) ?_
  obtain⟨v8,hv8,h⟩:=bs h
  obtain⟨v9,hv9,h⟩:=bs h
  obtain⟨u10,hu10,h⟩:=bs h
  refine yhc (r_gq [dP 0 a0,vL 3 38 eRt (x4.1++[v9.1]),dL 8 (eF eI) (v2.drop (Int.toNat 1)),pL 9 (v2.drop (Int.toNat 1)),pI 10 x4.2] [hR 3 (eI v8),hR 5 (ePt v9),(9,{fix:=some (vL 23 38 eRt (x4.1++[v9.1]))})] (B6 (yba hv8).1 (yca eI (yba hv8).2) (yba hv9).1 (yca ePt (yba hv9).2) (lG' eRt hu10) (show ∀ row∈((([v9.1]).map eRt):List (List C)),row.length=2 from(yfc fun _=>rfl)) (A1 (aP' 38 eRt x4.1 ([v9.1]))))) ?_
  refine b_n (q_n (yhc (r_gq [dP 0 a0,vL 3 38 eRt (x4.1++[v9.1]),dL 8 (eF eI) (v2.drop (Int.toNat 1)),pL 9 (v2.drop (Int.toNat 1)),pI 10 (w64 (x4.2+1))] [] trivial) ?_))
  exact lqn ((x4.1++[v9.1]),(w64 (x4.2+1))) h
 refine yrb (q_x (lq_x (b_x ?_)))
 have hyy:=hy_x4 _ (oi h).symm
 subst hyy
 have h:=hk_x4
 refine q_n ?_
 exact jx x4.1 h
theorem ygu {a0:(List Qp)} {a1:Bool}  {r:(List Qr)} (h:ybg a0 a1=some r):Meets Tryz.prog 154 [.d false (sP a0),.v (.bool a1)] { vals:=[rO 38 eRt r] }:=by
 refine mo Tryz.func154 [dP 0 a0,pB 1 a1] ?_
 unfold ybg at h
 refine kG [dP 0 a0,pB 1 a1] [] trivial ?_
 refine yeb (kG [dP 0 a0,pB 5 a1] [] trivial ?_)
 refine kI h (fun hc2_0 h=>?_) (fun hc2_0 h=>?_)
 ·obtain⟨v2,hv2,h⟩:=bs h
  obtain⟨v3,hv3,h⟩:=bs h
  refine kG [vL 4 38 eRt v3] [hC 1 [.ov false (oP 96 v2)],(2,(cS [.d false (sP v2)] [rO 38 eRt v3]))] (A5 (ylc1 hv2) (show List.all [.ov false (oP 96 v2)] simpleR=true from(sa_o (wnR1 (yvc (wn_P (wn_P wn_I wn_I) (wn_P wn_I wn_I))) rfl) rfl)) (show([.d false [.sl none (eraL (v2.map ePt))]]:List Arg)=[.d false (sP v2)] from(by simp only[erPt])) (yak1 hv3) (sR' 38 v3)) ?_
  refine ypa (q_r ?_)
  obtain rfl:=oi h
  exact er [(.ov false [.sl (some 38) (v3.map eRt)],4)]
 refine yga (q_n ?_)
 obtain⟨v4,hv4,h⟩:=bs h
 refine kG [vL 4 38 eRt v4] [hC 1 [rO 38 eRt v4]] (A2 (yud1 hv4) (sR' 38 v4)) ?_
 refine ypa ?_
 obtain rfl:=oi h
 exact er [(.ov false [.sl (some 38) (v4.map eRt)],4)]
theorem yvd1 {a0:(List Qp)} {a1:Qr}  {r:Int} (h:yar a0 a1=some r):Meets Tryz.prog 163 [.d false (sP a0),.v (vRt a1)] { vals:=[.p (iV r)] }:=by
 refine mo Tryz.func163 [dP 0 a0,(1,.p (vRt a1))] ?_
 unfold yar at h
 refine kG [dP 0 a0,bR 3 a1] [] trivial ?_
 refine kG [dP 0 a0,bR 3 a1,pI 5 0] [] trivial ?_
 refine yjb (J:=fun (x:Int)=>[pI 5 x]) (K:=fun x=>yos x=some r) (fun x1 h=>?_) ?_
 ·unfold yos at h
  refine kG [pI 4 x1] [] trivial ?_
  refine ypa ?_
  obtain rfl:=oi h
  exact er [(.p (iV x1),4)]
 refine yda ?_
 obtain⟨y3,hl_x2,hk_x2⟩:=bs h
 clear h
 refine yyb (J:=fun (x:Int)=>[dP 0 a0,bR 3 a1,pI 5 x]) hl_x2 wkk (fun x2 o_x2 h hy_x2=>?_)
 unfold ytk at h
 refine yeb ?_
 obtain⟨w6,hw6,h⟩:=bs h
 refine ynb (l1:=[dP 0 a0,bR 3 a1,pI 5 x2,pB 21 w6]) ?_ ?_
 ·clear h
  rcases ft (decide ((w64 (x2+2))<(a0.length:Int))) with ha0 | ha0
  ·obtain⟨v4,hv4,hw6⟩:=bs (yjh ha0 hw6)
   obtain⟨v5,hv5,hw6⟩:=bs hw6
   have hw6:=oi hw6
   subst hw6
   exact(r_dq yfa 13 [] [dP 0 a0,bR 3 a1,pI 5 x2,pB 21 (decide (v5<0))] [hN 3 a0,(6,gT),(7,gT),(8,gT),(9,{g:=some true,row:=some (ePt v4)}),(10,gT),(11,gT),(12,gT),(13,{g:=some true,call:=some (none,[.p (iV v5)],true)}),(14,gT),(15,bT)] (B6 (lnP a0) ha0 ha0 ha0 ha0 (yba hv4).1 (B6 (yca ePt (yba hv4).2) ha0 ha0 ha0 ha0 (yde hv5) (A2 ha0 ha0))))
  replace hw6:=ykh ha0 hw6
  have hw6:=oi hw6
  subst hw6
  exact(r_dq yfa 13 [] [dP 0 a0,bR 3 a1,pI 5 x2,pB 21 false] [hN 3 a0,(6,gF),(7,gF),(8,gF),(9,gF),(10,gF),(11,gF),(12,gF),(13,gF),(14,gF),(15,bF)] (B6 (lnP a0) ha0 ha0 ha0 ha0 ha0 (A5 ha0 ha0 ha0 ha0 ha0)))
 refine kI h (fun hc5_6 h=>?_) (fun hc5_6 h=>?_)
 ·refine yga (q_n (yda (yhc (r_gq [dP 0 a0,bR 3 a1,pI 5 (w64 (x2+1))] [] trivial) ?_)))
  refine b_n ?_
  exact lqn (w64 (x2+1)) h
 refine yrb (q_x (lq_x (b_x ?_)))
 have hyy:=hy_x2 _ (oi h).symm
 subst hyy
 have h:=hk_x2
 refine q_n ?_
 exact jx x2 h
theorem yyh1 {a0:Qr} {a1:Qr}  {r:(Qr×Bool)} (h:ybr a0 a1=some r):Meets Tryz.prog 199 [.v (vRt a0),.v (vRt a1)] { vals:=[.p (vRt r.1),.p (.bool r.2)] }:=by
 refine mo Tryz.func199 [(0,.p (vRt a0)),(1,.p (vRt a1))] ?_
 unfold ybr at h
 refine kG [bR 2 a0,bR 3 a1,bX 4 zR] [] trivial ?_
 obtain⟨v1,hv1,h⟩:=bs h
 refine kG [bR 4 v1.1,pB 5 v1.2] [hC 10 [.p (vRt v1.1),.p (.bool v1.2)]] (A1 (ycc hv1)) ?_
 refine ypa ?_
 obtain rfl:=oi h
 exact er [(.p (vRt v1.1),4),(.p (.bool v1.2),5)]
theorem yzh1 {a0:Qr} {a1:Qr}  {r:(Qr×Bool)} (h:yzs a0 a1=some r):Meets Tryz.prog 201 [.v (vRt a0),.v (vRt a1)] { vals:=[.p (vRt r.1),.p (.bool r.2)] }:=by
 refine mo Tryz.func201 [(0,.p (vRt a0)),(1,.p (vRt a1))] ?_
 unfold yzs at h
 refine kG [bR 2 a0,bR 3 a1,bX 4 zR] [] trivial ?_
 obtain⟨v1,hv1,h⟩:=bs h
 refine kG [bR 4 v1.1,pB 5 v1.2] [hC 16 [.p (vRt v1.1),.p (.bool v1.2)]] (A1 (ycc hv1)) ?_
 refine ypa ?_
 obtain rfl:=oi h
 exact er [(.p (vRt v1.1),4),(.p (.bool v1.2),5)]
theorem ybk1 {a0:Qp} {a1:Qp} {a2:Qr}  {r:(Qr×Bool)} (h:ywb1 a0 a1 a2=some r):Meets Tryz.prog 164 [.v (vPt a0),.v (vPt a1),.v (vRt a2)] { vals:=[.p (vRt r.1),.p (.bool r.2)] }:=by
 refine mo Tryz.func164 [(0,.p (vPt a0)),(1,.p (vPt a1)),(2,.p (vRt a2))] ?_
 unfold ywb1 at h
 refine kG [bP 3 a0,bP 4 a1,bR 5 a2,bX 6 zR] [] trivial ?_
 obtain⟨v1,hv1,h⟩:=bs h
 refine kG [bP 3 a0,bP 4 a1,bX 6 zR,bR 8 v1.1,pB 9 v1.2] [hC 3 [.p (vRt v1.1),.p (.bool v1.2)]] (A1 (yfu hv1)) ?_
 obtain⟨v2,hv2,h⟩:=bs h
 obtain⟨v3,hv3,h⟩:=bs h
 refine ynb (r_dq yfa 10 [(9,10)] [bP 3 a0,bX 6 zR,pB 9 v1.2,bR 10 v3.1,pB 11 v3.2] [hC 3 [.p (vRt v2)],hC 4 [.p (vRt v3.1),.p (.bool v3.2)]] (A2 (yto hv2) (yyh1 hv3))) ?_
 refine yeb (ynb (l1:=[bP 3 a0,bX 6 zR,bR 10 v3.1,pB 32 ((!v1.2)||(!v3.2))]) ?_ ?_)
 ·rcases ft (!v1.2) with ha0 | ha0
  ·exact RegOk.of_eq (r_gq [bP 3 a0,bX 6 zR,bR 10 v3.1,pB 32 true] [(3,gT),(4,gT),(5,bT)] (A3 ha0 ha0 ha0)) (by simp[ha0])
  exact RegOk.of_eq (r_gq [bP 3 a0,bX 6 zR,bR 10 v3.1,pB 32 (!v3.2)] [(3,gF),(4,gF),(5,bF)] (A3 ha0 ha0 ha0)) (by simp[ha0])
 refine kI h (fun hc2_3 h=>?_) (fun hc2_3 h=>?_)
 ·refine kG [bX 6 zR,pB 7 false] [] trivial ?_
  refine ypa (q_r ?_)
  obtain rfl:=oi h
  exact er [(.p (.agg #[.int .i64 0,.int .i64 0]),6),(.p (.bool false),7)]
 refine yga (q_n ?_)
 obtain⟨v5,hv5,h⟩:=bs h
 refine kG [bR 6 v5.1,pB 7 v5.2] [hC 3 [.p (vRt v5.1),.p (.bool v5.2)]] (A1 (yzh1 hv5)) ?_
 refine ypa ?_
 obtain rfl:=oi h
 exact er [(.p (vRt v5.1),6),(.p (.bool v5.2),7)]
theorem yjt {a0:(List Qp)} {a1:Qr}  {r:(Qr×Bool)} (h:ysi a0 a1=some r):Meets Tryz.prog 98 [.d false (sP a0),.v (vRt a1)] { vals:=[.p (vRt r.1),.p (.bool r.2)] }:=by
 refine mo Tryz.func98 [dP 0 a0,(1,.p (vRt a1))] ?_
 unfold ysi at h
 refine kG [dP 0 a0,bR 3 a1,bX 4 zR] [] trivial ?_
 obtain⟨v1,hv1,h⟩:=bs h
 refine kG [dP 0 a0,bR 3 a1,bX 4 zR,pI 6 v1] [hC 2 [.p (iV v1)]] (A1 (yvd1 hv1)) ?_
 obtain⟨v2,hv2,h⟩:=bs h
 obtain⟨v3,hv3,h⟩:=bs h
 obtain⟨v4,hv4,h⟩:=bs h
 refine ynb (r_dq yfa 10 [] [bR 4 v4.1,pB 5 v4.2] [hR 2 (ePt v2),hR 7 (ePt v3),hC 10 [.p (vRt v4.1),.p (.bool v4.2)]] (A5 (yba hv2).1 (yca ePt (yba hv2).2) (yba hv3).1 (yca ePt (yba hv3).2) (ybk1 hv4))) ?_
 refine ypa ?_
 obtain rfl:=oi h
 exact er [(.p (vRt v4.1),4),(.p (.bool v4.2),5)]
theorem ykt {a0:(List Qr)} {a1:Qr}  {r:Int} (h:yik a0 a1=some r):Meets Tryz.prog 155 [.d false [.sl none (a0.map eRt)],.v (vRt a1)] { vals:=[.p (iV r)] }:=by
 refine mo Tryz.func155 [dL 0 eRt a0,(1,.p (vRt a1))] ?_
 unfold yik at h
 refine kG [dL 0 eRt a0,bR 3 a1] [] trivial ?_
 refine yjb (J:=fun (x:Unit)=>[]) (K:=fun x=>ytt x=some r) (fun x1 h=>?_) ?_
 ·unfold ytt at h
  refine kG [pI 4 (-1)] [] trivial ?_
  refine ypa ?_
  obtain rfl:=oi h
  exact er [(.p (iV (-1)),4)]
 refine kG [bR 3 a1,dL 7 eRt a0,pL 8 a0,pI 9 0] [hN 1 a0] (A1 (lF eRt a0)) ?_
 refine yda ?_
 obtain⟨y3,hl_x2,hk_x2⟩:=bs h
 clear h
 refine yyb (J:=fun (x:Int)=>[bR 3 a1,dL 7 eRt a0,pL 8 a0,pI 9 x]) hl_x2 wkk (fun x2 o_x2 h hy_x2=>?_)
 unfold yhk at h
 refine kG [bR 3 a1,dL 7 eRt a0,pL 8 a0,pI 9 x2,pB 10 (decide (x2<(a0.length:Int)))] [] trivial ?_
 refine yeb (kI h (fun hc5_3 h=>?_) (fun hc5_3 h=>?_))
 ·refine yga (q_n (yeb (yda ?_)))
  obtain⟨v5,hv5,h⟩:=bs h
  refine kG [bR 3 a1,pI 5 x2,bR 6 v5,dL 7 eRt a0,pL 8 a0,pI 9 x2] [hR 1 (eRt v5)] (A2 (yba hv5).1 (yca eRt (yba hv5).2)) ?_
  refine kG [bR 3 a1,pI 5 x2,dL 7 eRt a0,pL 8 a0,pI 9 x2,pB 16 ((a1.1==v5.1)&&(a1.2==v5.2))] [(2,{pv:=some (.bool ((a1.1==v5.1)&&(a1.2==v5.2)))})] (A1 (show PureAt Tryz.prog (.binOp .eql 38 (.tmp 14) (.tmp 15) 38) [vRt a1,vRt v5] (.bool ((a1.1==v5.1)&&(a1.2==v5.2))) from(yrf (by kernel_rfl)))) ?_
  refine kI h (fun hc6_5 h=>?_) (fun hc6_5 h=>?_)
  ·refine kG [pI 4 x2] [] trivial ?_
   refine ypa (b_r (q_r (lq_r ?_)))
   refine b_r (q_r ?_)
   have hyy:=hy_x2 _ (oi h).symm
   subst hyy
   have h:=hk_x2
   dsimp only[Sum.elim] at h
   obtain rfl:=oi h
   exact er [(.p (iV x2),4)]
  refine yga (b_n (q_n (yhc (r_gq [bR 3 a1,dL 7 eRt a0,pL 8 a0,pI 9 (w64 (x2+1))] [] trivial) ?_)))
  exact lqn (w64 (x2+1)) h
 refine yrb (q_x (lq_x (b_x ?_)))
 have hyy:=hy_x2 _ (oi h).symm
 subst hyy
 have h:=hk_x2
 dsimp only[Sum.elim] at h
 refine q_n ?_
 exact jx () h
theorem yur {a0:(List Qp)} {a1:Bool}  {r:((List Qr)×Bool)} (h:yxd a0 a1=some r):Meets Tryz.prog 87 [.d false (sP a0),.v (.bool a1)] { vals:=[rO 38 eRt r.1,.p (.bool r.2)] }:=by
 refine mo Tryz.func87 [dP 0 a0,pB 1 a1] ?_
 unfold yxd at h
 refine kG [dP 0 a0,pB 1 a1] [] trivial ?_
 obtain⟨v1,hv1,h⟩:=bs h
 obtain⟨v2,hv2,h⟩:=bs h
 obtain⟨v3,hv3,h⟩:=bs h
 refine kG [dP 0 a0,pB 1 a1,vL 6 38 eRt v3] [hC 0 [.p (vRt v1)],hC 2 [.p (vRt v2)],(3,{lend:=some (none,[rO 38 eRt v3],.u,true)})] (A4 (yhb hv1) (yhb hv2) (yyl hv3) (sR' 38 v3)) ?_
 refine yjb (J:=fun (x:(List Qr))=>[dP 0 a0,vL 6 38 eRt x]) (K:=fun x=>ycg a0 x=some r) (fun x4 h=>?_) ?_
 ·unfold ycg at h
  refine yjb (J:=fun (x:(List Qr))=>[vL 6 38 eRt x]) (K:=fun x=>yjn x=some r) (fun x5 h=>?_) ?_
  ·unfold yjn at h
   refine kG [vL 4 38 eRt x5,pB 5 true] [] trivial ?_
   refine ypa ?_
   obtain rfl:=oi h
   exact er [(.ov false [.sl (some 38) (x5.map eRt)],4),(.p (.bool true),5)]
  refine kG [dP 0 a0,vL 6 38 eRt x4,pB 9 true] [] trivial ?_
  refine yda ?_
  obtain⟨y7,hl_x6,hk_x6⟩:=bs h
  clear h
  refine yyb (J:=fun (x:((List Qr)×Bool))=>[dP 0 a0,vL 6 38 eRt x.1,pB 9 x.2]) hl_x6 wkk (fun x6 o_x6 h hy_x6=>?_)
  unfold yui at h
  refine yeb (kG [dP 0 a0,vL 6 38 eRt x6.1,pB 30 x6.2] [] trivial ?_)
  refine kI h (fun hc5_7 h=>?_) (fun hc5_7 h=>?_)
  ·refine yga (q_n (yda (kG [dP 0 a0,vL 6 38 eRt x6.1,pB 9 false] [] trivial ?_)))
   refine yeb (kG [dP 0 a0,vL 6 38 eRt x6.1,pB 9 false,pB 33 (decide ((x6.1.length:Int)>9))] [hN 1 x6.1] (A1 (lF eRt x6.1)) ?_)
   refine kI h (fun hc6_8 h=>?_) (fun hc6_8 h=>?_)
   ·refine kG [vN 4 38,pB 5 false] [] trivial ?_
    refine ypa (q_r (b_r (lq_r ?_)))
    refine b_r (q_r ?_)
    have hyy:=hy_x6 _ (oi h).symm
    subst hyy
    have h:=hk_x6
    dsimp only[Sum.elim] at h
    obtain rfl:=oi h
    exact er [(.ov false (oN 38),4),(.p (.bool false),5)]
   refine yga (q_n (kG [dP 0 a0,vL 6 38 eRt x6.1,pB 9 false,rF 34 6,pL 35 x6.1,pI 36 0] [hN 1 x6.1] (A1 (lF eRt x6.1)) ?_))
   refine yda ?_
   obtain⟨y11,hl_x10,hk_x10⟩:=bs h
   clear h
   refine yyb (J:=fun (x:Int)=>[dP 0 a0,vL 6 38 eRt x6.1,pB 9 false,rF 34 6,pL 35 x6.1,pI 36 x]) hl_x10 wkk (fun x10 o_x10 h hy_x10=>?_)
   unfold yti at h
   refine kG [dP 0 a0,vL 6 38 eRt x6.1,pB 9 false,rF 34 6,pL 35 x6.1,pI 36 x10,pB 37 (decide (x10<(x6.1.length:Int)))] [] trivial ?_
   refine yeb (kI h (fun hc8_11 h=>?_) (fun hc8_11 h=>?_))
   ·refine yga (q_n (yeb (yda ?_)))
    obtain⟨v13,hv13,h⟩:=bs h
    refine kG [dP 0 a0,vL 6 38 eRt x6.1,pB 9 false,bR 11 v13,rF 34 6,pL 35 x6.1,pI 36 x10] [hR 0 (eRt v13),hR 1 (eRt v13)] (A3 (yba hv13).1 (yca eRt (yba hv13).2) (gW 38 eRt hv13)) ?_
    obtain⟨v14,hv14,h⟩:=bs h
    refine kG [dP 0 a0,vL 6 38 eRt x6.1,pB 9 false,bR 12 v14.1,pB 13 v14.2,rF 34 6,pL 35 x6.1,pI 36 x10] [hC 2 [.p (vRt v14.1),.p (.bool v14.2)]] (A1 (yjt hv14)) ?_
    refine yeb (kG [dP 0 a0,vL 6 38 eRt x6.1,pB 9 false,bR 12 v14.1,rF 34 6,pL 35 x6.1,pI 36 x10,pB 47 (!v14.2)] [] trivial ?_)
    refine kI h (fun hc10_14 h=>?_) (fun hc10_14 h=>?_)
    ·refine kG [vN 4 38,pB 5 false] [] trivial ?_
     refine ypa (q_r (b_r (q_r (lq_r ?_))))
     refine b_r (b_r (lq_r ?_))
     refine b_r (q_r ?_)
     have hyy:=hy_x10 _ (oi h).symm
     subst hyy
     have h:=hk_x10
     dsimp only[Sum.elim] at h
     have hyy:=hy_x6 _ (oi h).symm
     subst hyy
     have h:=hk_x6
     dsimp only[Sum.elim] at h
     obtain rfl:=oi h
     exact er [(.ov false (oN 38),4),(.p (.bool false),5)]
    refine yga (q_n ?_)
    obtain⟨v16,hv16,h⟩:=bs h
    refine kG [dP 0 a0,vL 6 38 eRt x6.1,pB 9 false,bR 12 v14.1,rF 34 6,pL 35 x6.1,pI 36 x10,pB 51 (decide (v16<0))] [(2,(cS [.d false [.sl none (x6.1.map eRt)],.v (vRt v14.1)] [.p (iV v16)]))] (A2 (show([.d false [.sl none (eraL (x6.1.map eRt))],.v (vRt v14.1)]:List Arg)=[.d false [.sl none (x6.1.map eRt)],.v (vRt v14.1)] from(by simp only[yka (h:=eRt) (ywt er_I er_I)])) (ykt hv16)) ?_
    refine kI h (fun hc9_16 h=>?_) (fun hc9_16 h=>?_)
    ·obtain⟨v18,hv18,h⟩:=bs h
     refine kG [dP 0 a0,vL 6 38 eRt v18] [(2,{lend:=some (none,[rO 38 eRt v18],.u,true)})] (A2 (yyl hv18) (sR' 38 v18)) ?_
     refine kG [dP 0 a0,vL 6 38 eRt v18,pB 9 true] [] trivial ?_
     refine yrb (b_y rfl ?_)
     refine q_x (lq_x (b_x (b_n ?_)))
     have hyy:=hy_x10 _ (oi h).symm
     subst hyy
     have h:=hk_x10
     dsimp only[Sum.elim] at h
     exact lqn (v18,true) h
    refine yga (b_n (q_n (yhc (r_gq [dP 0 a0,vL 6 38 eRt x6.1,pB 9 false,rF 34 6,pL 35 x6.1,pI 36 (w64 (x10+1))] [] trivial) ?_)))
    exact lqn (w64 (x10+1)) h
   refine yrb (q_x (lq_x (b_x (b_n ?_))))
   have hyy:=hy_x10 _ (oi h).symm
   subst hyy
   have h:=hk_x10
   dsimp only[Sum.elim] at h
   exact lqn (x6.1,false) h
  refine yrb (q_x (lq_x (b_x ?_)))
  have hyy:=hy_x6 _ (oi h).symm
  subst hyy
  have h:=hk_x6
  dsimp only[Sum.elim] at h
  refine q_n ?_
  exact jx x6.1 h
 obtain⟨v19,hv19,h⟩:=bs h
 refine kG [dP 0 a0,vL 6 38 eRt v3,vL 20 38 eRt v19,pL 21 v19,pI 22 0] [hC 2 [rO 38 eRt v19],hN 3 v19] (A3 (ygu hv19) (sR' 38 v19) (lF eRt v19)) ?_
 refine yda ?_
 obtain⟨y21,hl_x20,hk_x20⟩:=bs h
 clear h
 refine yyb (J:=fun (x:((List Qr)×Int))=>[dP 0 a0,vL 6 38 eRt x.1,vL 20 38 eRt v19,pL 21 v19,pI 22 x.2]) hl_x20 wkk (fun x20 o_x20 h hy_x20=>?_)
 unfold yvi at h
 refine kG [dP 0 a0,vL 6 38 eRt x20.1,vL 20 38 eRt v19,pL 21 v19,pI 22 x20.2,pB 23 (decide (x20.2<(v19.length:Int)))] [] trivial ?_
 refine yeb (kI h (fun hc5_21 h=>?_) (fun hc5_21 h=>?_))
 ·refine yga (q_n (yeb (yda ?_)))
  obtain⟨v23,hv23,h⟩:=bs h
  refine kG [dP 0 a0,vL 6 38 eRt x20.1,bR 8 v23,vL 20 38 eRt v19,pL 21 v19,pI 22 x20.2] [hR 0 (eRt v23),hR 1 (eRt v23)] (A3 (yba hv23).1 (yca eRt (yba hv23).2) (gW 38 eRt hv23)) ?_
  obtain⟨v24,hv24,h⟩:=bs h
  refine yhc (r_gq [dP 0 a0,vL 6 38 eRt v24,vL 20 38 eRt v19,pL 21 v19,pI 22 x20.2] [(2,{lend:=some (none,[rO 38 eRt v24],.u,true)})] (A2 (yyl hv24) (sR' 38 v24))) ?_
  refine b_n (q_n (yhc (r_gq [dP 0 a0,vL 6 38 eRt v24,vL 20 38 eRt v19,pL 21 v19,pI 22 (w64 (x20.2+1))] [] trivial) ?_))
  exact lqn (v24,(w64 (x20.2+1))) h
 refine yrb (q_x (lq_x (b_x ?_)))
 have hyy:=hy_x20 _ (oi h).symm
 subst hyy
 have h:=hk_x20
 refine q_n ?_
 exact jx x20.1 h
theorem yhu {a0:(List Qp)} {a1:Bool}  {r:((List Qr)×Bool)} (h:yfg a0 a1=some r):Meets Tryz.prog 27 [.d false (sP a0),.v (.bool a1)] { vals:=[rO 38 eRt r.1,.p (.bool r.2)] }:=by
 refine mo Tryz.func27 [dP 0 a0,pB 1 a1] ?_
 unfold yfg at h
 refine kG [dP 0 a0,pB 1 a1] [] trivial ?_
 refine yeb ?_
 obtain⟨v1,hv1,h⟩:=bs h
 refine kG [dP 0 a0,pB 1 a1,pB 8 (!v1)] [hC 1 [.p (.bool v1)]] (A1 (yoh hv1)) ?_
 refine kI h (fun hc2_1 h=>?_) (fun hc2_1 h=>?_)
 ·refine kG [vN 4 38,pB 5 false] [] trivial ?_
  refine ypa (q_r ?_)
  obtain rfl:=oi h
  exact er [(.ov false (oN 38),4),(.p (.bool false),5)]
 refine yga (q_n ?_)
 obtain⟨v3,hv3,h⟩:=bs h
 refine kG [vL 4 38 eRt v3.1,pB 5 v3.2] [hC 2 [rO 38 eRt v3.1,.p (.bool v3.2)]] (A2 (yur hv3) (show List.all [rO 38 eRt v3.1,.p (.bool v3.2)] simpleR=true from(sa_o (wnR1 (yvc (wn_P wn_I wn_I)) rfl) (sa_p rfl)))) ?_
 refine ypa ?_
 obtain rfl:=oi h
 exact er [(.ov false [.sl (some 38) (v3.1.map eRt)],4),(.p (.bool v3.2),5)]
theorem yya1 {a0:(List Qr)} {a1:(List Qr)}  {r:Bool} (h:ygn a0 a1=some r):Meets Tryz.prog 28 [.d false [.sl none (a0.map eRt)],.d false [.sl none (a1.map eRt)]] { vals:=[.p (.bool r)] }:=by
 refine mo Tryz.func28 [dL 0 eRt a0,dL 1 eRt a1] ?_
 unfold ygn at h
 refine kG [dL 0 eRt a0,dL 1 eRt a1] [] trivial ?_
 refine yeb (kG [dL 0 eRt a0,dL 1 eRt a1,pB 10 ((a0.length:Int) != (a1.length:Int))] [hN 1 a0,hN 3 a1] (A2 (lF eRt a0) (lF eRt a1)) ?_)
 refine kI h (fun hc2_0 h=>?_) (fun hc2_0 h=>?_)
 ·refine kG [pB 4 false] [] trivial ?_
  refine ypa (q_r ?_)
  obtain rfl:=oi h
  exact er [(.p (.bool false),4)]
 refine yga (q_n (yjb (J:=fun (x:Unit)=>[]) (K:=fun x=>yjl x=some r) (fun x2 h=>?_) ?_))
 ·unfold yjl at h
  refine kG [pB 4 true] [] trivial ?_
  refine ypa ?_
  obtain rfl:=oi h
  exact er [(.p (.bool true),4)]
 refine kG [dL 0 eRt a0,dL 1 eRt a1,pL 12 a0,pI 13 0] [hN 1 a0] (A1 (lF eRt a0)) ?_
 refine yda ?_
 obtain⟨y4,hl_x3,hk_x3⟩:=bs h
 clear h
 refine yyb (J:=fun (x:Int)=>[dL 0 eRt a0,dL 1 eRt a1,pL 12 a0,pI 13 x]) hl_x3 wkk (fun x3 o_x3 h hy_x3=>?_)
 unfold ygf at h
 refine kG [dL 0 eRt a0,dL 1 eRt a1,pL 12 a0,pI 13 x3,pB 14 (decide (x3<(a0.length:Int)))] [] trivial ?_
 refine yeb (kI h (fun hc5_4 h=>?_) (fun hc5_4 h=>?_))
 ·refine yga (q_n (yeb (yda (kG [dL 0 eRt a0,dL 1 eRt a1,pI 5 x3,pL 12 a0,pI 13 x3] [] trivial ?_))))
  obtain⟨v6,hv6,h⟩:=bs h
  obtain⟨v7,hv7,h⟩:=bs h
  refine ynb (r_dq yfa 8 [] [dL 0 eRt a0,dL 1 eRt a1,pL 12 a0,pI 13 x3,pB 24 (nR v6 v7)] [hR 2 (eRt v6),hR 6 (eRt v7),(8,{pv:=some (.bool (nR v6 v7))})] (A5 (yba hv6).1 (yca eRt (yba hv6).2) (yba hv7).1 (yca eRt (yba hv7).2) (show PureAt Tryz.prog (.binOp .neq 38 (.tmp 19) (.tmp 23) 38) [vRt v6,vRt v7] (.bool (nR v6 v7)) from(yrf1 (by kernel_rfl))))) ?_
  refine kI h (fun hc6_7 h=>?_) (fun hc6_7 h=>?_)
  ·refine kG [pB 4 false] [] trivial ?_
   refine ypa (b_r (q_r (lq_r ?_)))
   refine b_r (q_r ?_)
   have hyy:=hy_x3 _ (oi h).symm
   subst hyy
   have h:=hk_x3
   dsimp only[Sum.elim] at h
   obtain rfl:=oi h
   exact er [(.p (.bool false),4)]
  refine yga (b_n (q_n (yhc (r_gq [dL 0 eRt a0,dL 1 eRt a1,pL 12 a0,pI 13 (w64 (x3+1))] [] trivial) ?_)))
  exact lqn (w64 (x3+1)) h
 refine yrb (q_x (lq_x (b_x ?_)))
 have hyy:=hy_x3 _ (oi h).symm
 subst hyy
 have h:=hk_x3
 dsimp only[Sum.elim] at h
 refine q_n ?_
 exact jx () h
theorem yaj {a0:(List Qr)} {a1:(Qr->Option Bool)} {F1:FuncId} (hp1:∀ x0 y,a1 x0=some y->Meets Tryz.prog F1 ([.v (vRt x0)]++[]) { vals:=[.p (.bool y)] }) {r:Int} (h:yva a0 a1=some r):Meets Tryz.prog 195 [.d false [.sl none (a0.map eRt)],.v (.func (.func F1) #[] #[])] { vals:=[.p (iV r)] }:=by
 refine mo Tryz.func195 [dL 0 eRt a0,(1,.p (.func (.func F1) #[] #[]))] ?_
 unfold yva at h
 refine kG [dL 0 eRt a0,(1,.p (.func (.func F1) #[] #[]))] [] trivial ?_
 refine yjb (J:=fun (x:Unit)=>[]) (K:=fun x=>yfb x=some r) (fun x1 h=>?_) ?_
 ·unfold yfb at h
  refine kG [pI 4 (-1)] [] trivial ?_
  refine ypa ?_
  obtain rfl:=oi h
  exact er [(.p (iV (-1)),4)]
 refine kG [dL 0 eRt a0,(1,.p (.func (.func F1) #[] #[])),pL 7 a0,pI 8 0] [hN 1 a0] (A1 (lF eRt a0)) ?_
 refine yda ?_
 obtain⟨y3,hl_x2,hk_x2⟩:=bs h
 clear h
 refine yyb (J:=fun (x:Int)=>[dL 0 eRt a0,(1,.p (.func (.func F1) #[] #[])),pL 7 a0,pI 8 x]) hl_x2 wkk (fun x2 o_x2 h hy_x2=>?_)
 unfold yza at h
 refine kG [dL 0 eRt a0,(1,.p (.func (.func F1) #[] #[])),pL 7 a0,pI 8 x2,pB 9 (decide (x2<(a0.length:Int)))] [] trivial ?_
 refine yeb (kI h (fun hc5_3 h=>?_) (fun hc5_3 h=>?_))
 ·refine yga (q_n (yeb (yda (kG [dL 0 eRt a0,(1,.p (.func (.func F1) #[] #[])),pI 5 x2,pL 7 a0,pI 8 x2] [] trivial ?_))))
  obtain⟨v5,hv5,h⟩:=bs h
  obtain⟨v6,hv6,h⟩:=bs h
  refine kG [dL 0 eRt a0,(1,.p (.func (.func F1) #[] #[])),pI 5 x2,pL 7 a0,pI 8 x2,pB 16 v6] [hR 3 (eRt v5),hC 5 [.p (.bool v6)]] (A3 (yba hv5).1 (yca eRt (yba hv5).2) (hp1 _ _ hv6)) ?_
  refine kI h (fun hc6_6 h=>?_) (fun hc6_6 h=>?_)
  ·refine kG [pI 4 x2] [] trivial ?_
   refine ypa (b_r (q_r (lq_r ?_)))
   refine b_r (q_r ?_)
   have hyy:=hy_x2 _ (oi h).symm
   subst hyy
   have h:=hk_x2
   dsimp only[Sum.elim] at h
   obtain rfl:=oi h
   exact er [(.p (iV x2),4)]
  refine yga (b_n (q_n (yhc (r_gq [dL 0 eRt a0,(1,.p (.func (.func F1) #[] #[])),pL 7 a0,pI 8 (w64 (x2+1))] [] trivial) ?_)))
  exact lqn (w64 (x2+1)) h
 refine yrb (q_x (lq_x (b_x ?_)))
 have hyy:=hy_x2 _ (oi h).symm
 subst hyy
 have h:=hk_x2
 dsimp only[Sum.elim] at h
 refine q_n ?_
 exact jx () h
theorem yxh {a0:(List Qr)} {a1:(Qr->Option Bool)} {F1:FuncId} (hp1:∀ x0 y,a1 x0=some y->Meets Tryz.prog F1 ([.v (vRt x0)]++[]) { vals:=[.p (.bool y)] }) {r:Bool} (h:yma a0 a1=some r):Meets Tryz.prog 156 [.d false [.sl none (a0.map eRt)],.v (.func (.func F1) #[] #[])] { vals:=[.p (.bool r)] }:=by
 refine mo Tryz.func156 [dL 0 eRt a0,(1,.p (.func (.func F1) #[] #[]))] ?_
 unfold yma at h
 refine kG [dL 0 eRt a0,(1,.p (.func (.func F1) #[] #[]))] [] trivial ?_
 obtain⟨v1,hv1,h⟩:=bs h
 refine kG [pB 4 (decide (v1>=0))] [hC 2 [.p (iV v1)]] (A1 (show Meets Tryz.prog 195 ([.d false [.sl none (a0.map eRt)],.v (.func (.func F1) #[] #[])]++[]) { vals:=[.p (iV v1)] } from(yaj hp1 hv1))) ?_
 refine ypa ?_
 obtain rfl:=oi h
 exact er [(.p (.bool (decide (v1>=0))),4)]
theorem ymz {a0:Qr}  {r:Bool} (h:yog a0=some r):Meets Tryz.prog 179 [.v (vRt a0)] { vals:=[.p (.bool r)] }:=by
 refine mo Tryz.func179 [(0,.p (vRt a0))] ?_
 unfold yog at h
 refine kG [bR 1 a0] [] trivial ?_
 obtain⟨v1,hv1,h⟩:=bs h
 refine kG [pB 2 (!v1)] [hC 1 [.p (.bool v1)]] (A1 (yuj hv1)) ?_
 refine ypa ?_
 obtain rfl:=oi h
 exact er [(.p (.bool (!v1)),2)]
theorem yrg {a0:(List Qr)}  {r:Bool} (h:yoj a0=some r):Meets Tryz.prog 126 [.d false [.sl none (a0.map eRt)]] { vals:=[.p (.bool r)] }:=by
 refine mo Tryz.func126 [dL 0 eRt a0] ?_
 unfold yoj at h
 refine kG [dL 0 eRt a0] [] trivial ?_
 obtain⟨v1,hv1,h⟩:=bs h
 refine kG [pB 2 (!v1)] [hC 1 [.p (.bool v1)]] (A1 (show Meets Tryz.prog 156 ([.d false [.sl none (a0.map eRt)],.v (.func (.func 179) #[] #[])]++[]) { vals:=[.p (.bool v1)] } from(yxh (fun x0 y hy=>ymz hy) hv1))) ?_
 refine ypa ?_
 obtain rfl:=oi h
 exact er [(.p (.bool (!v1)),2)]
theorem yhd {a0:(List Qr)}  {r:Bool} (h:yrc a0=some r):Meets Tryz.prog 94 [.d false [.sl none (a0.map eRt)]] { vals:=[.p (.bool r)] }:=by
 refine mo Tryz.func94 [dL 0 eRt a0] ?_
 unfold yrc at h
 refine kG [dL 0 eRt a0] [] trivial ?_
 obtain⟨v1,hv1,h⟩:=bs h
 obtain⟨w8,hw8,h⟩:=bs h
 refine ynb (l1:=[pB 2 w8]) ?_ ?_
 ·clear h
  rcases ft v1 with ha0 | ha0
  ·obtain⟨v2,hv2,hw8⟩:=bs (yjh ha0 hw8)
   rcases ft v2 with ha1 | ha1
   ·obtain⟨v3,hv3,hw8⟩:=bs (yjh ha1 hw8)
    rcases ft v3 with ha2 | ha2
    ·obtain⟨v4,hv4,hw8⟩:=bs (yjh ha2 hw8)
     obtain⟨v5,hv5,hw8⟩:=bs hw8
     rcases ft ((v4.1==v5.1)&&(v4.2==v5.2)) with ha3 | ha3
     ·obtain⟨v6,hv6,hw8⟩:=bs (yjh ha3 hw8)
      obtain⟨v7,hv7,hw8⟩:=bs hw8
      have hw8:=oi hw8
      subst hw8
      exact(r_dq yfa 26 [] [pB 2 ((v6.1==v7.1)&&(v6.2==v7.2))] [hN 1 a0,hC 2 [.p (.bool v1)],(4,gT),(5,{g:=some true,call:=some (none,[.p (.bool v2)],true)}),(6,bT),(8,gT),(9,{g:=some true,call:=some (none,[.p (.bool v3)],true)}),(10,bT),(12,gT),(13,{g:=some true,row:=some (eRt v4)}),(14,gT),(15,{g:=some true,call:=some (none,[.p (vRt v5)],true)}),(16,{g:=some true,pv:=some (.bool ((v4.1==v5.1)&&(v4.2==v5.2)))}),(17,bT),(19,gT),(20,gT),(21,{g:=some true,n:=some a0.length}),(22,gT),(23,{g:=some true,row:=some (eRt v6)}),(24,gT),(25,{g:=some true,call:=some (none,[.p (vRt v7)],true)}),(26,{g:=some true,pv:=some (.bool ((v6.1==v7.1)&&(v6.2==v7.2)))}),(27,bT)] (B6 (lF eRt a0) (ygb hv1) ha0 ha0 (yrg hv2) ha0 (B6 ha1 ha1 (ysm hv3) ha1 ha2 ha2 (B6 (yba hv4).1 (yca eRt (yba hv4).2) ha2 ha2 (yzi hv5) ha2 (B6 (show PureAt Tryz.prog (.binOp .eql 38 (.tmp 17) (.tmp 18) 38) [vRt v4,vRt v5] (.bool ((v4.1==v5.1)&&(v4.2==v5.2))) from(yrf (by kernel_rfl))) ha2 ha3 ha3 ha3 (lF eRt a0) (B6 ha3 ha3 (yba hv6).1 (yca eRt (yba hv6).2) ha3 ha3 (A4 (yzp hv7) ha3 (show PureAt Tryz.prog (.binOp .eql 38 (.tmp 27) (.tmp 28) 38) [vRt v6,vRt v7] (.bool ((v6.1==v7.1)&&(v6.2==v7.2))) from(yrf (by kernel_rfl))) ha3)))))))
     replace hw8:=ykh ha3 hw8
     have hw8:=oi hw8
     subst hw8
     exact(r_dq yfa 26 [] [pB 2 false] [hN 1 a0,hC 2 [.p (.bool v1)],(4,gT),(5,{g:=some true,call:=some (none,[.p (.bool v2)],true)}),(6,bT),(8,gT),(9,{g:=some true,call:=some (none,[.p (.bool v3)],true)}),(10,bT),(12,gT),(13,{g:=some true,row:=some (eRt v4)}),(14,gT),(15,{g:=some true,call:=some (none,[.p (vRt v5)],true)}),(16,{g:=some true,pv:=some (.bool ((v4.1==v5.1)&&(v4.2==v5.2)))}),(17,bT),(19,gF),(20,gF),(21,gF),(22,gF),(23,gF),(24,gF),(25,gF),(26,gF),(27,bF)] (B6 (lF eRt a0) (ygb hv1) ha0 ha0 (yrg hv2) ha0 (B6 ha1 ha1 (ysm hv3) ha1 ha2 ha2 (B6 (yba hv4).1 (yca eRt (yba hv4).2) ha2 ha2 (yzi hv5) ha2 (B6 (show PureAt Tryz.prog (.binOp .eql 38 (.tmp 17) (.tmp 18) 38) [vRt v4,vRt v5] (.bool ((v4.1==v5.1)&&(v4.2==v5.2))) from(yrf (by kernel_rfl))) ha2 ha3 ha3 ha3 ha3 (A5 ha3 ha3 ha3 ha3 ha3))))))
    replace hw8:=ykh ha2 hw8
    have hw8:=oi hw8
    subst hw8
    exact(r_dq yfa 26 [] [pB 2 false] [hN 1 a0,hC 2 [.p (.bool v1)],(4,gT),(5,{g:=some true,call:=some (none,[.p (.bool v2)],true)}),(6,bT),(8,gT),(9,{g:=some true,call:=some (none,[.p (.bool v3)],true)}),(10,bT),(12,gF),(13,gF),(14,gF),(15,gF),(16,gF),(17,bF),(19,gF),(20,gF),(21,gF),(22,gF),(23,gF),(24,gF),(25,gF),(26,gF),(27,bF)] (B6 (lF eRt a0) (ygb hv1) ha0 ha0 (yrg hv2) ha0 (B6 ha1 ha1 (ysm hv3) ha1 ha2 ha2 (B6 ha2 ha2 ha2 ha2 fF fF (B6 fF fF fF fF fF fF (A1 fF))))))
   replace hw8:=ykh ha1 hw8
   have hw8:=oi hw8
   subst hw8
   exact(r_dq yfa 26 [] [pB 2 false] [hN 1 a0,hC 2 [.p (.bool v1)],(4,gT),(5,{g:=some true,call:=some (none,[.p (.bool v2)],true)}),(6,bT),(8,gF),(9,gF),(10,bF),(12,gF),(13,gF),(14,gF),(15,gF),(16,gF),(17,bF),(19,gF),(20,gF),(21,gF),(22,gF),(23,gF),(24,gF),(25,gF),(26,gF),(27,bF)] (B6 (lF eRt a0) (ygb hv1) ha0 ha0 (yrg hv2) ha0 (B6 ha1 ha1 ha1 fF fF fF (B6 fF fF fF fF fF fF (A6 fF fF fF fF fF fF)))))
  replace hw8:=ykh ha0 hw8
  have hw8:=oi hw8
  subst hw8
  exact(r_dq yfa 26 [] [pB 2 false] [hN 1 a0,hC 2 [.p (.bool v1)],(4,gF),(5,gF),(6,bF),(8,gF),(9,gF),(10,bF),(12,gF),(13,gF),(14,gF),(15,gF),(16,gF),(17,bF),(19,gF),(20,gF),(21,gF),(22,gF),(23,gF),(24,gF),(25,gF),(26,gF),(27,bF)] (B6 (lF eRt a0) (ygb hv1) ha0 ha0 ha0 fF (B6 fF fF fF fF fF fF (B6 fF fF fF fF fF fF (A5 fF fF fF fF fF)))))
 refine ypa ?_
 obtain rfl:=oi h
 exact er [(.p (.bool w8),2)]
theorem ybj {a0:(List Qr)} {a1:(Qr->Option Bool)} {F1:FuncId} {K1:List (Bool×List C)} (hp1:∀ x0 y,a1 x0=some y->Meets Tryz.prog F1 ([.v (vRt x0)]++(K1.map fun (g,cs)=>mkA g cs)) { vals:=[.p (.bool y)] }) {r:Int} (h:yva a0 a1=some r):Meets Tryz.prog 195 [.d false [.sl none (a0.map eRt)],.d false [.fn F1 K1]] { vals:=[.p (iV r)] }:=by
 refine mo Tryz.func195 [dL 0 eRt a0,(1,.d false [.fn F1 K1])] ?_
 unfold yva at h
 refine kG [dL 0 eRt a0,(1,.d false [.fn F1 K1])] [] trivial ?_
 refine yjb (J:=fun (x:Unit)=>[]) (K:=fun x=>yfb x=some r) (fun x1 h=>?_) ?_
 ·unfold yfb at h
  refine kG [pI 4 (-1)] [] trivial ?_
  refine ypa ?_
  obtain rfl:=oi h
  exact er [(.p (iV (-1)),4)]
 refine kG [dL 0 eRt a0,(1,.d false [.fn F1 K1]),pL 7 a0,pI 8 0] [hN 1 a0] (A1 (lF eRt a0)) ?_
 refine yda ?_
 obtain⟨y3,hl_x2,hk_x2⟩:=bs h
 clear h
 refine yyb (J:=fun (x:Int)=>[dL 0 eRt a0,(1,.d false [.fn F1 K1]),pL 7 a0,pI 8 x]) hl_x2 wkk (fun x2 o_x2 h hy_x2=>?_)
 unfold yza at h
 refine kG [dL 0 eRt a0,(1,.d false [.fn F1 K1]),pL 7 a0,pI 8 x2,pB 9 (decide (x2<(a0.length:Int)))] [] trivial ?_
 refine yeb (kI h (fun hc5_3 h=>?_) (fun hc5_3 h=>?_))
 ·refine yga (q_n (yeb (yda (kG [dL 0 eRt a0,(1,.d false [.fn F1 K1]),pI 5 x2,pL 7 a0,pI 8 x2] [] trivial ?_))))
  obtain⟨v5,hv5,h⟩:=bs h
  obtain⟨v6,hv6,h⟩:=bs h
  refine kG [dL 0 eRt a0,(1,.d false [.fn F1 K1]),pI 5 x2,pL 7 a0,pI 8 x2,pB 16 v6] [hR 3 (eRt v5),hC 5 [.p (.bool v6)]] (A3 (yba hv5).1 (yca eRt (yba hv5).2) (hp1 _ _ hv6)) ?_
  refine kI h (fun hc6_6 h=>?_) (fun hc6_6 h=>?_)
  ·refine kG [pI 4 x2] [] trivial ?_
   refine ypa (b_r (q_r (lq_r ?_)))
   refine b_r (q_r ?_)
   have hyy:=hy_x2 _ (oi h).symm
   subst hyy
   have h:=hk_x2
   dsimp only[Sum.elim] at h
   obtain rfl:=oi h
   exact er [(.p (iV x2),4)]
  refine yga (b_n (q_n (yhc (r_gq [dL 0 eRt a0,(1,.d false [.fn F1 K1]),pL 7 a0,pI 8 (w64 (x2+1))] [] trivial) ?_)))
  exact lqn (w64 (x2+1)) h
 refine yrb (q_x (lq_x (b_x ?_)))
 have hyy:=hy_x2 _ (oi h).symm
 subst hyy
 have h:=hk_x2
 dsimp only[Sum.elim] at h
 refine q_n ?_
 exact jx () h
theorem yyh {a0:(List Qr)} {a1:(Qr->Option Bool)} {F1:FuncId} {K1:List (Bool×List C)} (hp1:∀ x0 y,a1 x0=some y->Meets Tryz.prog F1 ([.v (vRt x0)]++(K1.map fun (g,cs)=>mkA g cs)) { vals:=[.p (.bool y)] }) {r:Bool} (h:yma a0 a1=some r):Meets Tryz.prog 156 [.d false [.sl none (a0.map eRt)],.d false [.fn F1 K1]] { vals:=[.p (.bool r)] }:=by
 refine mo Tryz.func156 [dL 0 eRt a0,(1,.d false [.fn F1 K1])] ?_
 unfold yma at h
 refine kG [dL 0 eRt a0,(1,.d false [.fn F1 K1])] [] trivial ?_
 obtain⟨v1,hv1,h⟩:=bs h
 refine kG [pB 4 (decide (v1>=0))] [hC 2 [.p (iV v1)]] (A1 (show Meets Tryz.prog 195 ([.d false [.sl none (a0.map eRt)],.d false [.fn F1 K1]]++[]) { vals:=[.p (iV v1)] } from(ybj hp1 hv1))) ?_
 refine ypa ?_
 obtain rfl:=oi h
 exact er [(.p (.bool (decide (v1>=0))),4)]
theorem ytm {a0:(List Qr)} {a1:Qr}  {r:Int} (h:yzb a0 a1=some r):Meets Tryz.prog 196 [.d false [.sl none (a0.map eRt)],.v (vRt a1)] { vals:=[.p (iV r)] }:=by
 refine mo Tryz.func196 [dL 0 eRt a0,(1,.p (vRt a1))] ?_
 unfold yzb at h
 refine kG [dL 0 eRt a0,bR 3 a1] [] trivial ?_
 refine yjb (J:=fun (x:Unit)=>[]) (K:=fun x=>yjd x=some r) (fun x1 h=>?_) ?_
 ·unfold yjd at h
  refine kG [pI 4 (-1)] [] trivial ?_
  refine ypa ?_
  obtain rfl:=oi h
  exact er [(.p (iV (-1)),4)]
 refine kG [dL 0 eRt a0,bR 3 a1,pL 7 a0,pI 8 0] [hN 1 a0] (A1 (lF eRt a0)) ?_
 refine yda ?_
 obtain⟨y3,hl_x2,hk_x2⟩:=bs h
 clear h
 refine yyb (J:=fun (x:Int)=>[dL 0 eRt a0,bR 3 a1,pL 7 a0,pI 8 x]) hl_x2 wkk (fun x2 o_x2 h hy_x2=>?_)
 unfold yob at h
 refine kG [dL 0 eRt a0,bR 3 a1,pL 7 a0,pI 8 x2,pB 9 (decide (x2<(a0.length:Int)))] [] trivial ?_
 refine yeb (kI h (fun hc5_3 h=>?_) (fun hc5_3 h=>?_))
 ·refine yga (q_n (yeb (yda (kG [dL 0 eRt a0,bR 3 a1,pI 5 x2,pL 7 a0,pI 8 x2] [] trivial ?_))))
  obtain⟨v5,hv5,h⟩:=bs h
  refine ynb (r_dq yfa 5 [] [dL 0 eRt a0,bR 3 a1,pI 5 x2,pL 7 a0,pI 8 x2,pB 16 ((a1.1==v5.1)&&(a1.2==v5.2))] [hR 3 (eRt v5),(5,{pv:=some (.bool ((a1.1==v5.1)&&(a1.2==v5.2)))})] (A3 (yba hv5).1 (yca eRt (yba hv5).2) (show PureAt Tryz.prog (.binOp .eql 38 (.tmp 11) (.tmp 15) 38) [vRt a1,vRt v5] (.bool ((a1.1==v5.1)&&(a1.2==v5.2))) from(yrf (by kernel_rfl))))) ?_
  refine kI h (fun hc6_5 h=>?_) (fun hc6_5 h=>?_)
  ·refine kG [pI 4 x2] [] trivial ?_
   refine ypa (b_r (q_r (lq_r ?_)))
   refine b_r (q_r ?_)
   have hyy:=hy_x2 _ (oi h).symm
   subst hyy
   have h:=hk_x2
   dsimp only[Sum.elim] at h
   obtain rfl:=oi h
   exact er [(.p (iV x2),4)]
  refine yga (b_n (q_n (yhc (r_gq [dL 0 eRt a0,bR 3 a1,pL 7 a0,pI 8 (w64 (x2+1))] [] trivial) ?_)))
  exact lqn (w64 (x2+1)) h
 refine yrb (q_x (lq_x (b_x ?_)))
 have hyy:=hy_x2 _ (oi h).symm
 subst hyy
 have h:=hk_x2
 dsimp only[Sum.elim] at h
 refine q_n ?_
 exact jx () h
theorem yqk {a0:(List Qr)} {a1:Qr}  {r:Bool} (h:ypb a0 a1=some r):Meets Tryz.prog 158 [.d false [.sl none (a0.map eRt)],.v (vRt a1)] { vals:=[.p (.bool r)] }:=by
 refine mo Tryz.func158 [dL 0 eRt a0,(1,.p (vRt a1))] ?_
 unfold ypb at h
 refine kG [dL 0 eRt a0,bR 3 a1] [] trivial ?_
 obtain⟨v1,hv1,h⟩:=bs h
 refine kG [pB 4 (decide (v1>=0))] [hC 2 [.p (iV v1)]] (A1 (ytm hv1)) ?_
 refine ypa ?_
 obtain rfl:=oi h
 exact er [(.p (.bool (decide (v1>=0))),4)]
theorem yza1 {a0:Qr} {c0:(List Qr)}  {r:Bool} (h:ymn a0 c0=some r):Meets Tryz.prog 157 [.v (vRt a0),.d false [.pt [.sl none (c0.map eRt)]]] { vals:=[.p (.bool r)] }:=by
 refine mo Tryz.func157 [(0,.p (vRt a0)),(1,.d false [.pt [.sl none (c0.map eRt)]])] ?_
 unfold ymn at h
 refine kG [(1,.d false [.pt [.sl none (c0.map eRt)]]),bR 2 a0] [] trivial ?_
 obtain⟨v1,hv1,h⟩:=bs h
 refine kG [pB 3 (!v1)] [hC 2 [.p (.bool v1)]] (A1 (yqk hv1)) ?_
 refine ypa ?_
 obtain rfl:=oi h
 exact er [(.p (.bool (!v1)),3)]
theorem yis {a0:(List Qr)} {a1:(List Qr)}  {r:Bool} (h:yvl a0 a1=some r):Meets Tryz.prog 89 [.d false [.sl none (a0.map eRt)],.d false [.sl none (a1.map eRt)]] { vals:=[.p (.bool r)] }:=by
 refine mo Tryz.func89 [dL 0 eRt a0,dL 1 eRt a1] ?_
 unfold yvl at h
 refine kG [dL 1 eRt a1,bX 2 [.sl none (a0.map eRt)]] [] trivial ?_
 refine yib2 2 [.sl none (a0.map eRt)] [.sl none (a0.map eRt)] [dL 1 eRt a1,(2,.d false [.pt [.sl none (a0.map eRt)]])] (by kernel_rfl) (yqf (yka (ywt er_I er_I)) rfl) (by kernel_rfl) (by kernel_rfl) ?_
 obtain⟨v1,hv1,h⟩:=bs h
 refine kG [pB 4 (!v1)] [hC 2 [.p (.bool v1)]] (A1 (show Meets Tryz.prog 156 ([.d false [.sl none (a1.map eRt)],.d false [.fn 157 [(false,[.pt [.sl none (a0.map eRt)]])]]]++[]) { vals:=[.p (.bool v1)] } from(yyh (fun x0 y hy=>yza1 hy) hv1))) ?_
 refine ypa ?_
 obtain rfl:=oi h
 exact er [(.p (.bool (!v1)),4)]
theorem yut {a0:(List Qp)} {a1:(List Qr)}  {r:(Bool×Bool)} (h:yud a0 a1=some r):Meets Tryz.prog 88 [.d false (sP a0),.d false [.sl none (a1.map eRt)]] { vals:=[.p (.bool r.1),.p (.bool r.2)] }:=by
 refine mo Tryz.func88 [dP 0 a0,dL 1 eRt a1] ?_
 unfold yud at h
 refine kG [dP 0 a0,dL 1 eRt a1] [] trivial ?_
 refine yeb ?_
 obtain⟨v1,hv1,h⟩:=bs h
 obtain⟨w3,hw3,h⟩:=bs h
 refine ynb (l1:=[dP 0 a0,dL 1 eRt a1,pB 15 w3]) ?_ ?_
 ·clear h
  rcases ft (!v1) with ha0 | ha0
  ·replace hw3:=yjh ha0 hw3
   have hw3:=oi hw3
   subst hw3
   exact(r_gq [dP 0 a0,dL 1 eRt a1,pB 15 true] [hC 1 [.p (.bool v1)],(4,gT),(5,gT),(6,gT),(7,bT)] (A5 (ysf hv1) ha0 ha0 ha0 ha0))
  obtain⟨v2,hv2,hw3⟩:=bs (ykh ha0 hw3)
  have hw3:=oi hw3
  subst hw3
  exact(r_gq [dP 0 a0,dL 1 eRt a1,pB 15 (!v2)] [hC 1 [.p (.bool v1)],(4,gF),(5,(gN [.p (.bool v2)])),(6,gF),(7,bF)] (A6 (ysf hv1) ha0 ha0 (yhd hv2) ha0 ha0))
 refine kI h (fun hc2_3 h=>?_) (fun hc2_3 h=>?_)
 ·refine kG [pB 4 false,pB 5 false] [] trivial ?_
  refine ypa (q_r ?_)
  obtain rfl:=oi h
  exact er [(.p (.bool false),4),(.p (.bool false),5)]
 refine yga (q_n (kG [dP 0 a0,dL 1 eRt a1,bX 6 [.raw (.bool false)]] [] trivial ?_))
 obtain⟨v5,hv5,h⟩:=bs h
 obtain⟨v6,hv6,h⟩:=bs h
 refine kG [bX 6 [.raw (.bool v5.2)],pB 7 v6] [hT 3 [rO 38 eRt v5.1] (.box [.raw (.bool v5.2)]),(4,(cS [.d false [.sl none (a1.map eRt)],.d false [.sl none (v5.1.map eRt)]] [.p (.bool v6)]))] (A4 (ytr hv5) (show(List.all [rO 38 eRt v5.1] simpleR&&wnS (.box [.raw (.bool v5.2)]))=true from(ls_t (sa_o (wnR1 (yvc (wn_P wn_I wn_I)) rfl) rfl) (wnc rfl))) (show([.d false [.sl none (a1.map eRt)],.d false [.sl none (eraL (v5.1.map eRt))]]:List Arg)=[.d false [.sl none (a1.map eRt)],.d false [.sl none (v5.1.map eRt)]] from(by simp only[yka (h:=eRt) (ywt er_I er_I)])) (yis hv6)) ?_
 refine yeb (kG [pB 7 v6,pB 22 v5.2] [] trivial ?_)
 refine kI h (fun hc2_6 h=>?_) (fun hc2_6 h=>?_)
 ·refine kG [pB 4 false,pB 5 false] [] trivial ?_
  refine ypa (q_r ?_)
  obtain rfl:=oi h
  exact er [(.p (.bool false),4),(.p (.bool false),5)]
 refine yga (q_n (kG [pB 4 v6,pB 5 true] [] trivial ?_))
 refine ypa ?_
 obtain rfl:=oi h
 exact er [(.p (.bool v6),4),(.p (.bool true),5)]
theorem yiu {a0:(List Qp)} {a1:(List Qr)}  {r:(Bool×Bool)} (h:yfe a0 a1=some r):Meets Tryz.prog 29 [.d false (sP a0),.d false [.sl none (a1.map eRt)]] { vals:=[.p (.bool r.1),.p (.bool r.2)] }:=by
 refine mo Tryz.func29 [dP 0 a0,dL 1 eRt a1] ?_
 unfold yfe at h
 refine kG [dP 0 a0,dL 1 eRt a1] [] trivial ?_
 obtain⟨v1,hv1,h⟩:=bs h
 refine kG [dP 0 a0,dL 1 eRt a1,pB 6 v1.1,pB 7 v1.2] [hC 2 [.p (.bool v1.1),.p (.bool v1.2)]] (A1 (yut hv1)) ?_
 obtain⟨w4,hw4,h⟩:=bs h
 refine ynb (l1:=[pB 4 w4,pB 5 v1.2]) ?_ ?_
 ·clear h
  rcases ft v1.1 with ha0 | ha0
  ·obtain⟨v2,hv2,hw4⟩:=bs (yjh ha0 hw4)
   obtain⟨v3,hv3,hw4⟩:=bs hw4
   have hw4:=oi hw4
   subst hw4
   exact(r_gq [pB 4 v3,pB 5 v1.2] [(2,gT),(3,gT),(4,{g:=some true,call:=some (none,[rO 38 eRt v2],true)}),(5,{g:=some true,call:=some (some [.d false [.sl none (a1.map eRt)],.d false [.sl none (v2.map eRt)]],[.p (.bool v3)],true)}),(6,bT)] (B6 ha0 ha0 ha0 (yoa1 hv2) (sR' 38 v2) ha0 (A3 (show([.d false [.sl none (a1.map eRt)],.d false [.sl none (eraL (v2.map eRt))]]:List Arg)=[.d false [.sl none (a1.map eRt)],.d false [.sl none (v2.map eRt)]] from(by simp only[yka (h:=eRt) (ywt er_I er_I)])) (yis hv3) ha0)))
  replace hw4:=ykh ha0 hw4
  have hw4:=oi hw4
  subst hw4
  exact(r_gq [pB 4 false,pB 5 v1.2] [(2,gF),(3,gF),(4,gF),(5,gF),(6,bF)] (A5 ha0 ha0 ha0 ha0 ha0))
 refine ypa ?_
 obtain rfl:=oi h
 exact er [(.p (.bool w4),4),(.p (.bool v1.2),5)]
theorem ygp {a0:(List Qp)} {a1:(List Qr)}  {r:(Bool×Bool)} (h:yxb a0 a1=some r):Meets Tryz.prog 30 [.d false (sP a0),.d false [.sl none (a1.map eRt)]] { vals:=[.p (.bool r.1),.p (.bool r.2)] }:=by
 refine mo Tryz.func30 [dP 0 a0,dL 1 eRt a1] ?_
 unfold yxb at h
 refine kG [dP 0 a0,dL 1 eRt a1] [] trivial ?_
 obtain⟨v1,hv1,h⟩:=bs h
 refine kG [dP 0 a0,dL 1 eRt a1,pB 6 v1.1,pB 7 v1.2] [hC 2 [.p (.bool v1.1),.p (.bool v1.2)]] (A1 (yut hv1)) ?_
 obtain⟨w5,hw5,h⟩:=bs h
 refine ynb (l1:=[pB 4 w5,pB 5 v1.2]) ?_ ?_
 ·clear h
  rcases ft v1.1 with ha0 | ha0
  ·obtain⟨v2,hv2,hw5⟩:=bs (yjh ha0 hw5)
   obtain⟨v3,hv3,hw5⟩:=bs hw5
   obtain⟨v4,hv4,hw5⟩:=bs hw5
   have hw5:=oi hw5
   subst hw5
   exact(r_gq [pB 4 v4,pB 5 v1.2] [(2,gT),(3,gT),(4,{g:=some true,call:=some (none,[.ov false (oP 96 v2)],true)}),(5,{g:=some true,call:=some (some [.d false (sP v2)],[rO 38 eRt v3],true)}),(6,{g:=some true,call:=some (some [.d false [.sl none (a1.map eRt)],.d false [.sl none (v3.map eRt)]],[.p (.bool v4)],true)}),(7,bT)] (B6 ha0 ha0 ha0 (yux hv2) (show List.all [.ov false (oP 96 v2)] simpleR=true from(sa_o (wnR1 (yvc (wn_P (wn_P wn_I wn_I) (wn_P wn_I wn_I))) rfl) rfl)) ha0 (B6 (show([.d false [.sl none (eraL (v2.map ePt))]]:List Arg)=[.d false (sP v2)] from(by simp only[erPt])) (yrw hv3) (sR' 38 v3) ha0 (show([.d false [.sl none (a1.map eRt)],.d false [.sl none (eraL (v3.map eRt))]]:List Arg)=[.d false [.sl none (a1.map eRt)],.d false [.sl none (v3.map eRt)]] from(by simp only[yka (h:=eRt) (ywt er_I er_I)])) (yis hv4) (A1 ha0))))
  replace hw5:=ykh ha0 hw5
  have hw5:=oi hw5
  subst hw5
  exact(r_gq [pB 4 false,pB 5 v1.2] [(2,gF),(3,gF),(4,gF),(5,gF),(6,gF),(7,bF)] (A6 ha0 ha0 ha0 ha0 ha0 ha0))
 refine ypa ?_
 obtain rfl:=oi h
 exact er [(.p (.bool w5),4),(.p (.bool v1.2),5)]
theorem ylt {a0:(List Qr)}  {r:Bool} (h:ylm a0=some r):Meets Tryz.prog 101 [.d false [.sl none (a0.map eRt)]] { vals:=[.p (.bool r)] }:=by
 refine mo Tryz.func101 [dL 0 eRt a0] ?_
 unfold ylm at h
 refine kG [dL 0 eRt a0] [] trivial ?_
 refine yeb ?_
 obtain⟨v1,hv1,h⟩:=bs h
 refine kG [dL 0 eRt a0,pB 8 (!v1)] [hN 1 a0,hC 2 [.p (.bool v1)]] (A2 (lF eRt a0) (yhg hv1)) ?_
 refine kI h (fun hc2_1 h=>?_) (fun hc2_1 h=>?_)
 ·refine kG [pB 2 false] [] trivial ?_
  refine ypa (q_r ?_)
  obtain rfl:=oi h
  exact er [(.p (.bool false),2)]
 refine yga (q_n (yjb (J:=fun (x:Unit)=>[dL 0 eRt a0]) (K:=fun x=>yfq a0 x=some r) (fun x3 h=>?_) ?_))
 ·unfold yfq at h
  obtain⟨v4,hv4,h⟩:=bs h
  obtain⟨v5,hv5,h⟩:=bs h
  obtain⟨w8,hw8,h⟩:=bs h
  refine ynb (l1:=[pB 2 w8]) ?_ ?_
  ·clear h
   rcases ft ((v4.1==v5.1)&&(v4.2==v5.2)) with ha1 | ha1
   ·obtain⟨v6,hv6,hw8⟩:=bs (yjh ha1 hw8)
    obtain⟨v7,hv7,hw8⟩:=bs hw8
    have hw8:=oi hw8
    subst hw8
    exact(r_dq yfa 13 [] [pB 2 ((v6.1==v7.1)&&(v6.2==v7.2))] [hR 1 (eRt v4),hC 3 [.p (vRt v5)],(4,{pv:=some (.bool ((v4.1==v5.1)&&(v4.2==v5.2)))}),(6,gT),(7,gT),(8,{g:=some true,n:=some a0.length}),(9,gT),(10,{g:=some true,row:=some (eRt v6)}),(11,gT),(12,{g:=some true,call:=some (none,[.p (vRt v7)],true)}),(13,{g:=some true,pv:=some (.bool ((v6.1==v7.1)&&(v6.2==v7.2)))}),(14,bT)] (B6 (yba hv4).1 (yca eRt (yba hv4).2) (yhb hv5) (show PureAt Tryz.prog (.binOp .eql 38 (.tmp 36) (.tmp 37) 38) [vRt v4,vRt v5] (.bool ((v4.1==v5.1)&&(v4.2==v5.2))) from(yrf (by kernel_rfl))) ha1 ha1 (B6 ha1 (lF eRt a0) ha1 ha1 (yba hv6).1 (yca eRt (yba hv6).2) (A6 ha1 ha1 (yhb hv7) ha1 (show PureAt Tryz.prog (.binOp .eql 38 (.tmp 45) (.tmp 46) 38) [vRt v6,vRt v7] (.bool ((v6.1==v7.1)&&(v6.2==v7.2))) from(yrf (by kernel_rfl))) ha1))))
   replace hw8:=ykh ha1 hw8
   have hw8:=oi hw8
   subst hw8
   exact(r_dq yfa 13 [] [pB 2 false] [hR 1 (eRt v4),hC 3 [.p (vRt v5)],(4,{pv:=some (.bool ((v4.1==v5.1)&&(v4.2==v5.2)))}),(6,gF),(7,gF),(8,gF),(9,gF),(10,gF),(11,gF),(12,gF),(13,gF),(14,bF)] (B6 (yba hv4).1 (yca eRt (yba hv4).2) (yhb hv5) (show PureAt Tryz.prog (.binOp .eql 38 (.tmp 36) (.tmp 37) 38) [vRt v4,vRt v5] (.bool ((v4.1==v5.1)&&(v4.2==v5.2))) from(yrf (by kernel_rfl))) ha1 ha1 (B6 ha1 ha1 ha1 ha1 ha1 ha1 (A1 ha1))))
  refine ypa ?_
  obtain rfl:=oi h
  exact er [(.p (.bool w8),2)]
 refine kG [dL 0 eRt a0,dL 9 eRt a0,pL 10 a0,pI 11 0] [hN 1 a0] (A1 (lF eRt a0)) ?_
 refine yda ?_
 obtain⟨y10,hl_x9,hk_x9⟩:=bs h
 clear h
 refine yyb (J:=fun (x:Int)=>[dL 0 eRt a0,dL 9 eRt a0,pL 10 a0,pI 11 x]) hl_x9 wkk (fun x9 o_x9 h hy_x9=>?_)
 unfold ynn at h
 refine kG [dL 0 eRt a0,dL 9 eRt a0,pL 10 a0,pI 11 x9,pB 12 (decide (x9<(a0.length:Int)))] [] trivial ?_
 refine yeb (kI h (fun hc5_10 h=>?_) (fun hc5_10 h=>?_))
 ·refine yga (q_n (yeb (yda ?_)))
  obtain⟨v12,hv12,h⟩:=bs h
  refine kG [dL 0 eRt a0,pI 3 x9,bR 4 v12,dL 9 eRt a0,pL 10 a0,pI 11 x9] [hR 1 (eRt v12)] (A2 (yba hv12).1 (yca eRt (yba hv12).2)) ?_
  obtain⟨v13,hv13,h⟩:=bs h
  obtain⟨w16,hw16,h⟩:=bs h
  refine ynb (l1:=[dL 0 eRt a0,dL 9 eRt a0,pL 10 a0,pI 11 x9,pB 32 w16]) ?_ ?_
  ·clear h
   rcases ft (!v13) with ha2 | ha2
   ·replace hw16:=yjh ha2 hw16
    have hw16:=oi hw16
    subst hw16
    exact(r_dq yfa 13 [] [dL 0 eRt a0,dL 9 eRt a0,pL 10 a0,pI 11 x9,pB 32 true] [hC 1 [.p (.bool v13)],(4,gT),(5,gT),(6,gT),(15,gT),(16,bT)] (A6 (ybe hv13) ha2 ha2 ha2 ha2 ha2))
   replace hw16:=ykh ha2 hw16
   rcases ft (decide (x9>0)) with ha3 | ha3
   ·obtain⟨v14,hv14,hw16⟩:=bs (yjh ha3 hw16)
    obtain⟨v15,hv15,hw16⟩:=bs hw16
    have hw16:=oi hw16
    subst hw16
    exact(r_dq yfa 13 [] [dL 0 eRt a0,dL 9 eRt a0,pL 10 a0,pI 11 x9,pB 32 (decide (v15>=0))] [hC 1 [.p (.bool v13)],(4,gF),(5,gF),(6,gF),(7,gT),(8,gT),(9,gT),(10,{g:=some true,row:=some (eRt v14)}),(11,gT),(12,gT),(13,{g:=some true,call:=some (none,[.p (iV v15)],true)}),(14,gT),(15,gFbT),(16,bF)] (B6 (ybe hv13) ha2 ha2 ha2 ha3 ha3 (B6 ha3 ha3 (yba hv14).1 (yca eRt (yba hv14).2) ha3 ha3 (A6 ha3 (yde hv15) ha3 ha2 ha3 ha2))))
   replace hw16:=ykh ha3 hw16
   have hw16:=oi hw16
   subst hw16
   exact(r_dq yfa 13 [] [dL 0 eRt a0,dL 9 eRt a0,pL 10 a0,pI 11 x9,pB 32 false] [hC 1 [.p (.bool v13)],(4,gF),(5,gF),(6,gF),(7,gF),(8,gF),(9,gF),(10,gF),(11,gF),(12,gF),(13,gF),(14,gF),(15,gFbF),(16,bF)] (B6 (ybe hv13) ha2 ha2 ha2 ha3 ha3 (B6 ha3 ha3 ha3 ha3 ha3 ha3 (A3 ha2 ha3 ha2))))
  refine kI h (fun hc6_16 h=>?_) (fun hc6_16 h=>?_)
  ·refine kG [pB 2 false] [] trivial ?_
   refine ypa (b_r (q_r (lq_r ?_)))
   refine b_r (q_r ?_)
   have hyy:=hy_x9 _ (oi h).symm
   subst hyy
   have h:=hk_x9
   dsimp only[Sum.elim] at h
   obtain rfl:=oi h
   exact er [(.p (.bool false),2)]
  refine yga (b_n (q_n (yhc (r_gq [dL 0 eRt a0,dL 9 eRt a0,pL 10 a0,pI 11 (w64 (x9+1))] [] trivial) ?_)))
  exact lqn (w64 (x9+1)) h
 refine yrb (q_x (lq_x (b_x ?_)))
 have hyy:=hy_x9 _ (oi h).symm
 subst hyy
 have h:=hk_x9
 dsimp only[Sum.elim] at h
 refine q_n ?_
 exact jx () h
theorem yjg {a0:(List Qp)} {a1:(List Qr)}  {r:Bool} (h:yqd a0 a1=some r):Meets Tryz.prog 90 [.d false (sP a0),.d false [.sl none (a1.map eRt)]] { vals:=[.p (.bool r)] }:=by
 refine mo Tryz.func90 [dP 0 a0,dL 1 eRt a1] ?_
 unfold yqd at h
 refine kG [dP 0 a0,dL 1 eRt a1] [] trivial ?_
 obtain⟨v1,hv1,h⟩:=bs h
 obtain⟨w3,hw3,h⟩:=bs h
 refine ynb (l1:=[pB 4 w3]) ?_ ?_
 ·clear h
  rcases ft v1 with ha0 | ha0
  ·obtain⟨v2,hv2,hw3⟩:=bs (yjh ha0 hw3)
   have hw3:=oi hw3
   subst hw3
   exact(r_gq [pB 4 v2] [hC 1 [.p (.bool v1)],(3,gT),(4,{g:=some true,call:=some (none,[.p (.bool v2)],true)}),(5,bT)] (A5 (yoh hv1) ha0 ha0 (ylt hv2) ha0))
  replace hw3:=ykh ha0 hw3
  have hw3:=oi hw3
  subst hw3
  exact(r_gq [pB 4 false] [hC 1 [.p (.bool v1)],(3,gF),(4,gF),(5,bF)] (A4 (yoh hv1) ha0 ha0 ha0))
 refine ypa ?_
 obtain rfl:=oi h
 exact er [(.p (.bool w3),4)]
theorem yju {a0:(List Qp)} {a1:(List Qr)}  {r:((List Int)×Bool)} (h:ymm a0 a1=some r):Meets Tryz.prog 160 [.d false (sP a0),.d false [.sl none (a1.map eRt)]] { vals:=[rO 3 eI r.1,.p (.bool r.2)] }:=by
 refine mo Tryz.func160 [dP 0 a0,dL 1 eRt a1] ?_
 unfold ymm at h
 refine kG [dP 0 a0,dL 1 eRt a1] [] trivial ?_
 refine kG [dP 0 a0,dL 1 eRt a1,vN 6 3] [] trivial ?_
 refine yjb (J:=fun (x:(List Int))=>[vL 6 3 eI x]) (K:=fun x=>ykr x=some r) (fun x1 h=>?_) ?_
 ·unfold ykr at h
  refine kG [vL 4 3 eI x1,pB 5 true] [] trivial ?_
  refine ypa ?_
  obtain rfl:=oi h
  exact er [(.ov false [.sl (some 3) (x1.map eI)],4),(.p (.bool true),5)]
 refine kG [dP 0 a0,dL 1 eRt a1,vN 6 3,dL 11 eRt a1,pL 12 a1,pI 13 0] [hN 1 a1] (A1 (lF eRt a1)) ?_
 refine yda ?_
 obtain⟨y3,hl_x2,hk_x2⟩:=bs h
 clear h
 refine yyb (J:=fun (x:((List Int)×Int))=>[dP 0 a0,dL 1 eRt a1,vL 6 3 eI x.1,dL 11 eRt a1,pL 12 a1,pI 13 x.2]) hl_x2 wkk (fun x2 o_x2 h hy_x2=>?_)
 unfold ylr at h
 refine kG [dP 0 a0,dL 1 eRt a1,vL 6 3 eI x2.1,dL 11 eRt a1,pL 12 a1,pI 13 x2.2,pB 14 (decide (x2.2<(a1.length:Int)))] [] trivial ?_
 refine yeb (kI h (fun hc5_3 h=>?_) (fun hc5_3 h=>?_))
 ·refine yga (q_n (yeb (yda ?_)))
  obtain⟨v5,hv5,h⟩:=bs h
  refine kG [dP 0 a0,dL 1 eRt a1,vL 6 3 eI x2.1,bR 8 v5,dL 11 eRt a1,pL 12 a1,pI 13 x2.2] [hR 0 (eRt v5)] (A2 (yba hv5).1 (yca eRt (yba hv5).2)) ?_
  obtain⟨v6,hv6,h⟩:=bs h
  refine kG [dP 0 a0,dL 1 eRt a1,vL 6 3 eI x2.1,bR 9 v6.1,pB 10 v6.2,dL 11 eRt a1,pL 12 a1,pI 13 x2.2] [hC 2 [.p (vRt v6.1),.p (.bool v6.2)]] (A1 (yjt hv6)) ?_
  refine yeb (kG [dP 0 a0,dL 1 eRt a1,vL 6 3 eI x2.1,bR 9 v6.1,dL 11 eRt a1,pL 12 a1,pI 13 x2.2,pB 24 (!v6.2)] [] trivial ?_)
  refine kI h (fun hc7_6 h=>?_) (fun hc7_6 h=>?_)
  ·refine kG [vN 4 3,pB 5 false] [] trivial ?_
   refine ypa (q_r (b_r (q_r (lq_r ?_))))
   refine b_r (q_r ?_)
   have hyy:=hy_x2 _ (oi h).symm
   subst hyy
   have h:=hk_x2
   dsimp only[Sum.elim] at h
   obtain rfl:=oi h
   exact er [(.ov false (oN 3),4),(.p (.bool false),5)]
  refine yga (q_n ?_)
  obtain⟨v8,hv8,h⟩:=bs h
  obtain⟨u9,hu9,h⟩:=bs h
  refine yhc (r_gq [dP 0 a0,dL 1 eRt a1,vL 6 3 eI (x2.1++[v8]),dL 11 eRt a1,pL 12 a1,pI 13 x2.2] [hC 3 [.p (iV v8)],(5,{fix:=some (vL 30 3 eI (x2.1++[v8]))})] (A4 (ykt hv8) (lG' eI hu9) (show ∀ row∈((([v8]).map eI):List (List C)),row.length=1 from(yfc fun _=>rfl)) (aP' 3 eI x2.1 ([v8])))) ?_
  refine b_n (q_n (yhc (r_gq [dP 0 a0,dL 1 eRt a1,vL 6 3 eI (x2.1++[v8]),dL 11 eRt a1,pL 12 a1,pI 13 (w64 (x2.2+1))] [] trivial) ?_))
  exact lqn ((x2.1++[v8]),(w64 (x2.2+1))) h
 refine yrb (q_x (lq_x (b_x ?_)))
 have hyy:=hy_x2 _ (oi h).symm
 subst hyy
 have h:=hk_x2
 dsimp only[Sum.elim] at h
 refine q_n ?_
 exact jx x2.1 h
theorem yai1 {a0:(List Int)} {a1:Int}  {r:Bool} (h:ykv a0 a1=some r):Meets Tryz.prog 197 [.d false [.sl none (a0.map eI)],wI a1] { vals:=[.p (.bool r)] }:=by
 refine mo Tryz.func197 [dL 0 eI a0,pI 1 a1] ?_
 unfold ykv at h
 refine kG [dL 0 eI a0,pI 1 a1] [] trivial ?_
 refine yjb (J:=fun (x:Unit)=>[]) (K:=fun x=>ycs x=some r) (fun x1 h=>?_) ?_
 ·unfold ycs at h
  refine kG [pB 4 false] [] trivial ?_
  refine ypa ?_
  obtain rfl:=oi h
  exact er [(.p (.bool false),4)]
 refine kG [pI 1 a1,dL 7 eI a0,pL 8 a0,pI 9 0] [hN 1 a0] (A1 (lF eI a0)) ?_
 refine yda ?_
 obtain⟨y3,hl_x2,hk_x2⟩:=bs h
 clear h
 refine yyb (J:=fun (x:Int)=>[pI 1 a1,dL 7 eI a0,pL 8 a0,pI 9 x]) hl_x2 wkk (fun x2 o_x2 h hy_x2=>?_)
 unfold ypp at h
 refine kG [pI 1 a1,dL 7 eI a0,pL 8 a0,pI 9 x2,pB 10 (decide (x2<(a0.length:Int)))] [] trivial ?_
 refine yeb (kI h (fun hc5_3 h=>?_) (fun hc5_3 h=>?_))
 ·refine yga (q_n (yeb (yda ?_)))
  obtain⟨v5,hv5,h⟩:=bs h
  refine kG [pI 1 a1,pI 6 v5,dL 7 eI a0,pL 8 a0,pI 9 x2] [hR 0 (eI v5)] (A2 (yba hv5).1 (yca eI (yba hv5).2)) ?_
  refine kG [pI 1 a1,dL 7 eI a0,pL 8 a0,pI 9 x2,pB 15 (v5==a1)] [] trivial ?_
  refine kI h (fun hc6_5 h=>?_) (fun hc6_5 h=>?_)
  ·refine kG [pB 4 true] [] trivial ?_
   refine ypa (b_r (q_r (lq_r ?_)))
   refine b_r (q_r ?_)
   have hyy:=hy_x2 _ (oi h).symm
   subst hyy
   have h:=hk_x2
   dsimp only[Sum.elim] at h
   obtain rfl:=oi h
   exact er [(.p (.bool true),4)]
  refine yga (b_n (q_n (yhc (r_gq [pI 1 a1,dL 7 eI a0,pL 8 a0,pI 9 (w64 (x2+1))] [] trivial) ?_)))
  exact lqn (w64 (x2+1)) h
 refine yrb (q_x (lq_x (b_x ?_)))
 have hyy:=hy_x2 _ (oi h).symm
 subst hyy
 have h:=hk_x2
 dsimp only[Sum.elim] at h
 refine q_n ?_
 exact jx () h
theorem ymq {a0:(List Qp)} {a1:(List Qr)} {a2:Bool}  {r:(Bool×Bool)} (h:yge a0 a1 a2=some r):Meets Tryz.prog 159 [.d false (sP a0),.d false [.sl none (a1.map eRt)],.v (.bool a2)] { vals:=[.p (.bool r.1),.p (.bool r.2)] }:=by
 refine mo Tryz.func159 [dP 0 a0,dL 1 eRt a1,pB 2 a2] ?_
 unfold yge at h
 refine kG [dP 0 a0,dL 1 eRt a1,pB 2 a2] [] trivial ?_
 obtain⟨v1,hv1,h⟩:=bs h
 refine kG [dP 0 a0,dL 1 eRt a1,pB 2 a2,vL 8 3 eI v1.1,pB 9 v1.2] [hC 2 [rO 3 eI v1.1,.p (.bool v1.2)]] (A2 (yju hv1) (show List.all [rO 3 eI v1.1,.p (.bool v1.2)] simpleR=true from(sa_o (wnR1 (yvc wn_I) rfl) (sa_p rfl)))) ?_
 refine yeb (kG [dP 0 a0,dL 1 eRt a1,pB 2 a2,vL 8 3 eI v1.1,pB 19 (!v1.2)] [] trivial ?_)
 refine kI h (fun hc2_1 h=>?_) (fun hc2_1 h=>?_)
 ·refine kG [pB 6 false,pB 7 false] [] trivial ?_
  refine ypa (q_r ?_)
  obtain rfl:=oi h
  exact er [(.p (.bool false),6),(.p (.bool false),7)]
 refine yga (q_n (yjb (J:=fun (x:Unit)=>[vL 8 3 eI v1.1]) (K:=fun x=>yon v1 x=some r) (fun x3 h=>?_) ?_))
 ·unfold yon at h
  obtain⟨v4,hv4,h⟩:=bs h
  refine kG [pB 6 (!v4),pB 7 true] [(1,(cS [.d false [.sl none (v1.1.map eI)],wI (-1)] [.p (.bool v4)]))] (A2 (show([.d false [.sl none (eraL (v1.1.map eI))],wI (-1)]:List Arg)=[.d false [.sl none (v1.1.map eI)],wI (-1)] from(by simp only[yka (h:=eI) er_I])) (yai1 hv4)) ?_
  refine ypa ?_
  obtain rfl:=oi h
  exact er [(.p (.bool (!v4)),6),(.p (.bool true),7)]
 obtain⟨v5,hv5,h⟩:=bs h
 refine kG [dL 1 eRt a1,vL 8 3 eI v1.1,vL 22 38 eRt v5,pL 23 v5,pI 24 0] [hC 2 [rO 38 eRt v5],hN 3 v5] (A3 (ygu hv5) (sR' 38 v5) (lF eRt v5)) ?_
 refine yda ?_
 obtain⟨y7,hl_x6,hk_x6⟩:=bs h
 clear h
 refine yyb (J:=fun (x:Int)=>[dL 1 eRt a1,vL 8 3 eI v1.1,vL 22 38 eRt v5,pL 23 v5,pI 24 x]) hl_x6 wkk (fun x6 o_x6 h hy_x6=>?_)
 unfold ymr at h
 refine kG [dL 1 eRt a1,vL 8 3 eI v1.1,vL 22 38 eRt v5,pL 23 v5,pI 24 x6,pB 25 (decide (x6<(v5.length:Int)))] [] trivial ?_
 refine yeb (kI h (fun hc5_7 h=>?_) (fun hc5_7 h=>?_))
 ·refine yga (q_n (yeb (yda ?_)))
  obtain⟨v9,hv9,h⟩:=bs h
  refine kG [dL 1 eRt a1,vL 8 3 eI v1.1,bR 11 v9,vL 22 38 eRt v5,pL 23 v5,pI 24 x6] [hR 0 (eRt v9),hR 1 (eRt v9)] (A3 (yba hv9).1 (yca eRt (yba hv9).2) (gW 38 eRt hv9)) ?_
  obtain⟨v10,hv10,h⟩:=bs h
  refine kG [dL 1 eRt a1,vL 8 3 eI v1.1,vL 22 38 eRt v5,pL 23 v5,pI 24 x6,pB 31 (decide (v10<0))] [hC 2 [.p (iV v10)]] (A1 (ykt hv10)) ?_
  refine kI h (fun hc6_10 h=>?_) (fun hc6_10 h=>?_)
  ·refine kG [pB 6 false,pB 7 true] [] trivial ?_
   refine ypa (b_r (q_r (lq_r ?_)))
   refine b_r (q_r ?_)
   have hyy:=hy_x6 _ (oi h).symm
   subst hyy
   have h:=hk_x6
   dsimp only[Sum.elim] at h
   obtain rfl:=oi h
   exact er [(.p (.bool false),6),(.p (.bool true),7)]
  refine yga (b_n (q_n (yhc (r_gq [dL 1 eRt a1,vL 8 3 eI v1.1,vL 22 38 eRt v5,pL 23 v5,pI 24 (w64 (x6+1))] [] trivial) ?_)))
  exact lqn (w64 (x6+1)) h
 refine yrb (q_x (lq_x (b_x ?_)))
 have hyy:=hy_x6 _ (oi h).symm
 subst hyy
 have h:=hk_x6
 dsimp only[Sum.elim] at h
 refine q_n ?_
 exact jx () h
theorem yku {a0:(List Qp)} {a1:(List Qr)}  {r:(Bool×Bool)} (h:yqj a0 a1=some r):Meets Tryz.prog 91 [.d false (sP a0),.d false [.sl none (a1.map eRt)]] { vals:=[.p (.bool r.1),.p (.bool r.2)] }:=by
 refine mo Tryz.func91 [dP 0 a0,dL 1 eRt a1] ?_
 unfold yqj at h
 refine kG [dP 0 a0,dL 1 eRt a1] [] trivial ?_
 obtain⟨v1,hv1,h⟩:=bs h
 refine kG [dP 0 a0,dL 1 eRt a1,pB 6 v1.1,pB 7 v1.2] [hC 2 [.p (.bool v1.1),.p (.bool v1.2)]] (A1 (ymq hv1)) ?_
 refine yeb (kG [dP 0 a0,dL 1 eRt a1,pB 6 v1.1,pB 17 (!v1.2)] [] trivial ?_)
 refine kI h (fun hc2_1 h=>?_) (fun hc2_1 h=>?_)
 ·refine kG [pB 4 false,pB 5 false] [] trivial ?_
  refine ypa (q_r ?_)
  obtain rfl:=oi h
  exact er [(.p (.bool false),4),(.p (.bool false),5)]
 refine yga (q_n ?_)
 obtain⟨v3,hv3,h⟩:=bs h
 refine kG [pB 6 v1.1,pB 8 v3.1] [hC 2 [.p (.bool v3.1),.p (.bool v3.2)]] (A1 (ymq hv3)) ?_
 refine ynb (l1:=[pB 4 (v1.1&&v3.1),pB 5 true]) ?_ ?_
 ·rcases ft v1.1 with ha1 | ha1
  ·exact RegOk.of_eq (r_gq [pB 4 v3.1,pB 5 true] [(2,gT),(3,bT)] (A2 ha1 ha1)) (by simp[ha1])
  exact RegOk.of_eq (r_gq [pB 4 false,pB 5 true] [(2,gF),(3,bF)] (A2 ha1 ha1)) (by simp[ha1])
 refine ypa ?_
 obtain rfl:=oi h
 exact er [(.p (.bool (v1.1&&v3.1)),4),(.p (.bool true),5)]
theorem ylu {a0:(List Qp)} {a1:(List Qr)}  {r:(Bool×Bool)} (h:ykd a0 a1=some r):Meets Tryz.prog 31 [.d false (sP a0),.d false [.sl none (a1.map eRt)]] { vals:=[.p (.bool r.1),.p (.bool r.2)] }:=by
 refine mo Tryz.func31 [dP 0 a0,dL 1 eRt a1] ?_
 unfold ykd at h
 refine kG [dP 0 a0,dL 1 eRt a1] [] trivial ?_
 refine yeb ?_
 obtain⟨v1,hv1,h⟩:=bs h
 refine kG [dP 0 a0,dL 1 eRt a1,pB 9 (!v1)] [hC 2 [.p (.bool v1)]] (A1 (yjg hv1)) ?_
 refine kI h (fun hc2_1 h=>?_) (fun hc2_1 h=>?_)
 ·refine kG [pB 4 false,pB 5 false] [] trivial ?_
  refine ypa (q_r ?_)
  obtain rfl:=oi h
  exact er [(.p (.bool false),4),(.p (.bool false),5)]
 refine yga (q_n ?_)
 obtain⟨v3,hv3,h⟩:=bs h
 refine kG [pB 4 v3.1,pB 5 v3.2] [hC 2 [.p (.bool v3.1),.p (.bool v3.2)]] (A1 (yku hv3)) ?_
 refine ypa ?_
 obtain rfl:=oi h
 exact er [(.p (.bool v3.1),4),(.p (.bool v3.2),5)]
theorem ydw {a0:(List Qr)}  {r:(List Qp)} (h:ynr a0=some r):Meets Tryz.prog 92 [.d false [.sl none (a0.map eRt)]] { vals:=[.ov false (oP 40 r)] }:=by
 refine mo Tryz.func92 [dL 0 eRt a0] ?_
 unfold ynr at h
 refine kG [dL 0 eRt a0] [] trivial ?_
 refine kG [dL 0 eRt a0,vN 3 40] [] trivial ?_
 refine yjb (J:=fun (x:(List Qp))=>[vP 3 40 x]) (K:=fun x=>yqs x=some r) (fun x1 h=>?_) ?_
 ·unfold yqs at h
  refine kG [vP 2 40 x1] [] trivial ?_
  refine ypa ?_
  obtain rfl:=oi h
  exact er [(.ov false (oP 40 x1),2)]
 refine kG [dL 0 eRt a0,vN 3 40,pI 4 1] [] trivial ?_
 refine yda ?_
 obtain⟨y3,hl_x2,hk_x2⟩:=bs h
 clear h
 refine yyb (J:=fun (x:((List Qp)×Int))=>[dL 0 eRt a0,vP 3 40 x.1,pI 4 x.2]) hl_x2 wkk (fun x2 o_x2 h hy_x2=>?_)
 unfold ymw at h
 refine yeb (kG [dL 0 eRt a0,vP 3 40 x2.1,pI 4 x2.2,pB 8 (decide (x2.2<(a0.length:Int)))] [hN 2 a0] (A1 (lF eRt a0)) ?_)
 refine kI h (fun hc5_3 h=>?_) (fun hc5_3 h=>?_)
 ·refine yga (q_n (yeb (yda ?_)))
  obtain⟨v5,hv5,h⟩:=bs h
  obtain⟨v6,hv6,h⟩:=bs h
  obtain⟨u7,hu7,h⟩:=bs h
  refine yhc (r_dq yfa 12 [] [dL 0 eRt a0,vP 3 40 (x2.1++[(v5,v6)]),pI 4 x2.2] [hR 4 (eRt v5),hR 8 (eRt v6),(12,{fix:=some (vP 23 40 (x2.1++[(v5,v6)]))})] (B6 (yba hv5).1 (yca eRt (yba hv5).2) (yba hv6).1 (yca eRt (yba hv6).2) (lG' ePt hu7) (show ∀ row∈((([(v5,v6)]).map ePt):List (List C)),row.length=4 from(yfc fun _=>rfl)) (A1 (aP' 40 ePt x2.1 ([(v5,v6)]))))) ?_
  refine b_n (q_n (yhc (r_gq [dL 0 eRt a0,vP 3 40 (x2.1++[(v5,v6)]),pI 4 (w64 (x2.2+1))] [] trivial) ?_))
  exact lqn ((x2.1++[(v5,v6)]),(w64 (x2.2+1))) h
 refine yrb (q_x (lq_x (b_x ?_)))
 have hyy:=hy_x2 _ (oi h).symm
 subst hyy
 have h:=hk_x2
 refine q_n ?_
 exact jx x2.1 h
theorem yze {a0:(List Qp)} {a1:(Qp->Option Bool)} {F1:FuncId} (hp1:∀ x0 y,a1 x0=some y->Meets Tryz.prog F1 ([.v (vPt x0)]++[]) { vals:=[.p (.bool y)] }) {r:Int} (h:yya a0 a1=some r):Meets Tryz.prog 213 [.d false (sP a0),.v (.func (.func F1) #[] #[])] { vals:=[.p (iV r)] }:=by
 refine mo Tryz.func213 [dP 0 a0,(1,.p (.func (.func F1) #[] #[]))] ?_
 unfold yya at h
 refine kG [dP 0 a0,(1,.p (.func (.func F1) #[] #[]))] [] trivial ?_
 refine yjb (J:=fun (x:Unit)=>[]) (K:=fun x=>yqb x=some r) (fun x1 h=>?_) ?_
 ·unfold yqb at h
  refine kG [pI 4 (-1)] [] trivial ?_
  refine ypa ?_
  obtain rfl:=oi h
  exact er [(.p (iV (-1)),4)]
 refine kG [dP 0 a0,(1,.p (.func (.func F1) #[] #[])),pL 7 a0,pI 8 0] [hN 1 a0] (A1 (lnP a0)) ?_
 refine yda ?_
 obtain⟨y3,hl_x2,hk_x2⟩:=bs h
 clear h
 refine yyb (J:=fun (x:Int)=>[dP 0 a0,(1,.p (.func (.func F1) #[] #[])),pL 7 a0,pI 8 x]) hl_x2 wkk (fun x2 o_x2 h hy_x2=>?_)
 unfold yqa at h
 refine kG [dP 0 a0,(1,.p (.func (.func F1) #[] #[])),pL 7 a0,pI 8 x2,pB 9 (decide (x2<(a0.length:Int)))] [] trivial ?_
 refine yeb (kI h (fun hc5_3 h=>?_) (fun hc5_3 h=>?_))
 ·refine yga (q_n (yeb (yda (kG [dP 0 a0,(1,.p (.func (.func F1) #[] #[])),pI 5 x2,pL 7 a0,pI 8 x2] [] trivial ?_))))
  obtain⟨v5,hv5,h⟩:=bs h
  obtain⟨v6,hv6,h⟩:=bs h
  refine kG [dP 0 a0,(1,.p (.func (.func F1) #[] #[])),pI 5 x2,pL 7 a0,pI 8 x2,pB 16 v6] [hR 3 (ePt v5),hC 5 [.p (.bool v6)]] (A3 (yba hv5).1 (yca ePt (yba hv5).2) (hp1 _ _ hv6)) ?_
  refine kI h (fun hc6_6 h=>?_) (fun hc6_6 h=>?_)
  ·refine kG [pI 4 x2] [] trivial ?_
   refine ypa (b_r (q_r (lq_r ?_)))
   refine b_r (q_r ?_)
   have hyy:=hy_x2 _ (oi h).symm
   subst hyy
   have h:=hk_x2
   dsimp only[Sum.elim] at h
   obtain rfl:=oi h
   exact er [(.p (iV x2),4)]
  refine yga (b_n (q_n (yhc (r_gq [dP 0 a0,(1,.p (.func (.func F1) #[] #[])),pL 7 a0,pI 8 (w64 (x2+1))] [] trivial) ?_)))
  exact lqn (w64 (x2+1)) h
 refine yrb (q_x (lq_x (b_x ?_)))
 have hyy:=hy_x2 _ (oi h).symm
 subst hyy
 have h:=hk_x2
 dsimp only[Sum.elim] at h
 refine q_n ?_
 exact jx () h
theorem yhe {a0:(List Qp)} {a1:(Qp->Option Bool)} {F1:FuncId} (hp1:∀ x0 y,a1 x0=some y->Meets Tryz.prog F1 ([.v (vPt x0)]++[]) { vals:=[.p (.bool y)] }) {r:Bool} (h:yra a0 a1=some r):Meets Tryz.prog 184 [.d false (sP a0),.v (.func (.func F1) #[] #[])] { vals:=[.p (.bool r)] }:=by
 refine mo Tryz.func184 [dP 0 a0,(1,.p (.func (.func F1) #[] #[]))] ?_
 unfold yra at h
 refine kG [dP 0 a0,(1,.p (.func (.func F1) #[] #[]))] [] trivial ?_
 obtain⟨v1,hv1,h⟩:=bs h
 refine kG [pB 4 (decide (v1>=0))] [hC 2 [.p (iV v1)]] (A1 (show Meets Tryz.prog 213 ([.d false (sP a0),.v (.func (.func F1) #[] #[])]++[]) { vals:=[.p (iV v1)] } from(yze hp1 hv1))) ?_
 refine ypa ?_
 obtain rfl:=oi h
 exact er [(.p (.bool (decide (v1>=0))),4)]
theorem ynz {a0:Qp}  {r:Bool} (h:yxk a0=some r):Meets Tryz.prog 57 [.v (vPt a0)] { vals:=[.p (.bool r)] }:=by
 refine mo Tryz.func57 [(0,.p (vPt a0))] ?_
 unfold yxk at h
 refine kG [bP 1 a0] [] trivial ?_
 obtain⟨v1,hv1,h⟩:=bs h
 obtain⟨w3,hw3,h⟩:=bs h
 refine ynb (l1:=[pB 2 w3]) ?_ ?_
 ·clear h
  rcases ft v1 with ha0 | ha0
  ·obtain⟨v2,hv2,hw3⟩:=bs (yjh ha0 hw3)
   have hw3:=oi hw3
   subst hw3
   exact(r_gq [pB 2 v2] [(5,(cS [.d false [.sl none (([a0.1,a0.2]).map eRt)]] [.p (.bool v1)])),(7,gT),(8,gT),(9,gT),(10,gT),(11,{g:=some true,call:=some (none,[.p (.bool v2)],true)}),(12,bT)] (B6 (show([.d false [.sl none (eraL (([a0.1,a0.2]).map eRt))]]:List Arg)=[.d false [.sl none (([a0.1,a0.2]).map eRt)]] from(by simp only[yka (h:=eRt) (ywt er_I er_I)])) (yrg hv1) ha0 ha0 ha0 ha0 (A3 ha0 (ygd hv2) ha0)))
  replace hw3:=ykh ha0 hw3
  have hw3:=oi hw3
  subst hw3
  exact(r_gq [pB 2 false] [(5,(cS [.d false [.sl none (([a0.1,a0.2]).map eRt)]] [.p (.bool v1)])),(7,gF),(8,gF),(9,gF),(10,gF),(11,gF),(12,bF)] (B6 (show([.d false [.sl none (eraL (([a0.1,a0.2]).map eRt))]]:List Arg)=[.d false [.sl none (([a0.1,a0.2]).map eRt)]] from(by simp only[yka (h:=eRt) (ywt er_I er_I)])) (yrg hv1) ha0 ha0 ha0 ha0 (A2 ha0 ha0)))
 refine ypa ?_
 obtain rfl:=oi h
 exact er [(.p (.bool w3),2)]
theorem ymu {a0:Qp}  {r:Bool} (h:yag a0=some r):Meets Tryz.prog 185 [.v (vPt a0)] { vals:=[.p (.bool r)] }:=by
 refine mo Tryz.func185 [(0,.p (vPt a0))] ?_
 unfold yag at h
 refine kG [bP 1 a0] [] trivial ?_
 obtain⟨v1,hv1,h⟩:=bs h
 refine kG [pB 2 (!v1)] [hC 1 [.p (.bool v1)]] (A1 (ynz hv1)) ?_
 refine ypa ?_
 obtain rfl:=oi h
 exact er [(.p (.bool (!v1)),2)]
theorem yuw {a0:(List Qp)}  {r:Bool} (h:yjf a0=some r):Meets Tryz.prog 131 [.d false (sP a0)] { vals:=[.p (.bool r)] }:=by
 refine mo Tryz.func131 [dP 0 a0] ?_
 unfold yjf at h
 refine kG [dP 0 a0] [] trivial ?_
 obtain⟨v1,hv1,h⟩:=bs h
 obtain⟨w3,hw3,h⟩:=bs h
 refine ynb (l1:=[pB 2 w3]) ?_ ?_
 ·clear h
  rcases ft v1 with ha0 | ha0
  ·obtain⟨v2,hv2,hw3⟩:=bs (yjh ha0 hw3)
   have hw3:=oi hw3
   subst hw3
   exact(r_gq [pB 2 (!v2)] [hN 1 a0,hC 2 [.p (.bool v1)],(4,gT),(5,{g:=some true,call:=some (none,[.p (.bool v2)],true)}),(6,gT),(7,bT)] (B6 (lnP a0) (ygb hv1) ha0 ha0 (show Meets Tryz.prog 184 ([.d false (sP a0),.v (.func (.func 185) #[] #[])]++[]) { vals:=[.p (.bool v2)] } from(yhe (fun x0 y hy=>ymu hy) hv2)) ha0 (A1 ha0)))
  replace hw3:=ykh ha0 hw3
  have hw3:=oi hw3
  subst hw3
  exact(r_gq [pB 2 false] [hN 1 a0,hC 2 [.p (.bool v1)],(4,gF),(5,gF),(6,gF),(7,bF)] (A6 (lnP a0) (ygb hv1) ha0 ha0 ha0 ha0))
 refine ypa ?_
 obtain rfl:=oi h
 exact er [(.p (.bool w3),2)]
theorem yxn {a0:Int}  {r:(List (List Int))} (h:ylg a0=some r):Meets Tryz.prog 132 [wI a0] { vals:=[rO 32 (eO 3 eI) r] }:=by
 refine mo Tryz.func132 [pI 0 a0] ?_
 unfold ylg at h
 refine kG [pI 0 a0] [] trivial ?_
 obtain⟨u1,hu1,h⟩:=bs h
 refine kG [pI 0 a0,vL 3 32 (eO 3 eI) (List.replicate (Int.toNat a0) ([]:(List Int)))] [(1,{fix:=some (vL 6 32 (eO 3 eI) (List.replicate (Int.toNat a0) ([]:(List Int))))})] (A4 (show a0=a0 from rfl) (ysa hu1).1 (ysa hu1).2 (show(SV.ov false [.sl (some 32) (List.replicate (Int.toNat a0) (oN 3))]:SV)=.ov false [.sl (some 32) ((List.replicate (Int.toNat a0) ([]:(List Int))).map (eO 3 eI))] from(congrArg (fun z=>SV.ov false [.sl (some 32) z]) (yth1 (eO 3 eI) ([]:(List Int)))))) ?_
 refine yjb (J:=fun (x:(List (List Int)))=>[vL 3 32 (eO 3 eI) x]) (K:=fun x=>yfo x=some r) (fun x2 h=>?_) ?_
 ·unfold yfo at h
  refine kG [vL 2 32 (eO 3 eI) x2] [] trivial ?_
  refine ypa ?_
  obtain rfl:=oi h
  exact er [(.ov false [.sl (some 32) (x2.map (eO 3 eI))],2)]
 refine kG [pI 0 a0,vL 3 32 (eO 3 eI) (List.replicate (Int.toNat a0) ([]:(List Int))),pL 8 (List.replicate (Int.toNat a0) ([]:(List Int))),pI 9 0] [hN 1 (List.replicate (Int.toNat a0) ([]:(List Int)))] (A1 (lF (eO 3 eI) (List.replicate (Int.toNat a0) ([]:(List Int))))) ?_
 refine yda ?_
 obtain⟨y4,hl_x3,hk_x3⟩:=bs h
 clear h
 refine yyb (J:=fun (x:((List (List Int))×Int))=>[pI 0 a0,vL 3 32 (eO 3 eI) x.1,pL 8 (List.replicate (Int.toNat a0) ([]:(List Int))),pI 9 x.2]) hl_x3 wkk (fun x3 o_x3 h hy_x3=>?_)
 unfold yug at h
 refine kG [pI 0 a0,vL 3 32 (eO 3 eI) x3.1,pL 8 (List.replicate (Int.toNat a0) ([]:(List Int))),pI 9 x3.2,pB 10 (decide (x3.2<((List.replicate (Int.toNat a0) ([]:(List Int))).length:Int)))] [] trivial ?_
 refine yeb (kI h (fun hc5_4 h=>?_) (fun hc5_4 h=>?_))
 ·refine yga (q_n (yeb (yda (kG [pI 0 a0,vL 3 32 (eO 3 eI) x3.1,pI 4 x3.2,pL 8 (List.replicate (Int.toNat a0) ([]:(List Int))),pI 9 x3.2] [] trivial ?_))))
  obtain⟨v6,hv6,h⟩:=bs h
  refine yhc (r_gq [pI 0 a0,vL 3 32 (eO 3 eI) (x3.1.set (Int.toNat x3.2) (List.replicate (Int.toNat a0) (0:Int))),pL 8 (List.replicate (Int.toNat a0) ([]:(List Int))),pI 9 x3.2] [(3,{fix:=some (vL 15 3 eI (List.replicate (Int.toNat a0) (0:Int)))}),hR 4 [.sl (some 3) (v6.map eI)],(5,{row:=some [.sl (some 3) (v6.map eI)],fix:=some (vL 3 32 (eO 3 eI) (x3.1.set (Int.toNat x3.2) (List.replicate (Int.toNat a0) (0:Int))))})] (B6 (show a0=a0 from rfl) (ysa hu1).1 (ysa hu1).2 (show(SV.ov false [.sl (some 3) (List.replicate (Int.toNat a0) [rI 0])]:SV)=.ov false [.sl (some 3) ((List.replicate (Int.toNat a0) (0:Int)).map eI)] from(congrArg (fun z=>SV.ov false [.sl (some 3) z]) (yth1 eI (0:Int)))) (yba hv6).1 (yca (eO 3 eI) (yba hv6).2) (A2 (gW 32 (eO 3 eI) hv6) (show(SV.ov false [.sl (some 32) (setL (x3.1.map (eO 3 eI)) [((Int.toNat x3.2),0)] [.sl (some 3) ((List.replicate (Int.toNat a0) (0:Int)).map eI)])]:SV)=.ov false [.sl (some 32) ((x3.1.set (Int.toNat x3.2) (List.replicate (Int.toNat a0) (0:Int))).map (eO 3 eI))] from(congrArg (fun z=>SV.ov false [.sl (some 32) z]) (set1 (f:=(eO 3 eI)) (y:=(List.replicate (Int.toNat a0) (0:Int))) (yba hv6).2 rfl)))))) ?_
  refine b_n (q_n (yhc (r_gq [pI 0 a0,vL 3 32 (eO 3 eI) (x3.1.set (Int.toNat x3.2) (List.replicate (Int.toNat a0) (0:Int))),pL 8 (List.replicate (Int.toNat a0) ([]:(List Int))),pI 9 (w64 (x3.2+1))] [] trivial) ?_))
  exact lqn ((x3.1.set (Int.toNat x3.2) (List.replicate (Int.toNat a0) (0:Int))),(w64 (x3.2+1))) h
 refine yrb (q_x (lq_x (b_x ?_)))
 have hyy:=hy_x3 _ (oi h).symm
 subst hyy
 have h:=hk_x3
 refine q_n ?_
 exact jx x3.1 h
theorem yxf1 {a0:Qr} {a1:Qr}  {r:Qr} (h:ywv a0 a1=some r):Meets Tryz.prog 181 [.v (vRt a0),.v (vRt a1)] { vals:=[.p (vRt r)] }:=by
 refine mo Tryz.func181 [(0,.p (vRt a0)),(1,.p (vRt a1))] ?_
 unfold ywv at h
 refine kG [bR 2 a0,bR 3 a1,bX 4 zR] [] trivial ?_
 refine yeb ?_
 obtain⟨v1,hv1,h⟩:=bs h
 refine kG [bR 2 a0,bR 3 a1,bX 4 zR,pB 7 v1] [hC 2 [.p (.bool v1)]] (A1 (ygd hv1)) ?_
 refine kI h (fun hc2_1 h=>?_) (fun hc2_1 h=>?_)
 ·refine kG [bR 4 a1] [] trivial ?_
  refine ypa (q_r ?_)
  obtain rfl:=oi h
  exact er [(.p (vRt a1),4)]
 refine yga (q_n (kG [bR 4 a0] [] trivial ?_))
 refine ypa ?_
 obtain rfl:=oi h
 exact er [(.p (vRt a0),4)]
theorem ywd1 {a0:Qr} {a1:Qr}  {r:Qr} (h:yrt a0 a1=some r):Meets Tryz.prog 182 [.v (vRt a0),.v (vRt a1)] { vals:=[.p (vRt r)] }:=by
 refine mo Tryz.func182 [(0,.p (vRt a0)),(1,.p (vRt a1))] ?_
 unfold yrt at h
 refine kG [bR 2 a0,bR 3 a1,bX 4 zR] [] trivial ?_
 refine yeb ?_
 obtain⟨v1,hv1,h⟩:=bs h
 refine kG [bR 2 a0,bR 3 a1,bX 4 zR,pB 7 v1] [hC 2 [.p (.bool v1)]] (A1 (ygd hv1)) ?_
 refine kI h (fun hc2_1 h=>?_) (fun hc2_1 h=>?_)
 ·refine kG [bR 4 a1] [] trivial ?_
  refine ypa (q_r ?_)
  obtain rfl:=oi h
  exact er [(.p (vRt a1),4)]
 refine yga (q_n (kG [bR 4 a0] [] trivial ?_))
 refine ypa ?_
 obtain rfl:=oi h
 exact er [(.p (vRt a0),4)]
theorem ynq {a0:Qr} {a1:Qr} {a2:Qr} {r:Qp} (h:yif a0 a1 a2=some r):Takes Tryz.prog 180 (vRt a0) [.int .i64 a1.1,.int .i64 a1.2] [.int .i64 a2.1,.int .i64 a2.2] [.int .i64 r.1.1,.int .i64 r.1.2] [.int .i64 r.2.1,.int .i64 r.2.2]:=by
 refine yuv1 Tryz.func180 ?_
 unfold yif at h
 refine kG [bR 1 a1,bR 2 a2,bR 3 a0] [] trivial ?_
 obtain⟨v1,hv1,h⟩:=bs h
 obtain⟨v2,hv2,h⟩:=bs h
 refine yhc (r_dq yfa 5 [] [bR 1 v1,bR 2 v2] [hC 2 [.p (vRt v1)],hC 5 [.p (vRt v2)]] (A2 (yxf1 hv1) (ywd1 hv2))) ?_
 obtain rfl:=oi h
 exact⟨trivial,by kernel_rfl,by kernel_rfl⟩
theorem yoz {a0:Bool} {a1:(List Qp)} {a2:Qr} {a3:Qr}  {r:(Qr×Qr×Bool)} (h:ywk a0 a1 a2 a3=some r):MeetsB Tryz.prog 127 (.box [.raw (.bool a0)]) [.d false (sP a1),.v (vRt a2),.v (vRt a3)] [.p (vRt r.1),.p (vRt r.2.1)] (.box [.raw (.bool r.2.2)]):=by
 refine mob Tryz.func127 [bX 0 [.raw (.bool a0)],dP 1 a1,(2,.p (vRt a2)),(3,.p (vRt a3))] ?_
 unfold ywk at h
 refine kG [bX 0 [.raw (.bool a0)],dP 1 a1,bR 6 a2,bR 7 a3,bX 8 zR,bX 9 zR] [] trivial ?_
 obtain⟨v1,hv1,h⟩:=bs h
 refine kG [bX 0 [.raw (.bool v1.2)],dP 1 a1,bR 6 a2,bR 7 a3,bX 8 zR,bX 9 zR,bR 10 v1.1] [hT 3 [.p (vRt v1.1)] (.box [.raw (.bool v1.2)])] (A1 (yvj hv1)) ?_
 refine kG [bX 0 [.raw (.bool v1.2)],dP 1 a1,bR 6 a2,bR 7 a3,bX 8 zR,bX 9 zR,bR 10 v1.1,bR 11 v1.1] [] trivial ?_
 refine ycz1 (r1:=10) (r2:=11) 12 (fun b1 b2=>?_)
 refine ytw1 ?_
 refine v_fn [bX 0 [.raw (.bool v1.2)],dP 1 a1,bR 6 a2,bR 7 a3,bX 8 zR,bX 9 zR,bR 10 v1.1,bR 11 v1.1,(12,.p (clo 180 b1 b2))] ?_
 refine q_n ?_
 obtain⟨v2,hv2,h⟩:=bs h
 obtain⟨v3,hv3,h⟩:=bs h
 refine ytw1 ?_
 refine ydz1 (n:=5) [bX 0 [.raw (.bool v2.2)],dP 1 a1,bR 6 a2,bR 7 a3,bX 8 zR,bX 9 zR,bR 10 v1.1,bR 11 v1.1,(12,.p (clo 180 b1 b2)),(21,.p (clo 180 b1 b2)),(25,.p (vRt v2.1))] [bX 0 [.raw (.bool v2.2)],dP 1 a1,bR 6 a2,bR 7 a3,bX 8 zR,bX 9 zR,bR 10 v3.1,bR 11 v3.2,(12,.p (clo 180 b1 b2)),(21,.p (clo 180 b1 b2)),(25,.p (vRt v2.1))] [hT 4 [.p (vRt v2.1)] (.box [.raw (.bool v2.2)])] (A1 (yvj hv2)) (ynq hv3) ?_ rfl rfl ⟨rfl,rfl,rfl⟩
 refine q_n (yqb2 (J:=fun (x:(Int×Int×Int×Int))=>[bX 0 [.raw (.bool v2.2)],bX 8 zR,bX 9 zR,bX 10 [rI x.1,rI x.2.1],bR 11 x.2.2]) (K:=fun x=>yko v2 x=some r) (fun x4 h=>?_) ?_)
 ·unfold yko at h
  refine ygp1 (r_dq yfa 3 [(2,8)] [bX 0 [.raw (.bool v2.2)],bX 8 [rI x4.1,rI x4.2.1],bR 9 x4.2.2] [] trivial) ?_
  refine ync2 ?_
  obtain rfl:=oi h
  exact ebr [(.p (.agg #[.int .i64 x4.1,.int .i64 x4.2.1]),8),(.p (vRt x4.2.2),9)]
 refine ygp1 (r_gq [bX 0 [.raw (.bool v2.2)],bR 6 a2,bR 7 a3,bX 8 zR,bX 9 zR,bR 10 v3.1,bR 11 v3.2,(12,.p (clo 180 b1 b2)),dP 27 a1,pL 28 a1,pI 29 0] [hN 1 a1] (A1 (lnP a1))) ?_
 refine yyt1 ?_
 obtain⟨y6,hl_x5,hk_x5⟩:=bs h
 clear h
 refine yob2 (J:=fun (x:(Int×Int×Int×Int×Int))=>[bX 0 [.raw (.bool v2.2)],bR 6 a2,bR 7 a3,bX 8 zR,bX 9 zR,bX 10 [rI x.1,rI x.2.1],bX 11 [rI x.2.2.1,rI x.2.2.2.1],(12,.p (clo 180 b1 b2)),dP 27 a1,pL 28 a1,pI 29 x.2.2.2.2]) hl_x5 wkk (fun x5 o_x5 h hy_x5=>?_)
 unfold yoe at h
 refine ygp1 (r_gq [bX 0 [.raw (.bool v2.2)],bR 6 a2,bR 7 a3,bX 8 zR,bX 9 zR,bX 10 [rI x5.1,rI x5.2.1],bX 11 [rI x5.2.2.1,rI x5.2.2.2.1],(12,.p (clo 180 b1 b2)),dP 27 a1,pL 28 a1,pI 29 x5.2.2.2.2,pB 30 (decide (x5.2.2.2.2<(a1.length:Int)))] [] trivial) ?_
 refine ytw1 ?_
 refine yaz1 (decide (x5.2.2.2.2<(a1.length:Int))) (fun hc5_6=>?_) (fun hc5_6=>?_)
 ·replace h:=yjh hc5_6 h
  refine ybz1 ?_
  refine q_n (ytw1 ?_)
  refine yyt1 ?_
  obtain⟨v8,hv8,h⟩:=bs h
  refine ygp1 (r_gq [bX 0 [.raw (.bool v2.2)],bR 6 a2,bR 7 a3,bX 8 zR,bX 9 zR,bX 10 [rI x5.1,rI x5.2.1],bX 11 [rI x5.2.2.1,rI x5.2.2.2.1],(12,.p (clo 180 b1 b2)),bP 14 v8,dP 27 a1,pL 28 a1,pI 29 x5.2.2.2.2] [hR 0 (ePt v8)] (A2 (yba hv8).1 (yca ePt (yba hv8).2))) ?_
  obtain⟨v9,hv9,h⟩:=bs h
  obtain⟨w11,hw11,h⟩:=bs h
  refine ygp1 (l1:=[bX 0 [.raw (.bool v2.2)],bR 6 a2,bR 7 a3,bX 8 zR,bX 9 zR,bX 10 [rI x5.1,rI x5.2.1],bX 11 [rI x5.2.2.1,rI x5.2.2.2.1],(12,.p (clo 180 b1 b2)),bP 14 v8,dP 27 a1,pL 28 a1,pI 29 x5.2.2.2.2,pB 42 w11]) ?_ ?_
  ·clear h
   rcases ft v9 with ha1 | ha1
   ·obtain⟨v10,hv10,hw11⟩:=bs (yjh ha1 hw11)
    have hw11:=oi hw11
    subst hw11
    exact(r_gq [bX 0 [.raw (.bool v2.2)],bR 6 a2,bR 7 a3,bX 8 zR,bX 9 zR,bX 10 [rI x5.1,rI x5.2.1],bX 11 [rI x5.2.2.1,rI x5.2.2.2.1],(12,.p (clo 180 b1 b2)),bP 14 v8,dP 27 a1,pL 28 a1,pI 29 x5.2.2.2.2,pB 42 v10] [hC 3 [.p (.bool v9)],(5,gT),(6,gT),(7,gT),(8,{g:=some true,call:=some (none,[.p (.bool v10)],true)}),(9,bT)] (B6 (ygd hv9) ha1 ha1 ha1 ha1 (ygd hv10) (A1 ha1)))
   replace hw11:=ykh ha1 hw11
   have hw11:=oi hw11
   subst hw11
   exact(r_gq [bX 0 [.raw (.bool v2.2)],bR 6 a2,bR 7 a3,bX 8 zR,bX 9 zR,bX 10 [rI x5.1,rI x5.2.1],bX 11 [rI x5.2.2.1,rI x5.2.2.2.1],(12,.p (clo 180 b1 b2)),bP 14 v8,dP 27 a1,pL 28 a1,pI 29 x5.2.2.2.2,pB 42 false] [hC 3 [.p (.bool v9)],(5,gF),(6,gF),(7,gF),(8,gF),(9,bF)] (A6 (ygd hv9) ha1 ha1 ha1 ha1 ha1))
  refine yaz1 w11 (fun hc6_11=>?_) (fun hc6_11=>?_)
  ·obtain⟨v13,hv13,h⟩:=bs (yjh hc6_11 h)
   refine ydz1 (n:=3) [bX 0 [.raw (.bool v2.2)],bR 6 a2,bR 7 a3,bX 8 zR,bX 9 zR,bX 10 [rI x5.1,rI x5.2.1],bX 11 [rI x5.2.2.1,rI x5.2.2.2.1],(12,.p (clo 180 b1 b2)),dP 27 a1,pL 28 a1,pI 29 x5.2.2.2.2,(43,.p (clo 180 b1 b2)),(45,.p (vRt v8.2))] [bX 0 [.raw (.bool v2.2)],bR 6 a2,bR 7 a3,bX 8 zR,bX 9 zR,bR 10 v13.1,bR 11 v13.2,(12,.p (clo 180 b1 b2)),dP 27 a1,pL 28 a1,pI 29 x5.2.2.2.2,(43,.p (clo 180 b1 b2)),(45,.p (vRt v8.2))] [] trivial (ynq hv13) ?_ rfl rfl ⟨rfl,rfl,rfl⟩
   refine b_n (q_n (ynb2 (r_gq [bX 0 [.raw (.bool v2.2)],bR 6 a2,bR 7 a3,bX 8 zR,bX 9 zR,bR 10 v13.1,bR 11 v13.2,(12,.p (clo 180 b1 b2)),dP 27 a1,pL 28 a1,pI 29 (w64 (x5.2.2.2.2+1))] [] trivial) ?_))
   exact lqn (v13.1.1,v13.1.2,v13.2.1,v13.2.2,(w64 (x5.2.2.2.2+1))) h
  replace h:=ykh hc6_11 h
  refine ybz1 ?_
  refine b_n (q_n (ynb2 (r_gq [bX 0 [.raw (.bool v2.2)],bR 6 a2,bR 7 a3,bX 8 zR,bX 9 zR,bX 10 [rI x5.1,rI x5.2.1],bX 11 [rI x5.2.2.1,rI x5.2.2.2.1],(12,.p (clo 180 b1 b2)),dP 27 a1,pL 28 a1,pI 29 (w64 (x5.2.2.2.2+1))] [] trivial) ?_))
  exact lqn (x5.1,x5.2.1,x5.2.2.1,x5.2.2.2.1,(w64 (x5.2.2.2.2+1))) h
 replace h:=ykh hc5_6 h
 refine ypb2 ?_
 refine q_x (lq_x (b_x ?_))
 have hyy:=hy_x5 _ (oi h).symm
 subst hyy
 have h:=hk_x5
 refine q_n ?_
 exact jx (x5.1,x5.2.1,x5.2.2.1,x5.2.2.2.1) h
theorem ywx {a0:Bool} {a1:(List Qp)} {a2:Qp} {a3:Qp}  {r:(Bool×Bool)} (h:yxg a0 a1 a2 a3=some r):MeetsB Tryz.prog 58 (.box [.raw (.bool a0)]) [.d false (sP a1),.v (vPt a2),.v (vPt a3)] [.p (.bool r.1)] (.box [.raw (.bool r.2)]):=by
 refine mob Tryz.func58 [bX 0 [.raw (.bool a0)],dP 1 a1,(2,.p (vPt a2)),(3,.p (vPt a3))] ?_
 unfold yxg at h
 refine kG [bX 0 [.raw (.bool a0)],dP 1 a1,bP 6 a2,bP 7 a3] [] trivial ?_
 obtain⟨v1,hv1,h⟩:=bs h
 refine kG [bX 0 [.raw (.bool v1.2.2)],bP 7 a3,bR 9 v1.1,bR 10 v1.2.1] [hT 6 [.p (vRt v1.1),.p (vRt v1.2.1)] (.box [.raw (.bool v1.2.2)])] (A1 (yoz hv1)) ?_
 obtain⟨v2,hv2,h⟩:=bs h
 obtain⟨w4,hw4,h⟩:=bs h
 refine ynb (l1:=[bX 0 [.raw (.bool v1.2.2)],pB 8 w4]) ?_ ?_
 ·clear h
  rcases ft (!v2) with ha0 | ha0
  ·obtain⟨v3,hv3,hw4⟩:=bs (yjh ha0 hw4)
   have hw4:=oi hw4
   subst hw4
   exact(r_gq [bX 0 [.raw (.bool v1.2.2)],pB 8 (!v3)] [hC 3 [.p (.bool v2)],(6,gT),(7,gT),(8,gT),(9,{g:=some true,call:=some (none,[.p (.bool v3)],true)}),(10,gT),(11,bT)] (B6 (ygd hv2) ha0 ha0 ha0 ha0 (ygd hv3) (A2 ha0 ha0)))
  replace hw4:=ykh ha0 hw4
  have hw4:=oi hw4
  subst hw4
  exact(r_gq [bX 0 [.raw (.bool v1.2.2)],pB 8 false] [hC 3 [.p (.bool v2)],(6,gF),(7,gF),(8,gF),(9,gF),(10,gF),(11,bF)] (B6 (ygd hv2) ha0 ha0 ha0 ha0 ha0 (A1 ha0)))
 refine ypa ?_
 obtain rfl:=oi h
 exact ebr [(.p (.bool w4),8)]
theorem ypz {a0:(List Qp)} {a1:(List Qp)}  {r:((List (List Int))×Bool)} (h:yyk a0 a1=some r):Meets Tryz.prog 61 [.d false (sP a0),.d false (sP a1)] { vals:=[rO 32 (eO 3 eI) r.1,.p (.bool r.2)] }:=by
 refine mo Tryz.func61 [dP 0 a0,dP 1 a1] ?_
 unfold yyk at h
 refine kG [dP 0 a0,dP 1 a1] [] trivial ?_
 refine yeb ?_
 obtain⟨v1,hv1,h⟩:=bs h
 obtain⟨w3,hw3,h⟩:=bs h
 refine ynb (l1:=[dP 0 a0,dP 1 a1,pB 19 w3]) ?_ ?_
 ·clear h
  rcases ft (!v1) with ha0 | ha0
  ·replace hw3:=yjh ha0 hw3
   have hw3:=oi hw3
   subst hw3
   exact(r_gq [dP 0 a0,dP 1 a1,pB 19 true] [hC 1 [.p (.bool v1)],(4,gT),(5,gT),(6,gT),(7,bT)] (A5 (ysf hv1) ha0 ha0 ha0 ha0))
  obtain⟨v2,hv2,hw3⟩:=bs (ykh ha0 hw3)
  have hw3:=oi hw3
  subst hw3
  exact(r_gq [dP 0 a0,dP 1 a1,pB 19 (!v2)] [hC 1 [.p (.bool v1)],(4,gF),(5,(gN [.p (.bool v2)])),(6,gF),(7,bF)] (A6 (ysf hv1) ha0 ha0 (yuw hv2) ha0 ha0))
 refine kI h (fun hc2_3 h=>?_) (fun hc2_3 h=>?_)
 ·refine kG [vN 4 32,pB 5 false] [] trivial ?_
  refine ypa (q_r ?_)
  obtain rfl:=oi h
  exact er [(.ov false (oN 32),4),(.p (.bool false),5)]
 refine yga (q_n (kG [dP 0 a0,dP 1 a1,bX 6 [.raw (.bool false)]] [] trivial ?_))
 obtain⟨v5,hv5,h⟩:=bs h
 refine kG [dP 0 a0,dP 1 a1,bX 6 [.raw (.bool false)],vL 7 32 (eO 3 eI) v5] [hN 1 a1,hC 2 [rO 32 (eO 3 eI) v5]] (A3 (lnP a1) (yxn hv5) (show List.all [rO 32 (eO 3 eI) v5] simpleR=true from(sa_o (wnR1 (yvc (wn_O wn_I)) rfl) rfl))) ?_
 refine yjb (J:=fun (x:(Bool×(List (List Int))))=>[bX 6 [.raw (.bool x.1)],vL 7 32 (eO 3 eI) x.2]) (K:=fun x=>yek x=some r) (fun x6 h=>?_) ?_
 ·unfold yek at h
  refine yeb (kG [vL 7 32 (eO 3 eI) x6.2,pB 50 x6.1] [] trivial ?_)
  refine kI h (fun hc2_6 h=>?_) (fun hc2_6 h=>?_)
  ·refine kG [vN 4 32,pB 5 false] [] trivial ?_
   refine ypa (q_r ?_)
   obtain rfl:=oi h
   exact er [(.ov false (oN 32),4),(.p (.bool false),5)]
  refine yga (q_n (kG [vL 4 32 (eO 3 eI) x6.2,pB 5 true] [] trivial ?_))
  refine ypa ?_
  obtain rfl:=oi h
  exact er [(.ov false [.sl (some 32) (x6.2.map (eO 3 eI))],4),(.p (.bool true),5)]
 refine kG [dP 0 a0,dP 1 a1,bX 6 [.raw (.bool false)],vL 7 32 (eO 3 eI) v5,dP 23 a1,pL 24 a1,pI 25 0] [hN 1 a1] (A1 (lnP a1)) ?_
 refine yda ?_
 obtain⟨y9,hl_x8,hk_x8⟩:=bs h
 clear h
 refine yyb (J:=fun (x:(Bool×(List (List Int))×Int))=>[dP 0 a0,dP 1 a1,bX 6 [.raw (.bool x.1)],vL 7 32 (eO 3 eI) x.2.1,dP 23 a1,pL 24 a1,pI 25 x.2.2]) hl_x8 wkk (fun x8 o_x8 h hy_x8=>?_)
 unfold ype at h
 refine kG [dP 0 a0,dP 1 a1,bX 6 [.raw (.bool x8.1)],vL 7 32 (eO 3 eI) x8.2.1,dP 23 a1,pL 24 a1,pI 25 x8.2.2,pB 26 (decide (x8.2.2<(a1.length:Int)))] [] trivial ?_
 refine yeb (kI h (fun hc5_9 h=>?_) (fun hc5_9 h=>?_))
 ·refine yga (q_n (yjb (J:=fun (x:(Bool×(List (List Int))))=>[dP 0 a0,dP 1 a1,bX 6 [.raw (.bool x.1)],vL 7 32 (eO 3 eI) x.2,dP 23 a1,pL 24 a1,pI 25 x8.2.2]) (K:=fun x=>yfk x8 x=some o_x8) (fun x11 h=>?_) ?_))
  ·unfold yfk at h
   refine yhc (r_gq [dP 0 a0,dP 1 a1,bX 6 [.raw (.bool x11.1)],vL 7 32 (eO 3 eI) x11.2,dP 23 a1,pL 24 a1,pI 25 (w64 (x8.2.2+1))] [] trivial) ?_
   exact lqn (x11.1,x11.2,(w64 (x8.2.2+1))) h
  refine yda ?_
  obtain⟨v12,hv12,h⟩:=bs h
  refine kG [dP 0 a0,dP 1 a1,bX 6 [.raw (.bool x8.1)],vL 7 32 (eO 3 eI) x8.2.1,pI 8 x8.2.2,bP 9 v12,dP 23 a1,pL 24 a1,pI 25 x8.2.2] [hR 1 (ePt v12)] (A2 (yba hv12).1 (yca ePt (yba hv12).2)) ?_
  refine kG [dP 0 a0,dP 1 a1,bX 6 [.raw (.bool x8.1)],vL 7 32 (eO 3 eI) x8.2.1,pI 8 x8.2.2,bP 9 v12,dP 23 a1,pL 24 a1,pI 25 x8.2.2,dP 30 a1,pL 31 a1,pI 32 0] [hN 1 a1] (A1 (lnP a1)) ?_
  refine yda ?_
  obtain⟨y14,hl_x13,hk_x13⟩:=bs h
  clear h
  refine yyb (J:=fun (x:(Bool×(List (List Int))×Int))=>[dP 0 a0,dP 1 a1,bX 6 [.raw (.bool x.1)],vL 7 32 (eO 3 eI) x.2.1,pI 8 x8.2.2,bP 9 v12,dP 23 a1,pL 24 a1,pI 25 x8.2.2,dP 30 a1,pL 31 a1,pI 32 x.2.2]) hl_x13 wkk (fun x13 o_x13 h hy_x13=>?_)
  unfold yvb at h
  refine kG [dP 0 a0,dP 1 a1,bX 6 [.raw (.bool x13.1)],vL 7 32 (eO 3 eI) x13.2.1,pI 8 x8.2.2,bP 9 v12,dP 23 a1,pL 24 a1,pI 25 x8.2.2,dP 30 a1,pL 31 a1,pI 32 x13.2.2,pB 33 (decide (x13.2.2<(a1.length:Int)))] [] trivial ?_
  refine yeb (kI h (fun hc9_14 h=>?_) (fun hc9_14 h=>?_))
  ·refine yga (q_n (yeb (yda ?_)))
   obtain⟨v16,hv16,h⟩:=bs h
   refine kG [dP 0 a0,dP 1 a1,bX 6 [.raw (.bool x13.1)],vL 7 32 (eO 3 eI) x13.2.1,pI 8 x8.2.2,bP 9 v12,pI 10 x13.2.2,bP 11 v16,dP 23 a1,pL 24 a1,pI 25 x8.2.2,dP 30 a1,pL 31 a1,pI 32 x13.2.2] [hR 1 (ePt v16)] (A2 (yba hv16).1 (yca ePt (yba hv16).2)) ?_
   obtain⟨v17,hv17,h⟩:=bs h
   refine kG [dP 0 a0,dP 1 a1,bX 6 [.raw (.bool v17.2)],vL 7 32 (eO 3 eI) x13.2.1,pI 8 x8.2.2,bP 9 v12,pI 10 x13.2.2,dP 23 a1,pL 24 a1,pI 25 x8.2.2,dP 30 a1,pL 31 a1,pI 32 x13.2.2,pB 40 v17.1] [hT 3 [.p (.bool v17.1)] (.box [.raw (.bool v17.2)])] (A1 (ywx hv17)) ?_
   refine kI h (fun hc10_17 h=>?_) (fun hc10_17 h=>?_)
   ·obtain⟨v19,hv19,h⟩:=bs h
    obtain⟨v20,hv20,h⟩:=bs h
    refine yhc (r_gq [dP 0 a0,dP 1 a1,bX 6 [.raw (.bool v17.2)],vL 7 32 (eO 3 eI) (x13.2.1.set (Int.toNat x8.2.2) (v19.set (Int.toNat x13.2.2) 1)),pI 8 x8.2.2,bP 9 v12,dP 23 a1,pL 24 a1,pI 25 x8.2.2,dP 30 a1,pL 31 a1,pI 32 x13.2.2] [hR 2 [.sl (some 3) (v19.map eI)],hR 3 [.sl (some 3) (v19.map eI)],(5,{deep:=some [.sl (some 3) (v19.map eI)],row:=some (eI v20)}),(6,{row:=some (eI v20),fix:=some (vL 7 32 (eO 3 eI) (x13.2.1.set (Int.toNat x8.2.2) (v19.set (Int.toNat x13.2.2) 1)))})] (B6 (yba hv19).1 (yca (eO 3 eI) (yba hv19).2) (show frR [.sl (some 3) (v19.map eI)]=false from rfl) (gW 32 (eO 3 eI) hv19) (yba hv20).1 (yca eI (yba hv20).2) (A3 (gW 32 (eO 3 eI) hv19) (show getRow [[.sl (some 32) (x13.2.1.map (eO 3 eI))]] [(0,0),((Int.toNat x8.2.2),0),((Int.toNat x13.2.2),0)]=some (eI v20) from((gr0 rfl).trans ((grs (yca (eO 3 eI) (yba hv19).2) rfl).trans (gre (yca eI (yba hv20).2))))) (show(SV.ov false [.sl (some 32) (setL (x13.2.1.map (eO 3 eI)) [((Int.toNat x8.2.2),0),((Int.toNat x13.2.2),0)] [rI 1])]:SV)=.ov false [.sl (some 32) ((x13.2.1.set (Int.toNat x8.2.2) (v19.set (Int.toNat x13.2.2) 1)).map (eO 3 eI))] from(congrArg (fun z=>SV.ov false [.sl (some 32) z]) (set2 (f:=(eO 3 eI)) (y:=(v19.set (Int.toNat x13.2.2) 1)) (yba hv19).2 rfl (set1 (f:=eI) (y:=1) (yba hv20).2 rfl) rfl)))))) ?_
    refine b_n (q_n (yhc (r_gq [dP 0 a0,dP 1 a1,bX 6 [.raw (.bool v17.2)],vL 7 32 (eO 3 eI) (x13.2.1.set (Int.toNat x8.2.2) (v19.set (Int.toNat x13.2.2) 1)),pI 8 x8.2.2,bP 9 v12,dP 23 a1,pL 24 a1,pI 25 x8.2.2,dP 30 a1,pL 31 a1,pI 32 (w64 (x13.2.2+1))] [] trivial) ?_))
    exact lqn (v17.2,(x13.2.1.set (Int.toNat x8.2.2) (v19.set (Int.toNat x13.2.2) 1)),(w64 (x13.2.2+1))) h
   refine yga (b_n (q_n (yhc (r_gq [dP 0 a0,dP 1 a1,bX 6 [.raw (.bool v17.2)],vL 7 32 (eO 3 eI) x13.2.1,pI 8 x8.2.2,bP 9 v12,dP 23 a1,pL 24 a1,pI 25 x8.2.2,dP 30 a1,pL 31 a1,pI 32 (w64 (x13.2.2+1))] [] trivial) ?_)))
   exact lqn (v17.2,x13.2.1,(w64 (x13.2.2+1))) h
  refine yrb (q_x (lq_x (b_x (b_n ?_))))
  have hyy:=hy_x13 _ (oi h).symm
  subst hyy
  have h:=hk_x13
  refine q_n ?_
  exact jx (x13.1,x13.2.1) h
 refine yrb (q_x (lq_x (b_x ?_)))
 have hyy:=hy_x8 _ (oi h).symm
 subst hyy
 have h:=hk_x8
 refine q_n ?_
 exact jx (x8.1,x8.2.1) h
theorem yum {a0:(List Qp)} {a1:(List Qr)}  {r:((List (List Int))×Bool)} (h:ysc a0 a1=some r):Meets Tryz.prog 32 [.d false (sP a0),.d false [.sl none (a1.map eRt)]] { vals:=[rO 32 (eO 3 eI) r.1,.p (.bool r.2)] }:=by
 refine mo Tryz.func32 [dP 0 a0,dL 1 eRt a1] ?_
 unfold ysc at h
 refine kG [dP 0 a0,dL 1 eRt a1] [] trivial ?_
 refine yeb ?_
 obtain⟨v1,hv1,h⟩:=bs h
 refine kG [dP 0 a0,dL 1 eRt a1,pB 6 v1.1,pB 7 v1.2] [hC 2 [.p (.bool v1.1),.p (.bool v1.2)]] (A1 (yiu hv1)) ?_
 refine ynb (l1:=[dP 0 a0,dL 1 eRt a1,pB 19 ((!v1.2)||(!v1.1))]) ?_ ?_
 ·rcases ft (!v1.2) with ha0 | ha0
  ·exact RegOk.of_eq (r_gq [dP 0 a0,dL 1 eRt a1,pB 19 true] [(3,gT),(4,gT),(5,bT)] (A3 ha0 ha0 ha0)) (by simp[ha0])
  exact RegOk.of_eq (r_gq [dP 0 a0,dL 1 eRt a1,pB 19 (!v1.1)] [(3,gF),(4,gF),(5,bF)] (A3 ha0 ha0 ha0)) (by simp[ha0])
 refine kI h (fun hc2_1 h=>?_) (fun hc2_1 h=>?_)
 ·refine kG [vN 4 32,pB 5 false] [] trivial ?_
  refine ypa (q_r ?_)
  obtain rfl:=oi h
  exact er [(.ov false (oN 32),4),(.p (.bool false),5)]
 refine yga (q_n ?_)
 obtain⟨v3,hv3,h⟩:=bs h
 obtain⟨v4,hv4,h⟩:=bs h
 refine kG [vL 4 32 (eO 3 eI) v4.1,pB 5 v4.2] [hC 2 [.ov false (oP 40 v3)],(3,(cS [.d false (sP a0),.d false (sP v3)] [rO 32 (eO 3 eI) v4.1,.p (.bool v4.2)]))] (A5 (ydw hv3) (show List.all [.ov false (oP 40 v3)] simpleR=true from(sa_o (wnR1 (yvc (wn_P (wn_P wn_I wn_I) (wn_P wn_I wn_I))) rfl) rfl)) (show([.d false (sP a0),.d false [.sl none (eraL (v3.map ePt))]]:List Arg)=[.d false (sP a0),.d false (sP v3)] from(by simp only[erPt])) (ypz hv4) (show List.all [rO 32 (eO 3 eI) v4.1,.p (.bool v4.2)] simpleR=true from(sa_o (wnR1 (yvc (wn_O wn_I)) rfl) (sa_p rfl)))) ?_
 refine ypa ?_
 obtain rfl:=oi h
 exact er [(.ov false [.sl (some 32) (v4.1.map (eO 3 eI))],4),(.p (.bool v4.2),5)]
theorem yew {a0:Int} {a1:Int}  {r:Int} (h:yql a0 a1=some r):Meets Tryz.prog 161 [wI a0,wI a1] { vals:=[.p (iV r)] }:=by
 refine mo Tryz.func161 [pI 0 a0,pI 1 a1] ?_
 unfold yql at h
 refine kG [pI 0 a0,pI 1 a1] [] trivial ?_
 refine yeb (kG [pI 0 a0,pI 1 a1,pB 7 (decide (a0<a1))] [] trivial ?_)
 refine kI h (fun hc2_0 h=>?_) (fun hc2_0 h=>?_)
 ·refine kG [pI 4 a0] [] trivial ?_
  refine ypa (q_r ?_)
  obtain rfl:=oi h
  exact er [(.p (iV a0),4)]
 refine yga (q_n (kG [pI 4 a1] [] trivial ?_))
 refine ypa ?_
 obtain rfl:=oi h
 exact er [(.p (iV a1),4)]
theorem yfw {a0:(List Qp)} {a1:(List Qr)}  {r:((List (List Int))×Bool)} (h:yrj a0 a1=some r):Meets Tryz.prog 93 [.d false (sP a0),.d false [.sl none (a1.map eRt)]] { vals:=[rO 32 (eO 3 eI) r.1,.p (.bool r.2)] }:=by
 refine mo Tryz.func93 [dP 0 a0,dL 1 eRt a1] ?_
 unfold yrj at h
 refine kG [dP 0 a0,dL 1 eRt a1] [] trivial ?_
 obtain⟨v1,hv1,h⟩:=bs h
 refine kG [dP 0 a0,dL 1 eRt a1,pB 6 v1.1,pB 7 v1.2] [hC 2 [.p (.bool v1.1),.p (.bool v1.2)]] (A1 (ymq hv1)) ?_
 refine yeb (ynb (l1:=[dP 0 a0,dL 1 eRt a1,pB 25 ((!v1.1)||(!v1.2))]) ?_ ?_)
 ·rcases ft (!v1.1) with ha0 | ha0
  ·exact RegOk.of_eq (r_gq [dP 0 a0,dL 1 eRt a1,pB 25 true] [(3,gT),(4,gT),(5,bT)] (A3 ha0 ha0 ha0)) (by simp[ha0])
  exact RegOk.of_eq (r_gq [dP 0 a0,dL 1 eRt a1,pB 25 (!v1.2)] [(3,gF),(4,gF),(5,bF)] (A3 ha0 ha0 ha0)) (by simp[ha0])
 refine kI h (fun hc2_1 h=>?_) (fun hc2_1 h=>?_)
 ·refine kG [vN 4 32,pB 5 false] [] trivial ?_
  refine ypa (q_r ?_)
  obtain rfl:=oi h
  exact er [(.ov false (oN 32),4),(.p (.bool false),5)]
 refine yga (q_n ?_)
 obtain⟨v3,hv3,h⟩:=bs h
 refine kG [dL 1 eRt a1,vL 8 3 eI v3.1] [hC 2 [rO 3 eI v3.1,.p (.bool v3.2)]] (A2 (yju hv3) (show List.all [rO 3 eI v3.1,.p (.bool v3.2)] simpleR=true from(sa_o (wnR1 (yvc wn_I) rfl) (sa_p rfl)))) ?_
 refine kG [dL 1 eRt a1,vL 8 3 eI v3.1,vN 10 32] [] trivial ?_
 refine yjb (J:=fun (x:(List (List Int)))=>[vL 10 32 (eO 3 eI) x]) (K:=fun x=>ybp x=some r) (fun x4 h=>?_) ?_
 ·unfold ybp at h
  refine kG [vL 4 32 (eO 3 eI) x4,pB 5 true] [] trivial ?_
  refine ypa ?_
  obtain rfl:=oi h
  exact er [(.ov false [.sl (some 32) (x4.map (eO 3 eI))],4),(.p (.bool true),5)]
 refine kG [dL 1 eRt a1,vL 8 3 eI v3.1,vN 10 32,pI 11 1] [] trivial ?_
 refine yda ?_
 obtain⟨y6,hl_x5,hk_x5⟩:=bs h
 clear h
 refine yyb (J:=fun (x:((List (List Int))×Int))=>[dL 1 eRt a1,vL 8 3 eI v3.1,vL 10 32 (eO 3 eI) x.1,pI 11 x.2]) hl_x5 wkk (fun x5 o_x5 h hy_x5=>?_)
 unfold yni at h
 refine yeb (kG [dL 1 eRt a1,vL 8 3 eI v3.1,vL 10 32 (eO 3 eI) x5.1,pI 11 x5.2,pB 35 (decide (x5.2<(a1.length:Int)))] [hN 2 a1] (A1 (lF eRt a1)) ?_)
 refine kI h (fun hc5_6 h=>?_) (fun hc5_6 h=>?_)
 ·refine yga (q_n (yjb (J:=fun (x:(List (List Int)))=>[dL 1 eRt a1,vL 8 3 eI v3.1,vL 10 32 (eO 3 eI) x,pI 11 x5.2]) (K:=fun x=>ycp x5 x=some o_x5) (fun x8 h=>?_) ?_))
  ·unfold ycp at h
   refine yhc (r_gq [dL 1 eRt a1,vL 8 3 eI v3.1,vL 10 32 (eO 3 eI) x8,pI 11 (w64 (x5.2+1))] [] trivial) ?_
   exact lqn (x8,(w64 (x5.2+1))) h
  refine yda ?_
  obtain⟨u9,hu9,h⟩:=bs h
  refine kG [dL 1 eRt a1,vL 8 3 eI v3.1,vL 10 32 (eO 3 eI) x5.1,pI 11 x5.2,vL 12 3 eI (List.replicate (Int.toNat (w64 ((a1.length:Int)-1))) (0:Int))] [hN 1 a1,(3,{fix:=some (vL 41 3 eI (List.replicate (Int.toNat (w64 ((a1.length:Int)-1))) (0:Int)))})] (A5 (lF eRt a1) (show(w64 ((a1.length:Int)-1))=(w64 ((a1.length:Int)-1)) from rfl) (ysa hu9).1 (ysa hu9).2 (show(SV.ov false [.sl (some 3) (List.replicate (Int.toNat (w64 ((a1.length:Int)-1))) [rI 0])]:SV)=.ov false [.sl (some 3) ((List.replicate (Int.toNat (w64 ((a1.length:Int)-1))) (0:Int)).map eI)] from(congrArg (fun z=>SV.ov false [.sl (some 3) z]) (yth1 eI (0:Int))))) ?_
  refine yjb (J:=fun (x:(List Int))=>[dL 1 eRt a1,vL 8 3 eI v3.1,vL 10 32 (eO 3 eI) x5.1,pI 11 x5.2,vL 12 3 eI x]) (K:=fun x=>ydp x5 x=some o_x5) (fun x10 h=>?_) ?_
  ·unfold ydp at h
   obtain⟨u11,hu11,h⟩:=bs h
   refine yhc (r_gq [dL 1 eRt a1,vL 8 3 eI v3.1,vL 10 32 (eO 3 eI) (x5.1++[x10]),pI 11 x5.2] [(3,{fix:=some (vL 72 32 (eO 3 eI) (x5.1++[x10]))})] (A3 (lG' (eO 3 eI) hu11) (show ∀ row∈((([x10]).map (eO 3 eI)):List (List C)),row.length=1 from(yfc fun _=>rfl)) (aP' 32 (eO 3 eI) x5.1 ([x10])))) ?_
   refine b_n (q_n ?_)
   exact jx (x5.1++[x10]) h
  obtain⟨v12,hv12,h⟩:=bs h
  obtain⟨v13,hv13,h⟩:=bs h
  obtain⟨v14,hv14,h⟩:=bs h
  refine ynb (r_dq yfa 9 [] [dL 1 eRt a1,vL 8 3 eI v3.1,vL 10 32 (eO 3 eI) x5.1,pI 11 x5.2,vL 12 3 eI (List.replicate (Int.toNat (w64 ((a1.length:Int)-1))) (0:Int)),pI 13 v14] [hR 3 (eI v12),hR 4 (eI v12),hR 7 (eI v13),hR 8 (eI v13),hC 9 [.p (iV v14)]] (B6 (yba hv12).1 (yca eI (yba hv12).2) (gW 3 eI hv12) (yba hv13).1 (yca eI (yba hv13).2) (gW 3 eI hv13) (A1 (yew hv14)))) ?_
  refine yda ?_
  obtain⟨y16,hl_x15,hk_x15⟩:=bs h
  clear h
  refine yyb (J:=fun (x:((List Int)×Int))=>[dL 1 eRt a1,vL 8 3 eI v3.1,vL 10 32 (eO 3 eI) x5.1,pI 11 x5.2,vL 12 3 eI x.1,pI 13 x.2]) hl_x15 wkk (fun x15 o_x15 h hy_x15=>?_)
  unfold ymi at h
  refine yeb ?_
  obtain⟨v17,hv17,h⟩:=bs h
  refine ynb (r_dq yfa 11 [] [dL 1 eRt a1,vL 8 3 eI v3.1,vL 10 32 (eO 3 eI) x5.1,pI 11 x5.2,vL 12 3 eI x15.1,pI 13 x15.2,pB 63 (decide (x15.2<v17))] [hR 4 (eI v12),hR 5 (eI v12),hR 8 (eI v13),hR 9 (eI v13),hC 10 [.p (iV v17)]] (B6 (yba hv12).1 (yca eI (yba hv12).2) (gW 3 eI hv12) (yba hv13).1 (yca eI (yba hv13).2) (gW 3 eI hv13) (A1 (yqx hv17)))) ?_
  refine kI h (fun hc10_17 h=>?_) (fun hc10_17 h=>?_)
  ·refine yga (q_n (yeb (yda ?_)))
   obtain⟨v19,hv19,h⟩:=bs h
   refine yhc (r_gq [dL 1 eRt a1,vL 8 3 eI v3.1,vL 10 32 (eO 3 eI) x5.1,pI 11 x5.2,vL 12 3 eI (x15.1.set (Int.toNat x15.2) 1),pI 13 x15.2] [hR 2 (eI v19),(3,{row:=some (eI v19),fix:=some (vL 12 3 eI (x15.1.set (Int.toNat x15.2) 1))})] (A4 (yba hv19).1 (yca eI (yba hv19).2) (gW 3 eI hv19) (show(SV.ov false [.sl (some 3) (setL (x15.1.map eI) [((Int.toNat x15.2),0)] [rI 1])]:SV)=.ov false [.sl (some 3) ((x15.1.set (Int.toNat x15.2) 1).map eI)] from(congrArg (fun z=>SV.ov false [.sl (some 3) z]) (set1 (f:=eI) (y:=1) (yba hv19).2 rfl))))) ?_
   refine b_n (q_n (yhc (r_gq [dL 1 eRt a1,vL 8 3 eI v3.1,vL 10 32 (eO 3 eI) x5.1,pI 11 x5.2,vL 12 3 eI (x15.1.set (Int.toNat x15.2) 1),pI 13 (w64 (x15.2+1))] [] trivial) ?_))
   exact lqn ((x15.1.set (Int.toNat x15.2) 1),(w64 (x15.2+1))) h
  refine yrb (q_x (lq_x (b_x ?_)))
  have hyy:=hy_x15 _ (oi h).symm
  subst hyy
  have h:=hk_x15
  refine q_n ?_
  exact jx x15.1 h
 refine yrb (q_x (lq_x (b_x ?_)))
 have hyy:=hy_x5 _ (oi h).symm
 subst hyy
 have h:=hk_x5
 refine q_n ?_
 exact jx x5.1 h
theorem yvr {a0:(List Qp)} {a1:(List Qr)}  {r:((List (List Int))×Bool)} (h:yyd a0 a1=some r):Meets Tryz.prog 33 [.d false (sP a0),.d false [.sl none (a1.map eRt)]] { vals:=[rO 32 (eO 3 eI) r.1,.p (.bool r.2)] }:=by
 refine mo Tryz.func33 [dP 0 a0,dL 1 eRt a1] ?_
 unfold yyd at h
 refine kG [dP 0 a0,dL 1 eRt a1] [] trivial ?_
 refine yeb ?_
 obtain⟨v1,hv1,h⟩:=bs h
 refine kG [dP 0 a0,dL 1 eRt a1,pB 9 (!v1)] [hC 2 [.p (.bool v1)]] (A1 (yjg hv1)) ?_
 refine kI h (fun hc2_1 h=>?_) (fun hc2_1 h=>?_)
 ·refine kG [vN 4 32,pB 5 false] [] trivial ?_
  refine ypa (q_r ?_)
  obtain rfl:=oi h
  exact er [(.ov false (oN 32),4),(.p (.bool false),5)]
 refine yga (q_n ?_)
 obtain⟨v3,hv3,h⟩:=bs h
 refine kG [vL 4 32 (eO 3 eI) v3.1,pB 5 v3.2] [hC 2 [rO 32 (eO 3 eI) v3.1,.p (.bool v3.2)]] (A2 (yfw hv3) (show List.all [rO 32 (eO 3 eI) v3.1,.p (.bool v3.2)] simpleR=true from(sa_o (wnR1 (yvc (wn_O wn_I)) rfl) (sa_p rfl)))) ?_
 refine ypa ?_
 obtain rfl:=oi h
 exact er [(.ov false [.sl (some 32) (v3.1.map (eO 3 eI))],4),(.p (.bool v3.2),5)]
theorem ycj {a0:(List Int)} {a1:(List Int)}  {r:Bool} (h:ymj a0 a1=some r):Meets Tryz.prog 16 [.d false [.sl none (a0.map eI)],.d false [.sl none (a1.map eI)]] { vals:=[.p (.bool r)] }:=by
 refine mo Tryz.func16 [dL 0 eI a0,dL 1 eI a1] ?_
 unfold ymj at h
 refine kG [dL 0 eI a0,dL 1 eI a1] [] trivial ?_
 refine yeb (kG [dL 0 eI a0,dL 1 eI a1,pB 10 ((a0.length:Int) != (a1.length:Int))] [hN 1 a0,hN 3 a1] (A2 (lF eI a0) (lF eI a1)) ?_)
 refine kI h (fun hc2_0 h=>?_) (fun hc2_0 h=>?_)
 ·refine kG [pB 4 false] [] trivial ?_
  refine ypa (q_r ?_)
  obtain rfl:=oi h
  exact er [(.p (.bool false),4)]
 refine yga (q_n (yjb (J:=fun (x:Unit)=>[]) (K:=fun x=>yhn x=some r) (fun x2 h=>?_) ?_))
 ·unfold yhn at h
  refine kG [pB 4 true] [] trivial ?_
  refine ypa ?_
  obtain rfl:=oi h
  exact er [(.p (.bool true),4)]
 refine kG [dL 0 eI a0,dL 1 eI a1,pL 12 a0,pI 13 0] [hN 1 a0] (A1 (lF eI a0)) ?_
 refine yda ?_
 obtain⟨y4,hl_x3,hk_x3⟩:=bs h
 clear h
 refine yyb (J:=fun (x:Int)=>[dL 0 eI a0,dL 1 eI a1,pL 12 a0,pI 13 x]) hl_x3 wkk (fun x3 o_x3 h hy_x3=>?_)
 unfold ywg at h
 refine kG [dL 0 eI a0,dL 1 eI a1,pL 12 a0,pI 13 x3,pB 14 (decide (x3<(a0.length:Int)))] [] trivial ?_
 refine yeb (kI h (fun hc5_4 h=>?_) (fun hc5_4 h=>?_))
 ·refine yga (q_n (yeb (yda (kG [dL 0 eI a0,dL 1 eI a1,pI 5 x3,pL 12 a0,pI 13 x3] [] trivial ?_))))
  obtain⟨v6,hv6,h⟩:=bs h
  obtain⟨v7,hv7,h⟩:=bs h
  refine ynb (r_dq yfa 8 [] [dL 0 eI a0,dL 1 eI a1,pL 12 a0,pI 13 x3,pB 24 (v6 != v7)] [hR 2 (eI v6),hR 6 (eI v7)] (A4 (yba hv6).1 (yca eI (yba hv6).2) (yba hv7).1 (yca eI (yba hv7).2))) ?_
  refine kI h (fun hc6_7 h=>?_) (fun hc6_7 h=>?_)
  ·refine kG [pB 4 false] [] trivial ?_
   refine ypa (b_r (q_r (lq_r ?_)))
   refine b_r (q_r ?_)
   have hyy:=hy_x3 _ (oi h).symm
   subst hyy
   have h:=hk_x3
   dsimp only[Sum.elim] at h
   obtain rfl:=oi h
   exact er [(.p (.bool false),4)]
  refine yga (b_n (q_n (yhc (r_gq [dL 0 eI a0,dL 1 eI a1,pL 12 a0,pI 13 (w64 (x3+1))] [] trivial) ?_)))
  exact lqn (w64 (x3+1)) h
 refine yrb (q_x (lq_x (b_x ?_)))
 have hyy:=hy_x3 _ (oi h).symm
 subst hyy
 have h:=hk_x3
 dsimp only[Sum.elim] at h
 refine q_n ?_
 exact jx () h
theorem ywc {a0:(List (List Int))} {a1:(List (List Int))}  {r:Bool} (h:yuh a0 a1=some r):Meets Tryz.prog 34 [.d false [.sl none (a0.map (eF eI))],.d false [.sl none (a1.map (eF eI))]] { vals:=[.p (.bool r)] }:=by
 refine mo Tryz.func34 [dL 0 (eF eI) a0,dL 1 (eF eI) a1] ?_
 unfold yuh at h
 refine kG [dL 0 (eF eI) a0,dL 1 (eF eI) a1] [] trivial ?_
 refine yeb (kG [dL 0 (eF eI) a0,dL 1 (eF eI) a1,pB 10 ((a0.length:Int) != (a1.length:Int))] [hN 1 a0,hN 3 a1] (A2 (lF (eF eI) a0) (lF (eF eI) a1)) ?_)
 refine kI h (fun hc2_0 h=>?_) (fun hc2_0 h=>?_)
 ·refine kG [pB 4 false] [] trivial ?_
  refine ypa (q_r ?_)
  obtain rfl:=oi h
  exact er [(.p (.bool false),4)]
 refine yga (q_n (yjb (J:=fun (x:Unit)=>[]) (K:=fun x=>ykl x=some r) (fun x2 h=>?_) ?_))
 ·unfold ykl at h
  refine kG [pB 4 true] [] trivial ?_
  refine ypa ?_
  obtain rfl:=oi h
  exact er [(.p (.bool true),4)]
 refine kG [dL 0 (eF eI) a0,dL 1 (eF eI) a1,pL 12 a0,pI 13 0] [hN 1 a0] (A1 (lF (eF eI) a0)) ?_
 refine yda ?_
 obtain⟨y4,hl_x3,hk_x3⟩:=bs h
 clear h
 refine yyb (J:=fun (x:Int)=>[dL 0 (eF eI) a0,dL 1 (eF eI) a1,pL 12 a0,pI 13 x]) hl_x3 wkk (fun x3 o_x3 h hy_x3=>?_)
 unfold yhf at h
 refine kG [dL 0 (eF eI) a0,dL 1 (eF eI) a1,pL 12 a0,pI 13 x3,pB 14 (decide (x3<(a0.length:Int)))] [] trivial ?_
 refine yeb (kI h (fun hc5_4 h=>?_) (fun hc5_4 h=>?_))
 ·refine yga (q_n (yeb (yda (kG [dL 0 (eF eI) a0,dL 1 (eF eI) a1,pI 5 x3,pL 12 a0,pI 13 x3] [] trivial ?_))))
  obtain⟨v6,hv6,h⟩:=bs h
  obtain⟨v7,hv7,h⟩:=bs h
  obtain⟨v8,hv8,h⟩:=bs h
  refine ynb (r_dq yfa 8 [] [dL 0 (eF eI) a0,dL 1 (eF eI) a1,pL 12 a0,pI 13 x3,pB 25 (!v8)] [hR 2 [.sl none (v6.map eI)],hR 6 [.sl none (v7.map eI)],hC 8 [.p (.bool v8)]] (A5 (yba hv6).1 (yca (eF eI) (yba hv6).2) (yba hv7).1 (yca (eF eI) (yba hv7).2) (ycj hv8))) ?_
  refine kI h (fun hc6_8 h=>?_) (fun hc6_8 h=>?_)
  ·refine kG [pB 4 false] [] trivial ?_
   refine ypa (b_r (q_r (lq_r ?_)))
   refine b_r (q_r ?_)
   have hyy:=hy_x3 _ (oi h).symm
   subst hyy
   have h:=hk_x3
   dsimp only[Sum.elim] at h
   obtain rfl:=oi h
   exact er [(.p (.bool false),4)]
  refine yga (b_n (q_n (yhc (r_gq [dL 0 (eF eI) a0,dL 1 (eF eI) a1,pL 12 a0,pI 13 (w64 (x3+1))] [] trivial) ?_)))
  exact lqn (w64 (x3+1)) h
 refine yrb (q_x (lq_x (b_x ?_)))
 have hyy:=hy_x3 _ (oi h).symm
 subst hyy
 have h:=hk_x3
 dsimp only[Sum.elim] at h
 refine q_n ?_
 exact jx () h
theorem ywr {a0:(List Qr)}  {r:Bool} (h:ybh a0=some r):Meets Tryz.prog 35 [.d false [.sl none (a0.map eRt)]] { vals:=[.p (.bool r)] }:=by
 refine mo Tryz.func35 [dL 0 eRt a0] ?_
 unfold ybh at h
 refine kG [dL 0 eRt a0] [] trivial ?_
 obtain⟨v1,hv1,h⟩:=bs h
 refine kG [pB 2 v1] [hC 1 [.p (.bool v1)]] (A1 (yhd hv1)) ?_
 refine ypa ?_
 obtain rfl:=oi h
 exact er [(.p (.bool v1),2)]
theorem ybi1 {a0:Qr} {a1:Qr}  {r:Bool} (h:yny a0 a1=some r):Meets Tryz.prog 95 [.v (vRt a0),.v (vRt a1)] { vals:=[.p (.bool r)] }:=by
 refine mo Tryz.func95 [(0,.p (vRt a0)),(1,.p (vRt a1))] ?_
 unfold yny at h
 refine kG [bR 2 a0,bR 3 a1] [] trivial ?_
 obtain⟨v1,hv1,h⟩:=bs h
 obtain⟨w3,hw3,h⟩:=bs h
 refine ynb (l1:=[pB 4 w3]) ?_ ?_
 ·clear h
  rcases ft v1 with ha0 | ha0
  ·obtain⟨v2,hv2,hw3⟩:=bs (yjh ha0 hw3)
   have hw3:=oi hw3
   subst hw3
   exact(r_gq [pB 4 v2] [hC 1 [.p (.bool v1)],(3,gT),(4,{g:=some true,call:=some (none,[.p (.bool v2)],true)}),(5,bT)] (A5 (ytj hv1) ha0 ha0 (ytj hv2) ha0))
  replace hw3:=ykh ha0 hw3
  have hw3:=oi hw3
  subst hw3
  exact(r_gq [pB 4 false] [hC 1 [.p (.bool v1)],(3,gF),(4,gF),(5,bF)] (A4 (ytj hv1) ha0 ha0 ha0))
 refine ypa ?_
 obtain rfl:=oi h
 exact er [(.p (.bool w3),4)]
theorem yyf1 {a0:Qr} {a1:Qr}  {r:(Qr×Bool)} (h:yxv a0 a1=some r):Meets Tryz.prog 96 [.v (vRt a0),.v (vRt a1)] { vals:=[.p (vRt r.1),.p (.bool r.2)] }:=by
 refine mo Tryz.func96 [(0,.p (vRt a0)),(1,.p (vRt a1))] ?_
 unfold yxv at h
 refine kG [bR 2 a0,bR 3 a1,bX 4 zR] [] trivial ?_
 obtain⟨v1,hv1,h⟩:=bs h
 refine kG [bR 4 v1.1,pB 5 v1.2] [hC 17 [.p (vRt v1.1),.p (.bool v1.2)]] (A1 (ycc hv1)) ?_
 refine ypa ?_
 obtain rfl:=oi h
 exact er [(.p (vRt v1.1),4),(.p (.bool v1.2),5)]
theorem ync1 {a0:Qr} {a1:Qr}  {r:(Qr×Bool)} (h:yqp a0 a1=some r):Meets Tryz.prog 36 [.v (vRt a0),.v (vRt a1)] { vals:=[.p (vRt r.1),.p (.bool r.2)] }:=by
 refine mo Tryz.func36 [(0,.p (vRt a0)),(1,.p (vRt a1))] ?_
 unfold yqp at h
 refine kG [bR 2 a0,bR 3 a1,bX 4 zR] [] trivial ?_
 refine yeb ?_
 obtain⟨v1,hv1,h⟩:=bs h
 refine kG [bR 2 a0,bR 3 a1,bX 4 zR,pB 9 (!v1)] [hC 2 [.p (.bool v1)]] (A1 (ybi1 hv1)) ?_
 refine kI h (fun hc2_1 h=>?_) (fun hc2_1 h=>?_)
 ·refine kG [bX 4 zR,pB 5 false] [] trivial ?_
  refine ypa (q_r ?_)
  obtain rfl:=oi h
  exact er [(.p (.agg #[.int .i64 0,.int .i64 0]),4),(.p (.bool false),5)]
 refine yga (q_n ?_)
 obtain⟨v3,hv3,h⟩:=bs h
 refine kG [bR 4 v3.1,pB 5 v3.2] [hC 2 [.p (vRt v3.1),.p (.bool v3.2)]] (A1 (yyf1 hv3)) ?_
 refine ypa ?_
 obtain rfl:=oi h
 exact er [(.p (vRt v3.1),4),(.p (.bool v3.2),5)]
theorem yxd1 {a0:(List Qp)} {a1:Qr}  {r:(Qr×Bool)} (h:ywl a0 a1=some r):Meets Tryz.prog 37 [.d false (sP a0),.v (vRt a1)] { vals:=[.p (vRt r.1),.p (.bool r.2)] }:=by
 refine mo Tryz.func37 [dP 0 a0,(1,.p (vRt a1))] ?_
 unfold ywl at h
 refine kG [dP 0 a0,bR 3 a1,bX 4 zR] [] trivial ?_
 refine yeb ?_
 obtain⟨v1,hv1,h⟩:=bs h
 obtain⟨w3,hw3,h⟩:=bs h
 refine ynb (l1:=[dP 0 a0,bR 3 a1,bX 4 zR,pB 13 w3]) ?_ ?_
 ·clear h
  rcases ft (!v1) with ha0 | ha0
  ·replace hw3:=yjh ha0 hw3
   have hw3:=oi hw3
   subst hw3
   exact(r_gq [dP 0 a0,bR 3 a1,bX 4 zR,pB 13 true] [hC 1 [.p (.bool v1)],(4,gT),(5,gT),(6,gT),(7,bT)] (A5 (yoh hv1) ha0 ha0 ha0 ha0))
  obtain⟨v2,hv2,hw3⟩:=bs (ykh ha0 hw3)
  have hw3:=oi hw3
  subst hw3
  exact(r_gq [dP 0 a0,bR 3 a1,bX 4 zR,pB 13 (!v2)] [hC 1 [.p (.bool v1)],(4,gF),(5,(gN [.p (.bool v2)])),(6,gF),(7,bF)] (A6 (yoh hv1) ha0 ha0 (ybe hv2) ha0 ha0))
 refine kI h (fun hc2_3 h=>?_) (fun hc2_3 h=>?_)
 ·refine kG [bX 4 zR,pB 5 false] [] trivial ?_
  refine ypa (q_r ?_)
  obtain rfl:=oi h
  exact er [(.p (.agg #[.int .i64 0,.int .i64 0]),4),(.p (.bool false),5)]
 refine yga (q_n ?_)
 obtain⟨v5,hv5,h⟩:=bs h
 refine kG [bR 4 v5.1,pB 5 v5.2] [hC 2 [.p (vRt v5.1),.p (.bool v5.2)]] (A1 (yjt hv5)) ?_
 refine ypa ?_
 obtain rfl:=oi h
 exact er [(.p (vRt v5.1),4),(.p (.bool v5.2),5)]
end Go.PV

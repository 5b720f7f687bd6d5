/-
  Walks through the functions that the law reaches: each answers as its plain definition does.
  Conditions: none.
-/
import Derived.KernelRfl
import Derived.Test.YtigabkbbbpokbaaGreatWChainsPartA
import Derived.Test.YtigabkbbbpokbaaGreatProg
import Derived.Test.YtigabkbbbpokbaaGreatSrtYtigabkbbbpokbaaGreat
import Derived.Test.YtigabkbbbpokbaaGreatPvCx
open Go Go.PV Go.Proofs
set_option linter.all false
namespace Go.PV
attribute [local irreducible] pvC pvL pvD sOp seqQ blockQ Meets MeetsB Ok OkL RegOk agree endQ seqL blockL loopQ endL endLB OkV Takes
theorem yrv {a0:(List Qp)} {a1:Bool}  {r:((List Qr)×Bool)} (h:yaj a0 a1=some r):Meets Tryz.prog 87 [.d false (sP a0),.v (.bool a1)] { vals:=[rO 38 eRt r.1,.p (.bool r.2)] }:=by
 refine mo Tryz.func87 [dP 0 a0,pB 1 a1] ?_
 unfold yaj at h
 refine kG [dP 0 a0,pB 1 a1] [] trivial ?_
 obtain⟨v1,hv1,h⟩:=bs h
 obtain⟨v2,hv2,h⟩:=bs h
 obtain⟨v3,hv3,h⟩:=bs h
 refine kG [dP 0 a0,pB 1 a1,vL 6 38 eRt v3] [hC 0 [.p (vRt v1)],hC 2 [.p (vRt v2)],(3,{lend:=some (none,[rO 38 eRt v3],.u,true)})] (A4 (ydb hv1) (ydb hv2) (yxd hv3) (sR' 38 v3)) ?_
 refine yib (J:=fun (x:(List Qr))=>[dP 0 a0,vL 6 38 eRt x]) (K:=fun x=>yli a0 x=some r) (fun x4 h=>?_) ?_
 ·unfold yli at h
  refine yib (J:=fun (x:(List Qr))=>[vL 6 38 eRt x]) (K:=fun x=>ynm x=some r) (fun x5 h=>?_) ?_
  ·unfold ynm at h
   refine kG [vL 4 38 eRt x5,pB 5 true] [] trivial ?_
   refine yra ?_
   obtain rfl:=oi h
   exact er [(.ov false [.sl (some 38) (x5.map eRt)],4),(.p (.bool true),5)]
  refine kG [dP 0 a0,vL 6 38 eRt x4,pB 9 true] [] trivial ?_
  refine yfa ?_
  obtain⟨y7,hl_x6,hk_x6⟩:=bs h
  clear h
  refine yfc (J:=fun (x:((List Qr)×Bool))=>[dP 0 a0,vL 6 38 eRt x.1,pB 9 x.2]) hl_x6 wkk (fun x6 o_x6 h hy_x6=>?_)
  unfold ypm at h
  refine yab (kG [dP 0 a0,vL 6 38 eRt x6.1,pB 30 x6.2] [] trivial ?_)
  refine kI h (fun hc5_7 h=>?_) (fun hc5_7 h=>?_)
  ·refine yga (q_n (yfa (kG [dP 0 a0,vL 6 38 eRt x6.1,pB 9 false] [] trivial ?_)))
   refine yab (kG [dP 0 a0,vL 6 38 eRt x6.1,pB 9 false,pB 33 (decide ((x6.1.length:Int)>9))] [hN 1 x6.1] (A1 (lF eRt x6.1)) ?_)
   refine kI h (fun hc6_8 h=>?_) (fun hc6_8 h=>?_)
   ·refine kG [vN 4 38,pB 5 false] [] trivial ?_
    refine yra (q_r (b_r (lq_r ?_)))
    refine b_r (q_r ?_)
    have hyy:=hy_x6 _ (oi h).symm
    subst hyy
    have h:=hk_x6
    dsimp only[Sum.elim] at h
    obtain rfl:=oi h
    exact er [(.ov false (oN 38),4),(.p (.bool false),5)]
   refine yga (q_n (kG [dP 0 a0,vL 6 38 eRt x6.1,pB 9 false,rF 34 6,pL 35 x6.1,pI 36 0] [hN 1 x6.1] (A1 (lF eRt x6.1)) ?_))
   refine yfa ?_
   obtain⟨y11,hl_x10,hk_x10⟩:=bs h
   clear h
   refine yfc (J:=fun (x:Int)=>[dP 0 a0,vL 6 38 eRt x6.1,pB 9 false,rF 34 6,pL 35 x6.1,pI 36 x]) hl_x10 wkk (fun x10 o_x10 h hy_x10=>?_)
   unfold yom at h
   refine kG [dP 0 a0,vL 6 38 eRt x6.1,pB 9 false,rF 34 6,pL 35 x6.1,pI 36 x10,pB 37 (decide (x10<(x6.1.length:Int)))] [] trivial ?_
   refine yab (kI h (fun hc8_11 h=>?_) (fun hc8_11 h=>?_))
   ·refine yga (q_n (yab (yfa ?_)))
    obtain⟨v13,hv13,h⟩:=bs h
    refine kG [dP 0 a0,vL 6 38 eRt x6.1,pB 9 false,bR 11 v13,rF 34 6,pL 35 x6.1,pI 36 x10] [hR 0 (eRt v13),hR 1 (eRt v13)] (A3 (yba hv13).1 (yca eRt (yba hv13).2) (gW 38 eRt hv13)) ?_
    obtain⟨v14,hv14,h⟩:=bs h
    refine kG [dP 0 a0,vL 6 38 eRt x6.1,pB 9 false,bR 12 v14.1,pB 13 v14.2,rF 34 6,pL 35 x6.1,pI 36 x10] [hC 2 [.p (vRt v14.1),.p (.bool v14.2)]] (A1 (ybn hv14)) ?_
    refine yab (kG [dP 0 a0,vL 6 38 eRt x6.1,pB 9 false,bR 12 v14.1,rF 34 6,pL 35 x6.1,pI 36 x10,pB 47 (!v14.2)] [] trivial ?_)
    refine kI h (fun hc10_14 h=>?_) (fun hc10_14 h=>?_)
    ·refine kG [vN 4 38,pB 5 false] [] trivial ?_
     refine yra (q_r (b_r (q_r (lq_r ?_))))
     refine b_r (b_r (lq_r ?_))
     refine b_r (q_r ?_)
     have hyy:=hy_x10 _ (oi h).symm
     subst hyy
     have h:=hk_x10
     dsimp only[Sum.elim] at h
     have hyy:=hy_x6 _ (oi h).symm
     subst hyy
     have h:=hk_x6
     dsimp only[Sum.elim] at h
     obtain rfl:=oi h
     exact er [(.ov false (oN 38),4),(.p (.bool false),5)]
    refine yga (q_n ?_)
    obtain⟨v16,hv16,h⟩:=bs h
    refine kG [dP 0 a0,vL 6 38 eRt x6.1,pB 9 false,bR 12 v14.1,rF 34 6,pL 35 x6.1,pI 36 x10,pB 51 (decide (v16<0))] [(2,(cS [.d false [.sl none (x6.1.map eRt)],.v (vRt v14.1)] [.p (iV v16)]))] (A2 (show([.d false [.sl none (eraL (x6.1.map eRt))],.v (vRt v14.1)]:List Arg)=[.d false [.sl none (x6.1.map eRt)],.v (vRt v14.1)] from(by simp only[yua (h:=eRt) (yku er_I er_I)])) (yqc1 hv16)) ?_
    refine kI h (fun hc9_16 h=>?_) (fun hc9_16 h=>?_)
    ·obtain⟨v18,hv18,h⟩:=bs h
     refine kG [dP 0 a0,vL 6 38 eRt v18] [(2,{lend:=some (none,[rO 38 eRt v18],.u,true)})] (A2 (yxd hv18) (sR' 38 v18)) ?_
     refine kG [dP 0 a0,vL 6 38 eRt v18,pB 9 true] [] trivial ?_
     refine ywb (b_y rfl ?_)
     refine q_x (lq_x (b_x (b_n ?_)))
     have hyy:=hy_x10 _ (oi h).symm
     subst hyy
     have h:=hk_x10
     dsimp only[Sum.elim] at h
     exact lqn (v18,true) h
    refine yga (b_n (q_n (yub (r_gq [dP 0 a0,vL 6 38 eRt x6.1,pB 9 false,rF 34 6,pL 35 x6.1,pI 36 (w64 (x10+1))] [] trivial) ?_)))
    exact lqn (w64 (x10+1)) h
   refine ywb (q_x (lq_x (b_x (b_n ?_))))
   have hyy:=hy_x10 _ (oi h).symm
   subst hyy
   have h:=hk_x10
   dsimp only[Sum.elim] at h
   exact lqn (x6.1,false) h
  refine ywb (q_x (lq_x (b_x ?_)))
  have hyy:=hy_x6 _ (oi h).symm
  subst hyy
  have h:=hk_x6
  dsimp only[Sum.elim] at h
  refine q_n ?_
  exact jx x6.1 h
 obtain⟨v19,hv19,h⟩:=bs h
 refine kG [dP 0 a0,vL 6 38 eRt v3,vL 20 38 eRt v19,pL 21 v19,pI 22 0] [hC 2 [rO 38 eRt v19],hN 3 v19] (A3 (yez hv19) (sR' 38 v19) (lF eRt v19)) ?_
 refine yfa ?_
 obtain⟨y21,hl_x20,hk_x20⟩:=bs h
 clear h
 refine yfc (J:=fun (x:((List Qr)×Int))=>[dP 0 a0,vL 6 38 eRt x.1,vL 20 38 eRt v19,pL 21 v19,pI 22 x.2]) hl_x20 wkk (fun x20 o_x20 h hy_x20=>?_)
 unfold yqm at h
 refine kG [dP 0 a0,vL 6 38 eRt x20.1,vL 20 38 eRt v19,pL 21 v19,pI 22 x20.2,pB 23 (decide (x20.2<(v19.length:Int)))] [] trivial ?_
 refine yab (kI h (fun hc5_21 h=>?_) (fun hc5_21 h=>?_))
 ·refine yga (q_n (yab (yfa ?_)))
  obtain⟨v23,hv23,h⟩:=bs h
  refine kG [dP 0 a0,vL 6 38 eRt x20.1,bR 8 v23,vL 20 38 eRt v19,pL 21 v19,pI 22 x20.2] [hR 0 (eRt v23),hR 1 (eRt v23)] (A3 (yba hv23).1 (yca eRt (yba hv23).2) (gW 38 eRt hv23)) ?_
  obtain⟨v24,hv24,h⟩:=bs h
  refine yub (r_gq [dP 0 a0,vL 6 38 eRt v24,vL 20 38 eRt v19,pL 21 v19,pI 22 x20.2] [(2,{lend:=some (none,[rO 38 eRt v24],.u,true)})] (A2 (yxd hv24) (sR' 38 v24))) ?_
  refine b_n (q_n (yub (r_gq [dP 0 a0,vL 6 38 eRt v24,vL 20 38 eRt v19,pL 21 v19,pI 22 (w64 (x20.2+1))] [] trivial) ?_))
  exact lqn (v24,(w64 (x20.2+1))) h
 refine ywb (q_x (lq_x (b_x ?_)))
 have hyy:=hy_x20 _ (oi h).symm
 subst hyy
 have h:=hk_x20
 refine q_n ?_
 exact jx x20.1 h
theorem yca1 {a0:(List Qp)} {a1:Qr} {a2:Qr}  {r:(Qr×Qr×Bool)} (h:ytp a0 a1 a2=some r):Meets Tryz.prog 145 [.d false (sP a0),.v (vRt a1),.v (vRt a2)] { vals:=[.p (vRt r.1),.p (vRt r.2.1),.p (.bool r.2.2)] }:=by
 refine mo Tryz.func145 [dP 0 a0,(1,.p (vRt a1)),(2,.p (vRt a2))] ?_
 unfold ytp at h
 refine kG [dP 0 a0,bR 4 a1,bR 5 a2,bX 6 zR,bX 7 zR] [] trivial ?_
 obtain⟨v1,hv1,h⟩:=bs h
 refine kG [dP 0 a0,bR 4 a1,bR 5 a2,bX 6 zR,bX 7 zR,bR 9 v1.1,pB 10 v1.2] [hC 2 [.p (vRt v1.1),.p (.bool v1.2)]] (A1 (ybn hv1)) ?_
 obtain⟨v2,hv2,h⟩:=bs h
 refine kG [dP 0 a0,bR 4 a1,bR 5 a2,bX 6 zR,bX 7 zR,bR 9 v1.1,pB 10 v1.2,bR 11 v2.1,pB 12 v2.2] [hC 2 [.p (vRt v2.1),.p (.bool v2.2)]] (A1 (ybn hv2)) ?_
 refine yab (yza (l1:=[dP 0 a0,bR 4 a1,bR 5 a2,bX 6 zR,bX 7 zR,bR 9 v1.1,bR 11 v2.1,pB 36 ((!v1.2)||(!v2.2))]) ?_ ?_)
 ·rcases ft (!v1.2) with ha0 | ha0
  ·exact RegOk.of_eq (r_gq [dP 0 a0,bR 4 a1,bR 5 a2,bX 6 zR,bX 7 zR,bR 9 v1.1,bR 11 v2.1,pB 36 true] [(3,gT),(4,gT),(5,bT)] (A3 ha0 ha0 ha0)) (by simp[ha0])
  exact RegOk.of_eq (r_gq [dP 0 a0,bR 4 a1,bR 5 a2,bX 6 zR,bX 7 zR,bR 9 v1.1,bR 11 v2.1,pB 36 (!v2.2)] [(3,gF),(4,gF),(5,bF)] (A3 ha0 ha0 ha0)) (by simp[ha0])
 refine kI h (fun hc2_2 h=>?_) (fun hc2_2 h=>?_)
 ·refine kG [bX 6 zR,bX 7 zR,pB 8 false] [] trivial ?_
  refine yra (q_r ?_)
  obtain rfl:=oi h
  exact er [(.p (.agg #[.int .i64 0,.int .i64 0]),6),(.p (.agg #[.int .i64 0,.int .i64 0]),7),(.p (.bool false),8)]
 refine yga (q_n (kG [dP 0 a0,bR 4 a1,bR 5 a2,bX 6 zR,bX 7 zR,bR 9 v1.1,bR 11 v2.1,bR 13 v1.1] [] trivial ?_))
 refine kG [dP 0 a0,bR 4 a1,bR 5 a2,bX 6 zR,bX 7 zR,bR 9 v1.1,bR 13 v1.1,vL 14 38 eRt ([v2.1])] [] trivial ?_
 refine yib (J:=fun (x:(List Qr))=>[bX 6 zR,bX 7 zR,bR 9 v1.1,bR 13 v1.1,vL 14 38 eRt x]) (K:=fun x=>yrn v1 x=some r) (fun x4 h=>?_) ?_
 ·unfold yrn at h
  refine yib (J:=fun (x:(Int×Int×Int×Int))=>[bX 6 zR,bX 7 zR,bX 9 [rI x.1,rI x.2.1],bR 13 x.2.2]) (K:=fun x=>yzq x=some r) (fun x5 h=>?_) ?_
  ·unfold yzq at h
   refine yza (r_dq yda 3 [(2,6)] [bX 6 [rI x5.1,rI x5.2.1],bR 7 x5.2.2,pB 8 true] [] trivial) ?_
   refine yra ?_
   obtain rfl:=oi h
   exact er [(.p (.agg #[.int .i64 x5.1,.int .i64 x5.2.1]),6),(.p (vRt x5.2.2),7),(.p (.bool true),8)]
  refine kG [bX 6 zR,bX 7 zR,bR 9 v1.1,bR 13 v1.1,vL 14 38 eRt x4,rF 66 14,pL 67 x4,pI 68 0] [hN 1 x4] (A1 (lF eRt x4)) ?_
  refine yfa ?_
  obtain⟨y7,hl_x6,hk_x6⟩:=bs h
  clear h
  refine yfc (J:=fun (x:(Int×Int×Int×Int×Int))=>[bX 6 zR,bX 7 zR,bX 9 [rI x.1,rI x.2.1],bX 13 [rI x.2.2.1,rI x.2.2.2.1],vL 14 38 eRt x4,rF 66 14,pL 67 x4,pI 68 x.2.2.2.2]) hl_x6 wkk (fun x6 o_x6 h hy_x6=>?_)
  unfold yai at h
  refine kG [bX 6 zR,bX 7 zR,bX 9 [rI x6.1,rI x6.2.1],bX 13 [rI x6.2.2.1,rI x6.2.2.2.1],vL 14 38 eRt x4,rF 66 14,pL 67 x4,pI 68 x6.2.2.2.2,pB 69 (decide (x6.2.2.2.2<(x4.length:Int)))] [] trivial ?_
  refine yab (kI h (fun hc5_7 h=>?_) (fun hc5_7 h=>?_))
  ·refine yga (q_n (yab (yfa ?_)))
   obtain⟨v9,hv9,h⟩:=bs h
   refine kG [bX 6 zR,bX 7 zR,bX 9 [rI x6.1,rI x6.2.1],bX 13 [rI x6.2.2.1,rI x6.2.2.2.1],vL 14 38 eRt x4,bR 18 v9,rF 66 14,pL 67 x4,pI 68 x6.2.2.2.2] [hR 0 (eRt v9),hR 1 (eRt v9)] (A3 (yba hv9).1 (yca eRt (yba hv9).2) (gW 38 eRt hv9)) ?_
   refine yib (J:=fun (x:Qr)=>[bX 6 zR,bX 7 zR,bR 9 x,bX 13 [rI x6.2.2.1,rI x6.2.2.2.1],vL 14 38 eRt x4,bR 18 v9,rF 66 14,pL 67 x4,pI 68 x6.2.2.2.2]) (K:=fun x=>ygk x6 v9 x=some o_x6) (fun x10 h=>?_) ?_
   ·unfold ygk at h
    obtain⟨v11,hv11,h⟩:=bs h
    refine kG [bX 6 zR,bX 7 zR,bR 9 x10,bX 13 [rI x6.2.2.1,rI x6.2.2.2.1],vL 14 38 eRt x4,bR 18 v9,rF 66 14,pL 67 x4,pI 68 x6.2.2.2.2,pB 80 (decide (v11<0))] [hC 2 [.p (iV v11)]] (A1 (yta hv11)) ?_
    refine kI h (fun hc6_11 h=>?_) (fun hc6_11 h=>?_)
    ·refine yub (r_gq [bX 6 zR,bX 7 zR,bR 9 x10,bR 13 v9,vL 14 38 eRt x4,rF 66 14,pL 67 x4,pI 68 x6.2.2.2.2] [] trivial) ?_
     refine b_n (q_n (yub (r_gq [bX 6 zR,bX 7 zR,bR 9 x10,bR 13 v9,vL 14 38 eRt x4,rF 66 14,pL 67 x4,pI 68 (w64 (x6.2.2.2.2+1))] [] trivial) ?_))
     exact lqn (x10.1,x10.2,v9.1,v9.2,(w64 (x6.2.2.2.2+1))) h
    refine yga (b_n (q_n (yub (r_gq [bX 6 zR,bX 7 zR,bR 9 x10,bX 13 [rI x6.2.2.1,rI x6.2.2.2.1],vL 14 38 eRt x4,rF 66 14,pL 67 x4,pI 68 (w64 (x6.2.2.2.2+1))] [] trivial) ?_)))
    exact lqn (x10.1,x10.2,x6.2.2.1,x6.2.2.2.1,(w64 (x6.2.2.2.2+1))) h
   obtain⟨v13,hv13,h⟩:=bs h
   refine kG [bX 6 zR,bX 7 zR,bX 9 [rI x6.1,rI x6.2.1],bX 13 [rI x6.2.2.1,rI x6.2.2.2.1],vL 14 38 eRt x4,bR 18 v9,rF 66 14,pL 67 x4,pI 68 x6.2.2.2.2,pB 75 (decide (v13<0))] [hC 2 [.p (iV v13)]] (A1 (yta hv13)) ?_
   refine kI h (fun hc7_13 h=>?_) (fun hc7_13 h=>?_)
   ·refine yub (r_gq [bX 6 zR,bX 7 zR,bR 9 v9,bX 13 [rI x6.2.2.1,rI x6.2.2.2.1],vL 14 38 eRt x4,bR 18 v9,rF 66 14,pL 67 x4,pI 68 x6.2.2.2.2] [] trivial) ?_
    refine q_n ?_
    exact jx v9 h
   refine yga (q_n ?_)
   exact jx (x6.1,x6.2.1) h
  refine ywb (q_x (lq_x (b_x ?_)))
  have hyy:=hy_x6 _ (oi h).symm
  subst hyy
  have h:=hk_x6
  refine q_n ?_
  exact jx (x6.1,x6.2.1,x6.2.2.1,x6.2.2.2.1) h
 refine kG [bR 4 a1,bR 5 a2,bX 6 zR,bX 7 zR,bR 9 v1.1,bR 13 v1.1,vL 14 38 eRt ([v2.1]),dP 42 a0,pL 43 a0,pI 44 0] [hN 1 a0] (A1 (lnP a0)) ?_
 refine yfa ?_
 obtain⟨y16,hl_x15,hk_x15⟩:=bs h
 clear h
 refine yfc (J:=fun (x:((List Qr)×Int))=>[bR 4 a1,bR 5 a2,bX 6 zR,bX 7 zR,bR 9 v1.1,bR 13 v1.1,vL 14 38 eRt x.1,dP 42 a0,pL 43 a0,pI 44 x.2]) hl_x15 wkk (fun x15 o_x15 h hy_x15=>?_)
 unfold ybi at h
 refine kG [bR 4 a1,bR 5 a2,bX 6 zR,bX 7 zR,bR 9 v1.1,bR 13 v1.1,vL 14 38 eRt x15.1,dP 42 a0,pL 43 a0,pI 44 x15.2,pB 45 (decide (x15.2<(a0.length:Int)))] [] trivial ?_
 refine yab (kI h (fun hc5_16 h=>?_) (fun hc5_16 h=>?_))
 ·refine yga (q_n (yab (yfa ?_)))
  obtain⟨v18,hv18,h⟩:=bs h
  refine kG [bR 4 a1,bR 5 a2,bX 6 zR,bX 7 zR,bR 9 v1.1,bR 13 v1.1,vL 14 38 eRt x15.1,bP 16 v18,dP 42 a0,pL 43 a0,pI 44 x15.2] [hR 0 (ePt v18)] (A2 (yba hv18).1 (yca ePt (yba hv18).2)) ?_
  obtain⟨v19,hv19,h⟩:=bs h
  obtain⟨w21,hw21,h⟩:=bs h
  refine yza (l1:=[bR 4 a1,bR 5 a2,bX 6 zR,bX 7 zR,bR 9 v1.1,bR 13 v1.1,vL 14 38 eRt x15.1,bP 16 v18,dP 42 a0,pL 43 a0,pI 44 x15.2,pB 59 w21]) ?_ ?_
  ·clear h
   rcases ft (decide (v19<0)) with ha2 | ha2
   ·obtain⟨v20,hv20,hw21⟩:=bs (yrh ha2 hw21)
    have hw21:=oi hw21
    subst hw21
    exact(r_gq [bR 4 a1,bR 5 a2,bX 6 zR,bX 7 zR,bR 9 v1.1,bR 13 v1.1,vL 14 38 eRt x15.1,bP 16 v18,dP 42 a0,pL 43 a0,pI 44 x15.2,pB 59 (decide (v20<0))] [hC 3 [.p (iV v19)],(6,gT),(7,gT),(8,gT),(9,{g:=some true,call:=some (none,[.p (iV v20)],true)}),(10,gT),(11,bT)] (B6 (yta hv19) ha2 ha2 ha2 ha2 (yta hv20) (A2 ha2 ha2)))
   replace hw21:=ysh ha2 hw21
   have hw21:=oi hw21
   subst hw21
   exact(r_gq [bR 4 a1,bR 5 a2,bX 6 zR,bX 7 zR,bR 9 v1.1,bR 13 v1.1,vL 14 38 eRt x15.1,bP 16 v18,dP 42 a0,pL 43 a0,pI 44 x15.2,pB 59 false] [hC 3 [.p (iV v19)],(6,gF),(7,gF),(8,gF),(9,gF),(10,gF),(11,bF)] (B6 (yta hv19) ha2 ha2 ha2 ha2 ha2 (A1 ha2)))
  refine kI h (fun hc6_21 h=>?_) (fun hc6_21 h=>?_)
  ·obtain⟨u23,hu23,h⟩:=bs h
   refine yub (r_gq [bR 4 a1,bR 5 a2,bX 6 zR,bX 7 zR,bR 9 v1.1,bR 13 v1.1,vL 14 38 eRt (x15.1++[v18.2]),dP 42 a0,pL 43 a0,pI 44 x15.2] [(4,{fix:=some (vL 64 38 eRt (x15.1++[v18.2]))})] (A3 (lG' eRt hu23) (show ∀ row∈((([v18.2]).map eRt):List (List C)),row.length=2 from(ycc fun _=>rfl)) (aP' 38 eRt x15.1 ([v18.2])))) ?_
   refine b_n (q_n (yub (r_gq [bR 4 a1,bR 5 a2,bX 6 zR,bX 7 zR,bR 9 v1.1,bR 13 v1.1,vL 14 38 eRt (x15.1++[v18.2]),dP 42 a0,pL 43 a0,pI 44 (w64 (x15.2+1))] [] trivial) ?_))
   exact lqn ((x15.1++[v18.2]),(w64 (x15.2+1))) h
  refine yga (b_n (q_n (yub (r_gq [bR 4 a1,bR 5 a2,bX 6 zR,bX 7 zR,bR 9 v1.1,bR 13 v1.1,vL 14 38 eRt x15.1,dP 42 a0,pL 43 a0,pI 44 (w64 (x15.2+1))] [] trivial) ?_)))
  exact lqn (x15.1,(w64 (x15.2+1))) h
 refine ywb (q_x (lq_x (b_x ?_)))
 have hyy:=hy_x15 _ (oi h).symm
 subst hyy
 have h:=hk_x15
 refine q_n ?_
 exact jx x15.1 h
theorem ysi {a0:(List Qp)} {a1:Qp} {a2:Qp}  {r:(Bool×Bool)} (h:yrf a0 a1 a2=some r):Meets Tryz.prog 77 [.d false (sP a0),.v (vPt a1),.v (vPt a2)] { vals:=[.p (.bool r.1),.p (.bool r.2)] }:=by
 refine mo Tryz.func77 [dP 0 a0,(1,.p (vPt a1)),(2,.p (vPt a2))] ?_
 unfold yrf at h
 refine kG [dP 0 a0,bP 4 a1,bP 5 a2] [] trivial ?_
 obtain⟨v1,hv1,h⟩:=bs h
 refine kG [bP 5 a2,bR 8 v1.1,bR 9 v1.2.1,pB 10 v1.2.2] [hC 5 [.p (vRt v1.1),.p (vRt v1.2.1),.p (.bool v1.2.2)]] (A1 (yca1 hv1)) ?_
 refine yab (kG [bP 5 a2,bR 8 v1.1,bR 9 v1.2.1,pB 22 (!v1.2.2)] [] trivial ?_)
 refine kI h (fun hc2_1 h=>?_) (fun hc2_1 h=>?_)
 ·refine kG [pB 6 false,pB 7 false] [] trivial ?_
  refine yra (q_r ?_)
  obtain rfl:=oi h
  exact er [(.p (.bool false),6),(.p (.bool false),7)]
 refine yga (q_n ?_)
 obtain⟨v3,hv3,h⟩:=bs h
 obtain⟨w5,hw5,h⟩:=bs h
 refine yza (l1:=[pB 6 w5,pB 7 true]) ?_ ?_
 ·clear h
  rcases ft (decide (v3<=0)) with ha1 | ha1
  ·obtain⟨v4,hv4,hw5⟩:=bs (yrh ha1 hw5)
   have hw5:=oi hw5
   subst hw5
   exact(r_gq [pB 6 (decide (v4<=0)),pB 7 true] [hC 3 [.p (iV v3)],(6,gT),(7,gT),(8,gT),(9,{g:=some true,call:=some (none,[.p (iV v4)],true)}),(10,gT),(11,bT)] (B6 (yta hv3) ha1 ha1 ha1 ha1 (yta hv4) (A2 ha1 ha1)))
  replace hw5:=ysh ha1 hw5
  have hw5:=oi hw5
  subst hw5
  exact(r_gq [pB 6 false,pB 7 true] [hC 3 [.p (iV v3)],(6,gF),(7,gF),(8,gF),(9,gF),(10,gF),(11,bF)] (B6 (yta hv3) ha1 ha1 ha1 ha1 ha1 (A1 ha1)))
 refine yra ?_
 obtain rfl:=oi h
 exact er [(.p (.bool w5),6),(.p (.bool true),7)]
theorem ylo {a0:Cu}  {r:((List Qp)×(List Qp)×Cu)} (h:yee a0=some r):MeetsB Tryz.prog 59 (.box (eCu a0)) [] [.d false (sP r.1),.ov false (oP 40 r.2.1)] (.box (eCu r.2.2)):=by
 refine mob Tryz.func59 [bC 0 a0] ?_
 unfold yee at h
 refine kG [bC 0 a0] [] trivial ?_
 obtain⟨v1,hv1,h⟩:=bs h
 refine kG [bC 0 v1.2,dP 4 v1.1] [hF 1 [.ov false (oP 96 v1.1)] (.box (eCu v1.2)),(2,{pre:=some (dP 16 v1.1)})] (A2 (ykl hv1) (show(SV.d false (eraR (oP 96 v1.1)):SV)=.d false (sP v1.1) from(congrArg (fun z=>SV.d false z) (ycp (yua (yku (yku er_I er_I) (yku er_I er_I))) rfl)))) ?_
 obtain⟨v2,hv2,h⟩:=bs h
 refine kG [bC 0 v2.2,dP 4 v1.1,vP 5 40 v2.1] [hF 2 [.ov false (oP 40 v2.1)] (.box (eCu v2.2))] (A1 (yts hv2)) ?_
 refine yab ?_
 obtain⟨v3,hv3,h⟩:=bs h
 obtain⟨w5,hw5,h⟩:=bs h
 refine yza (l1:=[bC 0 (w5.1,w5.2.1,w5.2.2.1),dP 4 v1.1,vP 5 40 v2.1,pB 27 w5.2.2.2]) ?_ ?_
 ·clear h
  rcases ft (!v3) with ha0 | ha0
  ·replace hw5:=yrh ha0 hw5
   have hw5:=oi hw5
   subst hw5
   exact(r_gq [bC 0 v2.2,dP 4 v1.1,vP 5 40 v2.1,pB 27 true] [(2,(cS [.d false (sP v1.1),.d false (sP v2.1)] [.p (.bool v3)])),(5,gT),(6,gT),(7,bT)] (A5 (show([.d false (sP v1.1),.d false [.sl none (eraL (v2.1.map ePt))]]:List Arg)=[.d false (sP v1.1),.d false (sP v2.1)] from(by simp only[erPt])) (yyd hv3) ha0 ha0 ha0))
  obtain⟨v4,hv4,hw5⟩:=bs (ysh ha0 hw5)
  have hw5:=oi hw5
  subst hw5
  exact(r_gq [bC 0 v4.2,dP 4 v1.1,vP 5 40 v2.1,pB 27 v4.1] [(2,(cS [.d false (sP v1.1),.d false (sP v2.1)] [.p (.bool v3)])),(5,gF),(6,{g:=some false,lend:=some (none,[.p (.bool v4.1)],.box (eCu v4.2),false)}),(7,bF)] (A6 (show([.d false (sP v1.1),.d false [.sl none (eraL (v2.1.map ePt))]]:List Arg)=[.d false (sP v1.1),.d false (sP v2.1)] from(by simp only[erPt])) (yyd hv3) ha0 ha0 (yeb hv4) ha0))
 refine kI h (fun hc2_5 h=>?_) (fun hc2_5 h=>?_)
 ·refine kG [bC 0 (w5.1,w5.2.1,w5.2.2.1),dP 2 v1.1,vP 3 40 v2.1] [] trivial ?_
  refine yra (q_r ?_)
  obtain rfl:=oi h
  exact ebr [(.d false (sP v1.1),2),(.ov false (oP 40 v2.1),3)]
 refine yga (q_n (yib (J:=fun (x:((List Int)×Int×Int×(List Qp)×(List Qp)))=>[bC 0 (x.1,x.2.1,x.2.2.1),dP 4 x.2.2.2.1,vP 5 40 x.2.2.2.2]) (K:=fun x=>ykc x=some r) (fun x7 h=>?_) ?_))
 ·unfold ykc at h
  obtain⟨v8,hv8,h⟩:=bs h
  obtain⟨v9,hv9,h⟩:=bs h
  refine kG [bC 0 v8.2,dP 4 x7.2.2.2.1,vP 5 40 x7.2.2.2.2,vP 8 40 ([v9])] [hN 3 x7.2.2.2.2,hF 4 [.p (iV v8.1)] (.box (eCu v8.2)),hR 5 (ePt v9),hR 6 (ePt v9)] (A5 (lnP x7.2.2.2.2) (yja hv8) (yba hv9).1 (yca ePt (yba hv9).2) (gW 40 ePt hv9)) ?_
  obtain⟨v10,hv10,h⟩:=bs h
  refine kG [bC 0 v10.2,dP 4 x7.2.2.2.1,vP 5 40 x7.2.2.2.2,vP 8 40 ([v9]),pI 9 (w64 (1+v10.1))] [hF 1 [.p (iV v10.1)] (.box (eCu v10.2))] (A1 (yja hv10)) ?_
  refine yib (J:=fun (x:((List Int)×Int×Int×(List Qp)))=>[bC 0 (x.1,x.2.1,x.2.2.1),dP 4 x7.2.2.2.1,vP 8 40 x.2.2.2]) (K:=fun x=>yhg x7 x=some r) (fun x11 h=>?_) ?_
  ·unfold yhg at h
   refine yib (J:=fun (x:((List Int)×Int×Int×(List Qp)))=>[bC 0 (x.1,x.2.1,x.2.2.1),dP 4 x7.2.2.2.1,vP 8 40 x.2.2.2]) (K:=fun x=>yvd x7 x=some r) (fun x12 h=>?_) ?_
   ·unfold yvd at h
    refine kG [bC 0 (x12.1,x12.2.1,x12.2.2.1),dP 2 x7.2.2.2.1,vP 3 40 x12.2.2.2] [] trivial ?_
    refine yra ?_
    obtain rfl:=oi h
    exact ebr [(.d false (sP x7.2.2.2.1),2),(.ov false (oP 40 x12.2.2.2),3)]
   obtain⟨v13,hv13,h⟩:=bs h
   refine kG [bC 0 v13.2,dP 4 x7.2.2.2.1,vP 8 40 x11.2.2.2,pB 98 v13.1] [hF 1 [.p (.bool v13.1)] (.box (eCu v13.2))] (A1 (yeb hv13)) ?_
   refine kI h (fun hc2_13 h=>?_) (fun hc2_13 h=>?_)
   ·obtain⟨v15,hv15,h⟩:=bs h
    refine kG [bC 0 v15.2,dP 4 x7.2.2.2.1,vP 8 40 x11.2.2.2,pI 14 (w64 (8+v15.1))] [hF 1 [.p (iV v15.1)] (.box (eCu v15.2))] (A1 (yja hv15)) ?_
    refine yfa ?_
    obtain⟨y17,hl_x16,hk_x16⟩:=bs h
    clear h
    refine yfc (J:=fun (x:(List Qp))=>[bC 0 v15.2,dP 4 x7.2.2.2.1,vP 8 40 x,pI 14 (w64 (8+v15.1))]) hl_x16 wkk (fun x16 o_x16 h hy_x16=>?_)
    unfold yvj at h
    refine yab (kG [bC 0 v15.2,dP 4 x7.2.2.2.1,vP 8 40 x16,pI 14 (w64 (8+v15.1)),pB 105 (decide ((x16.length:Int)<(w64 (8+v15.1))))] [hN 1 x16] (A1 (lnP x16)) ?_)
    refine kI h (fun hc5_17 h=>?_) (fun hc5_17 h=>?_)
    ·refine yga (q_n (yfa ?_))
     obtain⟨v19,hv19,h⟩:=bs h
     obtain⟨u20,hu20,h⟩:=bs h
     refine yub (r_gq [bC 0 v15.2,dP 4 x7.2.2.2.1,vP 8 40 (x16++[v19]),pI 14 (w64 (8+v15.1))] [hR 2 (ePt v19),hR 3 (ePt v19),(5,{fix:=some (vP 111 40 (x16++[v19]))})] (A6 (yba hv19).1 (yca ePt (yba hv19).2) (gW 40 ePt hv19) (lG' ePt hu20) (show ∀ row∈((([v19]).map ePt):List (List C)),row.length=4 from(ycc fun _=>rfl)) (aP' 40 ePt x16 ([v19])))) ?_
     refine b_n ?_
     exact lqn (x16++[v19]) h
    refine ywb (q_x (lq_x (b_x ?_)))
    have hyy:=hy_x16 _ (oi h).symm
    subst hyy
    have h:=hk_x16
    refine q_n ?_
    exact jx (v15.2.1,v15.2.2.1,v15.2.2.2,x16) h
   refine yga (q_n ?_)
   exact jx (v13.2.1,v13.2.2.1,v13.2.2.2,x11.2.2.2) h
  refine kG [bC 0 v10.2,dP 4 x7.2.2.2.1,vP 5 40 x7.2.2.2.2,vP 8 40 ([v9]),pI 9 (w64 (1+v10.1)),pI 10 0] [] trivial ?_
  refine yfa ?_
  obtain⟨y22,hl_x21,hk_x21⟩:=bs h
  clear h
  refine yfc (J:=fun (x:((List Int)×Int×Int×(List Qp)×Int))=>[bC 0 (x.1,x.2.1,x.2.2.1),dP 4 x7.2.2.2.1,vP 5 40 x7.2.2.2.2,vP 8 40 x.2.2.2.1,pI 9 (w64 (1+v10.1)),pI 10 x.2.2.2.2]) hl_x21 wkk (fun x21 o_x21 h hy_x21=>?_)
  unfold ywj at h
  refine yab (yza (l1:=[bC 0 (x21.1,x21.2.1,x21.2.2.1),dP 4 x7.2.2.2.1,vP 5 40 x7.2.2.2.2,vP 8 40 x21.2.2.2.1,pI 9 (w64 (1+v10.1)),pI 10 x21.2.2.2.2,pB 67 ((decide (x21.2.2.2.2<30))&&(decide ((x21.2.2.2.1.length:Int)<(w64 (1+v10.1)))))]) ?_ ?_)
  ·rcases ft (decide (x21.2.2.2.2<30)) with ha1 | ha1
   ·exact RegOk.of_eq (r_gq [bC 0 (x21.1,x21.2.1,x21.2.2.1),dP 4 x7.2.2.2.1,vP 5 40 x7.2.2.2.2,vP 8 40 x21.2.2.2.1,pI 9 (w64 (1+v10.1)),pI 10 x21.2.2.2.2,pB 67 (decide ((x21.2.2.2.1.length:Int)<(w64 (1+v10.1))))] [(3,gT),(4,{g:=some true,n:=some x21.2.2.2.1.length}),(5,gT),(6,gT),(7,bT)] (A6 ha1 ha1 (lnP x21.2.2.2.1) ha1 ha1 ha1)) (by simp[ha1])
   exact RegOk.of_eq (r_gq [bC 0 (x21.1,x21.2.1,x21.2.2.1),dP 4 x7.2.2.2.1,vP 5 40 x7.2.2.2.2,vP 8 40 x21.2.2.2.1,pI 9 (w64 (1+v10.1)),pI 10 x21.2.2.2.2,pB 67 false] [(3,gF),(4,gF),(5,gF),(6,gF),(7,bF)] (A5 ha1 ha1 ha1 ha1 ha1)) (by simp[ha1])
  refine kI h (fun hc5_22 h=>?_) (fun hc5_22 h=>?_)
  ·refine yga (q_n (yab (yfa ?_)))
   obtain⟨v24,hv24,h⟩:=bs h
   obtain⟨v25,hv25,h⟩:=bs h
   refine kG [bC 0 v24.2,dP 4 x7.2.2.2.1,vP 5 40 x7.2.2.2.2,vP 8 40 x21.2.2.2.1,pI 9 (w64 (1+v10.1)),pI 10 x21.2.2.2.2,bP 11 v25] [hN 3 x7.2.2.2.2,hF 4 [.p (iV v24.1)] (.box (eCu v24.2)),hR 5 (ePt v25),hR 6 (ePt v25)] (A5 (lnP x7.2.2.2.2) (yja hv24) (yba hv25).1 (yca ePt (yba hv25).2) (gW 40 ePt hv25)) ?_
   obtain⟨v26,hv26,h⟩:=bs h
   obtain⟨v27,hv27,h⟩:=bs h
   refine yza (r_dq yda 8 [] [bC 0 v24.2,dP 4 x7.2.2.2.1,vP 5 40 x7.2.2.2.2,vP 8 40 x21.2.2.2.1,pI 9 (w64 (1+v10.1)),pI 10 x21.2.2.2.2,bP 11 v25,pB 12 v27.1,pB 13 v27.2] [hN 3 x21.2.2.2.1,hR 5 (ePt v26),hR 6 (ePt v26),hC 8 [.p (.bool v27.1),.p (.bool v27.2)]] (A5 (lnP x21.2.2.2.1) (yba hv26).1 (yca ePt (yba hv26).2) (gW 40 ePt hv26) (ysi hv27))) ?_
   refine yza (l1:=[bC 0 v24.2,dP 4 x7.2.2.2.1,vP 5 40 x7.2.2.2.2,vP 8 40 x21.2.2.2.1,pI 9 (w64 (1+v10.1)),pI 10 x21.2.2.2.2,bP 11 v25,pB 92 (v27.1&&v27.2)]) ?_ ?_
   ·rcases ft v27.1 with ha2 | ha2
    ·exact RegOk.of_eq (r_gq [bC 0 v24.2,dP 4 x7.2.2.2.1,vP 5 40 x7.2.2.2.2,vP 8 40 x21.2.2.2.1,pI 9 (w64 (1+v10.1)),pI 10 x21.2.2.2.2,bP 11 v25,pB 92 v27.2] [(2,gT),(3,bT)] (A2 ha2 ha2)) (by simp[ha2])
    exact RegOk.of_eq (r_gq [bC 0 v24.2,dP 4 x7.2.2.2.1,vP 5 40 x7.2.2.2.2,vP 8 40 x21.2.2.2.1,pI 9 (w64 (1+v10.1)),pI 10 x21.2.2.2.2,bP 11 v25,pB 92 false] [(2,gF),(3,bF)] (A2 ha2 ha2)) (by simp[ha2])
   refine kI h (fun hc6_27 h=>?_) (fun hc6_27 h=>?_)
   ·obtain⟨u29,hu29,h⟩:=bs h
    refine yub (r_gq [bC 0 v24.2,dP 4 x7.2.2.2.1,vP 5 40 x7.2.2.2.2,vP 8 40 (x21.2.2.2.1++[v25]),pI 9 (w64 (1+v10.1)),pI 10 x21.2.2.2.2] [(3,{fix:=some (vP 96 40 (x21.2.2.2.1++[v25]))})] (A3 (lG' ePt hu29) (show ∀ row∈((([v25]).map ePt):List (List C)),row.length=4 from(ycc fun _=>rfl)) (aP' 40 ePt x21.2.2.2.1 ([v25])))) ?_
    refine b_n (q_n (yub (r_gq [bC 0 v24.2,dP 4 x7.2.2.2.1,vP 5 40 x7.2.2.2.2,vP 8 40 (x21.2.2.2.1++[v25]),pI 9 (w64 (1+v10.1)),pI 10 (w64 (x21.2.2.2.2+1))] [] trivial) ?_))
    exact lqn (v24.2.1,v24.2.2.1,v24.2.2.2,(x21.2.2.2.1++[v25]),(w64 (x21.2.2.2.2+1))) h
   refine yga (b_n (q_n (yub (r_gq [bC 0 v24.2,dP 4 x7.2.2.2.1,vP 5 40 x7.2.2.2.2,vP 8 40 x21.2.2.2.1,pI 9 (w64 (1+v10.1)),pI 10 (w64 (x21.2.2.2.2+1))] [] trivial) ?_)))
   exact lqn (v24.2.1,v24.2.2.1,v24.2.2.2,x21.2.2.2.1,(w64 (x21.2.2.2.2+1))) h
  refine ywb (q_x (lq_x (b_x ?_)))
  have hyy:=hy_x21 _ (oi h).symm
  subst hyy
  have h:=hk_x21
  refine q_n ?_
  exact jx (x21.1,x21.2.1,x21.2.2.1,x21.2.2.2.1) h
 obtain⟨v30,hv30,h⟩:=bs h
 refine kG [bC 0 v30.2,dP 4 v1.1,vP 5 40 v2.1,pB 31 v30.1] [hF 1 [.p (.bool v30.1)] (.box (eCu v30.2))] (A1 (yeb hv30)) ?_
 refine kI h (fun hc2_30 h=>?_) (fun hc2_30 h=>?_)
 ·obtain⟨v32,hv32,h⟩:=bs h
  refine kG [bC 0 v32.2,dP 4 v32.1,vP 5 40 v2.1] [hF 1 [.ov false (oP 96 v32.1)] (.box (eCu v32.2)),(2,{pre:=some (dP 33 v32.1)})] (A2 (yus hv32) (show(SV.d false (eraR (oP 96 v32.1)):SV)=.d false (sP v32.1) from(congrArg (fun z=>SV.d false z) (ycp (yua (yku (yku er_I er_I) (yku er_I er_I))) rfl)))) ?_
  refine yab ?_
  obtain⟨v33,hv33,h⟩:=bs h
  refine kG [bC 0 v32.2,dP 4 v32.1,vP 5 40 v2.1,pB 36 (!v33)] [hC 1 [.p (.bool v33)]] (A1 (ymf hv33)) ?_
  refine kI h (fun hc3_33 h=>?_) (fun hc3_33 h=>?_)
  ·refine kG [bC 0 v32.2,dP 2 v32.1,vP 3 40 v2.1] [] trivial ?_
   refine yra (q_r (q_r ?_))
   obtain rfl:=oi h
   exact ebr [(.d false (sP v32.1),2),(.ov false (oP 40 v2.1),3)]
  refine yga (q_n ?_)
  obtain⟨v35,hv35,h⟩:=bs h
  obtain⟨v36,hv36,h⟩:=bs h
  refine kG [bC 0 v35.2,dP 4 v32.1,vP 5 40 v2.1,vL 6 38 eRt v36.1,pB 7 v36.2] [hF 2 [.p (.bool v35.1)] (.box (eCu v35.2)),hC 3 [rO 38 eRt v36.1,.p (.bool v36.2)]] (A3 (yeb hv35) (yrv hv36) (show List.all [rO 38 eRt v36.1,.p (.bool v36.2)] simpleR=true from(sa_o (wnR1 (yge (wn_P wn_I wn_I)) rfl) (sa_p rfl)))) ?_
  refine kG [bC 0 v35.2,dP 4 v32.1,vP 5 40 v2.1,vL 6 38 eRt v36.1,pB 46 v36.2] [] trivial ?_
  refine kI h (fun hc2_36 h=>?_) (fun hc2_36 h=>?_)
  ·obtain⟨v38,hv38,h⟩:=bs h
   refine yub (r_gq [bC 0 v35.2,dP 4 v32.1,vP 5 40 v38] [(1,(cS [.d false [.sl none (v36.1.map eRt)]] [.ov false (oP 40 v38)]))] (A3 (show([.d false [.sl none (eraL (v36.1.map eRt))]]:List Arg)=[.d false [.sl none (v36.1.map eRt)]] from(by simp only[yua (h:=eRt) (yku er_I er_I)])) (yrs hv38) (show List.all [.ov false (oP 40 v38)] simpleR=true from(sa_o (wnR1 (yge (wn_P (wn_P wn_I wn_I) (wn_P wn_I wn_I))) rfl) rfl)))) ?_
   refine q_n ?_
   exact jx (v35.2.1,v35.2.2.1,v35.2.2.2,v32.1,v38) h
  refine yga (q_n ?_)
  exact jx (v35.2.1,v35.2.2.1,v35.2.2.2,v32.1,v2.1) h
 refine yga (q_n ?_)
 exact jx (v30.2.1,v30.2.2.1,v30.2.2.2,v1.1,v2.1) h
theorem ysv {a0:(List Int)}  {r:((List Qp)×(List Qp))} (h:yrm a0=some r):Meets Tryz.prog 48 [.d false [.sl none (a0.map (eU .u8))]] { vals:=[.d false (sP r.1),.ov false (oP 40 r.2)] }:=by
 refine mo Tryz.func48 [dL 0 (eU .u8) a0] ?_
 unfold yrm at h
 refine kG [dL 0 (eU .u8) a0] [] trivial ?_
 refine kG [(4,.addr 7 [(0,0)]),bC 7 (a0,0,0)] [] trivial ?_
 obtain⟨v1,hv1,h⟩:=bs h
 refine kG [dP 2 v1.1,vP 3 40 v1.2.1] [hF 1 [.d false (sP v1.1),.ov false (oP 40 v1.2.1)] (.box (eCu v1.2.2))] (A1 (ylo hv1)) ?_
 refine yra ?_
 obtain rfl:=oi h
 exact er [(.d false (sP v1.1),2),(.ov false (oP 40 v1.2.1),3)]
theorem yvs {a0:(List Int)}  {r:((List Qp)×(List Qp))} (h:yne a0=some r):Meets Tryz.prog 6 [.d false [.sl none (a0.map (eU .u8))]] { vals:=[.d false (sP r.1),.ov false (oP 40 r.2)] }:=by
 refine mo Tryz.func6 [dL 0 (eU .u8) a0] ?_
 unfold yne at h
 refine kG [dL 0 (eU .u8) a0] [] trivial ?_
 obtain⟨v1,hv1,h⟩:=bs h
 refine kG [dP 2 v1.1,vP 3 40 v1.2] [(1,{call:=some (none,[.d false (sP v1.1),.ov false (oP 40 v1.2)],false)})] (A1 (ysv hv1)) ?_
 refine yra ?_
 obtain rfl:=oi h
 exact er [(.d false (sP v1.1),2),(.ov false (oP 40 v1.2),3)]
theorem ykd {a0:Int} {a1:Int} {a2:Int}  {r:Bool} (h:ycl a0 a1 a2=some r):Meets Tryz.prog 62 [wI a0,wI a1,wI a2] { vals:=[.p (.bool r)] }:=by
 refine mo Tryz.func62 [pI 0 a0,pI 1 a1,pI 2 a2] ?_
 unfold ycl at h
 refine kG [pI 0 a0,pI 1 a1,pI 2 a2] [] trivial ?_
 refine yza (l1:=[pB 6 ((decide (a1<=a0))&&(decide (a0<=a2)))]) ?_ ?_
 ·rcases ft (decide (a1<=a0)) with ha0 | ha0
  ·exact RegOk.of_eq (r_gq [pB 6 (decide (a0<=a2))] [(4,gT),(5,gT),(6,gT),(7,bT)] (A4 ha0 ha0 ha0 ha0)) (by simp[ha0])
  exact RegOk.of_eq (r_gq [pB 6 false] [(4,gF),(5,gF),(6,gF),(7,bF)] (A4 ha0 ha0 ha0 ha0)) (by simp[ha0])
 refine yra ?_
 obtain rfl:=oi h
 exact er [(.p (.bool ((decide (a1<=a0))&&(decide (a0<=a2)))),6)]
theorem yjh {a0:(List Qp)} {a1:(Qp->Option Bool)} {F1:FuncId} (hp1:∀ x0 y,a1 x0=some y->Meets Tryz.prog F1 ([.v (vPt x0)]++[]) { vals:=[.p (.bool y)] }) {r:Int} (h:yha a0 a1=some r):Meets Tryz.prog 178 [.d false (sP a0),.v (.func (.func F1) #[] #[])] { vals:=[.p (iV r)] }:=by
 refine mo Tryz.func178 [dP 0 a0,(1,.p (.func (.func F1) #[] #[]))] ?_
 unfold yha at h
 refine kG [dP 0 a0,(1,.p (.func (.func F1) #[] #[]))] [] trivial ?_
 refine yib (J:=fun (x:Unit)=>[]) (K:=fun x=>yva x=some r) (fun x1 h=>?_) ?_
 ·unfold yva at h
  refine kG [pI 4 (-1)] [] trivial ?_
  refine yra ?_
  obtain rfl:=oi h
  exact er [(.p (iV (-1)),4)]
 refine kG [dP 0 a0,(1,.p (.func (.func F1) #[] #[])),pL 7 a0,pI 8 0] [hN 1 a0] (A1 (lnP a0)) ?_
 refine yfa ?_
 obtain⟨y3,hl_x2,hk_x2⟩:=bs h
 clear h
 refine yfc (J:=fun (x:Int)=>[dP 0 a0,(1,.p (.func (.func F1) #[] #[])),pL 7 a0,pI 8 x]) hl_x2 wkk (fun x2 o_x2 h hy_x2=>?_)
 unfold yia at h
 refine kG [dP 0 a0,(1,.p (.func (.func F1) #[] #[])),pL 7 a0,pI 8 x2,pB 9 (decide (x2<(a0.length:Int)))] [] trivial ?_
 refine yab (kI h (fun hc5_3 h=>?_) (fun hc5_3 h=>?_))
 ·refine yga (q_n (yab (yfa (kG [dP 0 a0,(1,.p (.func (.func F1) #[] #[])),pI 5 x2,pL 7 a0,pI 8 x2] [] trivial ?_))))
  obtain⟨v5,hv5,h⟩:=bs h
  obtain⟨v6,hv6,h⟩:=bs h
  refine kG [dP 0 a0,(1,.p (.func (.func F1) #[] #[])),pI 5 x2,pL 7 a0,pI 8 x2,pB 16 v6] [hR 3 (ePt v5),hC 5 [.p (.bool v6)]] (A3 (yba hv5).1 (yca ePt (yba hv5).2) (hp1 _ _ hv6)) ?_
  refine kI h (fun hc6_6 h=>?_) (fun hc6_6 h=>?_)
  ·refine kG [pI 4 x2] [] trivial ?_
   refine yra (b_r (q_r (lq_r ?_)))
   refine b_r (q_r ?_)
   have hyy:=hy_x2 _ (oi h).symm
   subst hyy
   have h:=hk_x2
   dsimp only[Sum.elim] at h
   obtain rfl:=oi h
   exact er [(.p (iV x2),4)]
  refine yga (b_n (q_n (yub (r_gq [dP 0 a0,(1,.p (.func (.func F1) #[] #[])),pL 7 a0,pI 8 (w64 (x2+1))] [] trivial) ?_)))
  exact lqn (w64 (x2+1)) h
 refine ywb (q_x (lq_x (b_x ?_)))
 have hyy:=hy_x2 _ (oi h).symm
 subst hyy
 have h:=hk_x2
 dsimp only[Sum.elim] at h
 refine q_n ?_
 exact jx () h
theorem ygg {a0:(List Qp)} {a1:(Qp->Option Bool)} {F1:FuncId} (hp1:∀ x0 y,a1 x0=some y->Meets Tryz.prog F1 ([.v (vPt x0)]++[]) { vals:=[.p (.bool y)] }) {r:Bool} (h:ywa a0 a1=some r):Meets Tryz.prog 122 [.d false (sP a0),.v (.func (.func F1) #[] #[])] { vals:=[.p (.bool r)] }:=by
 refine mo Tryz.func122 [dP 0 a0,(1,.p (.func (.func F1) #[] #[]))] ?_
 unfold ywa at h
 refine kG [dP 0 a0,(1,.p (.func (.func F1) #[] #[]))] [] trivial ?_
 obtain⟨v1,hv1,h⟩:=bs h
 refine kG [pB 4 (decide (v1>=0))] [hC 2 [.p (iV v1)]] (A1 (show Meets Tryz.prog 178 ([.d false (sP a0),.v (.func (.func F1) #[] #[])]++[]) { vals:=[.p (iV v1)] } from(yjh hp1 hv1))) ?_
 refine yra ?_
 obtain rfl:=oi h
 exact er [(.p (.bool (decide (v1>=0))),4)]
theorem yib1 {a0:Int}  {r:Int} (h:yhx a0=some r):Meets Tryz.prog 225 [wI a0] { vals:=[.p (iV r)] }:=by
 refine mo Tryz.func225 [pI 0 a0] ?_
 unfold yhx at h
 refine kG [pI 0 a0] [] trivial ?_
 refine yab (kG [pI 0 a0,pB 4 (decide (a0<0))] [] trivial ?_)
 refine kI h (fun hc2_0 h=>?_) (fun hc2_0 h=>?_)
 ·refine kG [pI 2 (w64 (0-a0))] [] trivial ?_
  refine yra (q_r ?_)
  obtain rfl:=oi h
  exact er [(.p (iV (w64 (0-a0))),2)]
 refine yga (q_n (kG [pI 2 a0] [] trivial ?_))
 refine yra ?_
 obtain rfl:=oi h
 exact er [(.p (iV a0),2)]
theorem yxm {a0:Int} {a1:Int}  {r:Int} (h:yfd a0 a1=some r):Meets Tryz.prog 202 [wI a0,wI a1] { vals:=[.p (iV r)] }:=by
 refine mo Tryz.func202 [pI 0 a0,pI 1 a1] ?_
 unfold yfd at h
 refine kG [pI 0 a0,pI 1 a1] [] trivial ?_
 obtain⟨v1,hv1,h⟩:=bs h
 obtain⟨v2,hv2,h⟩:=bs h
 refine kG [pI 0 v1,pI 1 v2] [hC 1 [.p (iV v1)],hC 3 [.p (iV v2)]] (A2 (yib1 hv1) (yib1 hv2)) ?_
 refine yib (J:=fun (x:Int)=>[pI 0 x]) (K:=fun x=>ype x=some r) (fun x3 h=>?_) ?_
 ·unfold ype at h
  refine kG [pI 4 x3] [] trivial ?_
  refine yra ?_
  obtain rfl:=oi h
  exact er [(.p (iV x3),4)]
 refine yfa ?_
 obtain⟨y5,hl_x4,hk_x4⟩:=bs h
 clear h
 refine yfc (J:=fun (x:Qr)=>[pI 0 x.1,pI 1 x.2]) hl_x4 wkk (fun x4 o_x4 h hy_x4=>?_)
 unfold ycd at h
 refine yab (kG [pI 0 x4.1,pI 1 x4.2,pB 10 (x4.2 != 0)] [] trivial ?_)
 refine kI h (fun hc5_5 h=>?_) (fun hc5_5 h=>?_)
 ·refine yga (q_n (yfa ?_))
  obtain⟨u7,hu7,h⟩:=bs h
  refine yub (r_dq yda 5 [] [pI 0 x4.2,pI 1 (Int.tmod x4.1 x4.2)] [] (A1 (yla hu7))) ?_
  refine b_n ?_
  exact lqn (x4.2,(Int.tmod x4.1 x4.2)) h
 refine ywb (q_x (lq_x (b_x ?_)))
 have hyy:=hy_x4 _ (oi h).symm
 subst hyy
 have h:=hk_x4
 refine q_n ?_
 exact jx x4.1 h
theorem ytn {a0:Qr}  {r:Bool} (h:ykp a0=some r):Meets Tryz.prog 165 [.v (vRt a0)] { vals:=[.p (.bool r)] }:=by
 refine mo Tryz.func165 [(0,.p (vRt a0))] ?_
 unfold ykp at h
 refine kG [bR 1 a0] [] trivial ?_
 obtain⟨v1,hv1,h⟩:=bs h
 obtain⟨w4,hw4,h⟩:=bs h
 refine yza (l1:=[pB 2 w4]) ?_ ?_
 ·clear h
  rcases ft v1 with ha0 | ha0
  ·obtain⟨v2,hv2,hw4⟩:=bs (yrh ha0 hw4)
   rcases ft v2 with ha1 | ha1
   ·obtain⟨v3,hv3,hw4⟩:=bs (yrh ha1 hw4)
    have hw4:=oi hw4
    subst hw4
    exact(r_gq [pB 2 (v3==1)] [hC 2 [.p (.bool v1)],(4,gT),(5,gT),(6,{g:=some true,call:=some (none,[.p (.bool v2)],true)}),(7,bT),(9,gT),(10,gT),(11,gT),(12,gT),(13,{g:=some true,call:=some (none,[.p (iV v3)],true)}),(14,gT),(15,bT)] (B6 (ykd hv1) ha0 ha0 ha0 (ykd hv2) ha0 (B6 ha1 ha1 ha1 ha1 ha1 (yxm hv3) (A2 ha1 ha1))))
   replace hw4:=ysh ha1 hw4
   have hw4:=oi hw4
   subst hw4
   exact(r_gq [pB 2 false] [hC 2 [.p (.bool v1)],(4,gT),(5,gT),(6,{g:=some true,call:=some (none,[.p (.bool v2)],true)}),(7,bT),(9,gF),(10,gF),(11,gF),(12,gF),(13,gF),(14,gF),(15,bF)] (B6 (ykd hv1) ha0 ha0 ha0 (ykd hv2) ha0 (B6 ha1 ha1 ha1 ha1 ha1 ha1 (A1 ha1))))
  replace hw4:=ysh ha0 hw4
  have hw4:=oi hw4
  subst hw4
  exact(r_gq [pB 2 false] [hC 2 [.p (.bool v1)],(4,gF),(5,gF),(6,gF),(7,bF),(9,gF),(10,gF),(11,gF),(12,gF),(13,gF),(14,gF),(15,bF)] (B6 (ykd hv1) ha0 ha0 ha0 ha0 fF (A6 fF fF fF fF fF fF)))
 refine yra ?_
 obtain rfl:=oi h
 exact er [(.p (.bool w4),2)]
theorem yas {a0:Qr}  {r:Bool} (h:yvo a0=some r):Meets Tryz.prog 99 [.v (vRt a0)] { vals:=[.p (.bool r)] }:=by
 refine mo Tryz.func99 [(0,.p (vRt a0))] ?_
 unfold yvo at h
 refine kG [bR 1 a0] [] trivial ?_
 obtain⟨v1,hv1,h⟩:=bs h
 refine yza (l1:=[pB 2 (v1&&((decide (a0.1>=0))&&(decide (a0.1<=a0.2))))]) ?_ ?_
 ·rcases ft v1 with ha0 | ha0
  ·rcases ft (decide (a0.1>=0)) with ha1 | ha1
   ·exact RegOk.of_eq (r_gq [pB 2 (decide (a0.1<=a0.2))] [hC 1 [.p (.bool v1)],(3,gT),(4,gT),(5,gT),(6,bT),(8,gT),(9,gT),(10,gT),(11,gT),(12,gT),(13,bT)] (B6 (ytn hv1) ha0 ha0 ha0 ha0 ha1 (A5 ha1 ha1 ha1 ha1 ha1))) (by simp[ha0,ha1])
   exact RegOk.of_eq (r_gq [pB 2 false] [hC 1 [.p (.bool v1)],(3,gT),(4,gT),(5,gT),(6,bT),(8,gF),(9,gF),(10,gF),(11,gF),(12,gF),(13,bF)] (B6 (ytn hv1) ha0 ha0 ha0 ha0 ha1 (A5 ha1 ha1 ha1 ha1 ha1))) (by simp[ha0,ha1])
  exact RegOk.of_eq (r_gq [pB 2 false] [hC 1 [.p (.bool v1)],(3,gF),(4,gF),(5,gF),(6,bF),(8,gF),(9,gF),(10,gF),(11,gF),(12,gF),(13,bF)] (B6 (ytn hv1) ha0 ha0 ha0 ha0 fF (A5 fF fF fF fF fF))) (by simp[ha0])
 refine yra ?_
 obtain rfl:=oi h
 exact er [(.p (.bool (v1&&((decide (a0.1>=0))&&(decide (a0.1<=a0.2))))),2)]
theorem ypq {a0:Qr}  {r:Bool} (h:yjn a0=some r):Meets Tryz.prog 124 [.v (vRt a0)] { vals:=[.p (.bool r)] }:=by
 refine mo Tryz.func124 [(0,.p (vRt a0))] ?_
 unfold yjn at h
 refine kG [bR 1 a0] [] trivial ?_
 obtain⟨v1,hv1,h⟩:=bs h
 refine yza (l1:=[pB 2 (v1&&(decide (a0.2<=100)))]) ?_ ?_
 ·rcases ft v1 with ha0 | ha0
  ·exact RegOk.of_eq (r_gq [pB 2 (decide (a0.2<=100))] [hC 1 [.p (.bool v1)],(3,gT),(4,gT),(5,gT),(6,bT)] (A5 (yas hv1) ha0 ha0 ha0 ha0)) (by simp[ha0])
  exact RegOk.of_eq (r_gq [pB 2 false] [hC 1 [.p (.bool v1)],(3,gF),(4,gF),(5,gF),(6,bF)] (A5 (yas hv1) ha0 ha0 ha0 ha0)) (by simp[ha0])
 refine yra ?_
 obtain rfl:=oi h
 exact er [(.p (.bool (v1&&(decide (a0.2<=100)))),2)]
theorem yda1 {a0:Qp}  {r:Bool} (h:ykn a0=some r):Meets Tryz.prog 123 [.v (vPt a0)] { vals:=[.p (.bool r)] }:=by
 refine mo Tryz.func123 [(0,.p (vPt a0))] ?_
 unfold ykn at h
 refine kG [bP 1 a0] [] trivial ?_
 obtain⟨v1,hv1,h⟩:=bs h
 obtain⟨w3,hw3,h⟩:=bs h
 refine yza (l1:=[pB 2 w3]) ?_ ?_
 ·clear h
  rcases ft (!v1) with ha0 | ha0
  ·replace hw3:=yrh ha0 hw3
   have hw3:=oi hw3
   subst hw3
   exact(r_gq [pB 2 true] [hC 2 [.p (.bool v1)],(5,gT),(6,gT),(7,gT),(8,gT),(9,bT)] (A6 (ypq hv1) ha0 ha0 ha0 ha0 ha0))
  obtain⟨v2,hv2,hw3⟩:=bs (ysh ha0 hw3)
  have hw3:=oi hw3
  subst hw3
  exact(r_gq [pB 2 (!v2)] [hC 2 [.p (.bool v1)],(5,gF),(6,gF),(7,(gN [.p (.bool v2)])),(8,gF),(9,bF)] (B6 (ypq hv1) ha0 ha0 ha0 (ypq hv2) ha0 (A1 ha0)))
 refine yra ?_
 obtain rfl:=oi h
 exact er [(.p (.bool w3),2)]
theorem ybs   {r:Qr} (h:yjq =some r):Meets Tryz.prog 79 [] { vals:=[.p (vRt r)] }:=by
 refine mo Tryz.func79 [] ?_
 unfold yjq at h
 refine kG [bX 0 zR] [] trivial ?_
 refine kG [bX 0 [rI 0,rI 1]] [] trivial ?_
 refine yra ?_
 obtain rfl:=oi h
 exact er [(.p (.agg #[.int .i64 0,.int .i64 1]),0)]
theorem ytv   {r:Qr} (h:yiu =some r):Meets Tryz.prog 80 [] { vals:=[.p (vRt r)] }:=by
 refine mo Tryz.func80 [] ?_
 unfold yiu at h
 refine kG [bX 0 zR] [] trivial ?_
 refine kG [bX 0 [rI 1,rI 1]] [] trivial ?_
 refine yra ?_
 obtain rfl:=oi h
 exact er [(.p (.agg #[.int .i64 1,.int .i64 1]),0)]
theorem yfg1 {a0:(List Qp)}  {r:(List Qr)} (h:ymw a0=some r):Meets Tryz.prog 82 [.d false (sP a0)] { vals:=[rO 38 eRt r] }:=by
 refine mo Tryz.func82 [dP 0 a0] ?_
 unfold ymw at h
 refine kG [dP 0 a0] [] trivial ?_
 refine kG [dP 0 a0,vN 3 38] [] trivial ?_
 refine yib (J:=fun (x:(List Qr))=>[vL 3 38 eRt x]) (K:=fun x=>yav x=some r) (fun x1 h=>?_) ?_
 ·unfold yav at h
  refine kG [vL 2 38 eRt x1] [] trivial ?_
  refine yra ?_
  obtain rfl:=oi h
  exact er [(.ov false [.sl (some 38) (x1.map eRt)],2)]
 refine kG [vN 3 38,dP 6 a0,pL 7 a0,pI 8 0] [hN 1 a0] (A1 (lnP a0)) ?_
 refine yfa ?_
 obtain⟨y3,hl_x2,hk_x2⟩:=bs h
 clear h
 refine yfc (J:=fun (x:((List Qr)×Int))=>[vL 3 38 eRt x.1,dP 6 a0,pL 7 a0,pI 8 x.2]) hl_x2 wkk (fun x2 o_x2 h hy_x2=>?_)
 unfold yqp at h
 refine kG [vL 3 38 eRt x2.1,dP 6 a0,pL 7 a0,pI 8 x2.2,pB 9 (decide (x2.2<(a0.length:Int)))] [] trivial ?_
 refine yab (kI h (fun hc5_3 h=>?_) (fun hc5_3 h=>?_))
 ·refine yga (q_n (yab (yfa ?_)))
  obtain⟨v5,hv5,h⟩:=bs h
  refine kG [vL 3 38 eRt x2.1,bP 5 v5,dP 6 a0,pL 7 a0,pI 8 x2.2] [hR 0 (ePt v5)] (A2 (yba hv5).1 (yca ePt (yba hv5).2)) ?_
  obtain⟨u6,hu6,h⟩:=bs h
  refine yub (r_gq [vL 3 38 eRt (x2.1++[v5.1]),dP 6 a0,pL 7 a0,pI 8 x2.2] [(4,{fix:=some (vL 16 38 eRt (x2.1++[v5.1]))})] (A3 (lG' eRt hu6) (show ∀ row∈((([v5.1]).map eRt):List (List C)),row.length=2 from(ycc fun _=>rfl)) (aP' 38 eRt x2.1 ([v5.1])))) ?_
  refine b_n (q_n (yub (r_gq [vL 3 38 eRt (x2.1++[v5.1]),dP 6 a0,pL 7 a0,pI 8 (w64 (x2.2+1))] [] trivial) ?_))
  exact lqn ((x2.1++[v5.1]),(w64 (x2.2+1))) h
 refine ywb (q_x (lq_x (b_x ?_)))
 have hyy:=hy_x2 _ (oi h).symm
 subst hyy
 have h:=hk_x2
 refine q_n ?_
 exact jx x2.1 h
theorem yqq {a0:Qr} {a1:Qr}  {r:Int} (h:yxi a0 a1=some r):Meets Tryz.prog 151 [.v (vRt a0),.v (vRt a1)] { vals:=[.p (iV r)] }:=by
 refine mo Tryz.func151 [(0,.p (vRt a0)),(1,.p (vRt a1))] ?_
 unfold yxi at h
 refine kG [bR 2 a0,bR 3 a1] [] trivial ?_
 refine yab (yza (r_dq yda 11 [] [pI 5 (w64 (a0.1*a1.2)),pI 6 (w64 (a1.1*a0.2))] [] trivial) ?_)
 refine yfa (kG [pI 5 (w64 (a0.1*a1.2)),pI 6 (w64 (a1.1*a0.2)),pB 17 (decide ((w64 (a0.1*a1.2))<(w64 (a1.1*a0.2))))] [] trivial ?_)
 refine kI h (fun hc3_0 h=>?_) (fun hc3_0 h=>?_)
 ·refine kG [pI 4 (-1)] [] trivial ?_
  refine yra (b_r (q_r ?_))
  obtain rfl:=oi h
  exact er [(.p (iV (-1)),4)]
 refine kG [pB 21 (decide ((w64 (a0.1*a1.2))>(w64 (a1.1*a0.2))))] [] trivial ?_
 refine kI h (fun hc3_1 h=>?_) (fun hc3_1 h=>?_)
 ·refine kG [pI 4 1] [] trivial ?_
  refine yra (b_r (q_r ?_))
  obtain rfl:=oi h
  exact er [(.p (iV 1),4)]
 refine yga (b_n (q_n (kG [pI 4 0] [] trivial ?_)))
 refine yra ?_
 obtain rfl:=oi h
 exact er [(.p (iV 0),4)]
theorem ydc {a0:Qr} {a1:Qr}  {r:Bool} (h:ypf a0 a1=some r):Meets Tryz.prog 115 [.v (vRt a0),.v (vRt a1)] { vals:=[.p (.bool r)] }:=by
 refine mo Tryz.func115 [(0,.p (vRt a0)),(1,.p (vRt a1))] ?_
 unfold ypf at h
 refine kG [bR 2 a0,bR 3 a1] [] trivial ?_
 obtain⟨v1,hv1,h⟩:=bs h
 refine kG [pB 4 (decide (v1<0))] [hC 2 [.p (iV v1)]] (A1 (yqq hv1)) ?_
 refine yra ?_
 obtain rfl:=oi h
 exact er [(.p (.bool (decide (v1<0))),4)]
theorem yfz {a0:(List Qr)}  {r:Bool} (h:yxn a0=some r):Meets Tryz.prog 125 [.d false [.sl none (a0.map eRt)]] { vals:=[.p (.bool r)] }:=by
 refine mo Tryz.func125 [dL 0 eRt a0] ?_
 unfold yxn at h
 refine kG [dL 0 eRt a0] [] trivial ?_
 refine yib (J:=fun (x:Unit)=>[]) (K:=fun x=>yzl x=some r) (fun x1 h=>?_) ?_
 ·unfold yzl at h
  refine kG [pB 2 true] [] trivial ?_
  refine yra ?_
  obtain rfl:=oi h
  exact er [(.p (.bool true),2)]
 refine kG [dL 0 eRt a0,pI 3 1] [] trivial ?_
 refine yfa ?_
 obtain⟨y3,hl_x2,hk_x2⟩:=bs h
 clear h
 refine yfc (J:=fun (x:Int)=>[dL 0 eRt a0,pI 3 x]) hl_x2 wkk (fun x2 o_x2 h hy_x2=>?_)
 unfold yzi at h
 refine yab (kG [dL 0 eRt a0,pI 3 x2,pB 7 (decide (x2<(a0.length:Int)))] [hN 2 a0] (A1 (lF eRt a0)) ?_)
 refine kI h (fun hc5_3 h=>?_) (fun hc5_3 h=>?_)
 ·refine yga (q_n (yab (yfa ?_)))
  obtain⟨v5,hv5,h⟩:=bs h
  obtain⟨v6,hv6,h⟩:=bs h
  obtain⟨v7,hv7,h⟩:=bs h
  refine yza (r_dq yda 9 [] [dL 0 eRt a0,pI 3 x2,pB 20 (!v7)] [hR 3 (eRt v5),hR 7 (eRt v6),hC 9 [.p (.bool v7)]] (A5 (yba hv5).1 (yca eRt (yba hv5).2) (yba hv6).1 (yca eRt (yba hv6).2) (ydc hv7))) ?_
  refine kI h (fun hc6_7 h=>?_) (fun hc6_7 h=>?_)
  ·refine kG [pB 2 false] [] trivial ?_
   refine yra (b_r (q_r (lq_r ?_)))
   refine b_r (q_r ?_)
   have hyy:=hy_x2 _ (oi h).symm
   subst hyy
   have h:=hk_x2
   dsimp only[Sum.elim] at h
   obtain rfl:=oi h
   exact er [(.p (.bool false),2)]
  refine yga (b_n (q_n (yub (r_gq [dL 0 eRt a0,pI 3 (w64 (x2+1))] [] trivial) ?_)))
  exact lqn (w64 (x2+1)) h
 refine ywb (q_x (lq_x (b_x ?_)))
 have hyy:=hy_x2 _ (oi h).symm
 subst hyy
 have h:=hk_x2
 dsimp only[Sum.elim] at h
 refine q_n ?_
 exact jx () h
theorem yti {a0:(List Qp)}  {r:Bool} (h:ymg a0=some r):Meets Tryz.prog 56 [.d false (sP a0)] { vals:=[.p (.bool r)] }:=by
 refine mo Tryz.func56 [dP 0 a0] ?_
 unfold ymg at h
 refine kG [dP 0 a0] [] trivial ?_
 refine yab ?_
 obtain⟨v1,hv1,h⟩:=bs h
 obtain⟨w3,hw3,h⟩:=bs h
 refine yza (l1:=[dP 0 a0,pB 10 w3]) ?_ ?_
 ·clear h
  rcases ft (!v1) with ha0 | ha0
  ·replace hw3:=yrh ha0 hw3
   have hw3:=oi hw3
   subst hw3
   exact(r_gq [dP 0 a0,pB 10 true] [hN 1 a0,hC 2 [.p (.bool v1)],(5,gT),(6,gT),(7,bT)] (A5 (lnP a0) (ykd hv1) ha0 ha0 ha0))
  obtain⟨v2,hv2,hw3⟩:=bs (ysh ha0 hw3)
  have hw3:=oi hw3
  subst hw3
  exact(r_gq [dP 0 a0,pB 10 v2] [hN 1 a0,hC 2 [.p (.bool v1)],(5,gF),(6,(gN [.p (.bool v2)])),(7,bF)] (A6 (lnP a0) (ykd hv1) ha0 ha0 (show Meets Tryz.prog 122 ([.d false (sP a0),.v (.func (.func 123) #[] #[])]++[]) { vals:=[.p (.bool v2)] } from(ygg (fun x0 y hy=>yda1 hy) hv2)) ha0))
 refine kI h (fun hc2_3 h=>?_) (fun hc2_3 h=>?_)
 ·refine kG [pB 2 false] [] trivial ?_
  refine yra (q_r ?_)
  obtain rfl:=oi h
  exact er [(.p (.bool false),2)]
 refine yga (q_n ?_)
 obtain⟨v5,hv5,h⟩:=bs h
 obtain⟨v6,hv6,h⟩:=bs h
 obtain⟨w11,hw11,h⟩:=bs h
 refine yza (l1:=[pB 2 w11]) ?_ ?_
 ·clear h
  rcases ft ((v5.1.1==v6.1)&&(v5.1.2==v6.2)) with ha1 | ha1
  ·obtain⟨v7,hv7,hw11⟩:=bs (yrh ha1 hw11)
   obtain⟨v8,hv8,hw11⟩:=bs hw11
   rcases ft ((v7.1.1==v8.1)&&(v7.1.2==v8.2)) with ha2 | ha2
   ·obtain⟨v9,hv9,hw11⟩:=bs (yrh ha2 hw11)
    obtain⟨v10,hv10,hw11⟩:=bs hw11
    have hw11:=oi hw11
    subst hw11
    exact(r_dq yda 15 [] [pB 2 v10] [hR 1 (ePt v5),hC 4 [.p (vRt v6)],(5,{pv:=some (.bool ((v5.1.1==v6.1)&&(v5.1.2==v6.2)))}),(7,gT),(8,gT),(9,{g:=some true,n:=some a0.length}),(10,gT),(11,{g:=some true,row:=some (ePt v7)}),(12,gT),(13,gT),(14,{g:=some true,call:=some (none,[.p (vRt v8)],true)}),(15,{g:=some true,pv:=some (.bool ((v7.1.1==v8.1)&&(v7.1.2==v8.2)))}),(16,bT),(18,gT),(19,{g:=some true,call:=some (none,[rO 38 eRt v9],true)}),(20,{g:=some true,call:=some (some [.d false [.sl none (v9.map eRt)]],[.p (.bool v10)],true)}),(21,bT)] (B6 (yba hv5).1 (yca ePt (yba hv5).2) (ybs hv6) (show PureAt Tryz.prog (.binOp .eql 38 (.tmp 14) (.tmp 15) 38) [vRt v5.1,vRt v6] (.bool ((v5.1.1==v6.1)&&(v5.1.2==v6.2))) from(ylf (by kernel_rfl))) ha1 ha1 (B6 ha1 (lnP a0) ha1 ha1 (yba hv7).1 (yca ePt (yba hv7).2) (B6 ha1 ha1 ha1 (ytv hv8) ha1 (show PureAt Tryz.prog (.binOp .eql 38 (.tmp 24) (.tmp 25) 38) [vRt v7.1,vRt v8] (.bool ((v7.1.1==v8.1)&&(v7.1.2==v8.2))) from(ylf (by kernel_rfl))) (B6 ha1 ha2 ha2 (yfg1 hv9) (sR' 38 v9) ha2 (A3 (show([.d false [.sl none (eraL (v9.map eRt))]]:List Arg)=[.d false [.sl none (v9.map eRt)]] from(by simp only[yua (h:=eRt) (yku er_I er_I)])) (yfz hv10) ha2))))))
   replace hw11:=ysh ha2 hw11
   have hw11:=oi hw11
   subst hw11
   exact(r_dq yda 15 [] [pB 2 false] [hR 1 (ePt v5),hC 4 [.p (vRt v6)],(5,{pv:=some (.bool ((v5.1.1==v6.1)&&(v5.1.2==v6.2)))}),(7,gT),(8,gT),(9,{g:=some true,n:=some a0.length}),(10,gT),(11,{g:=some true,row:=some (ePt v7)}),(12,gT),(13,gT),(14,{g:=some true,call:=some (none,[.p (vRt v8)],true)}),(15,{g:=some true,pv:=some (.bool ((v7.1.1==v8.1)&&(v7.1.2==v8.2)))}),(16,bT),(18,gF),(19,gF),(20,gF),(21,bF)] (B6 (yba hv5).1 (yca ePt (yba hv5).2) (ybs hv6) (show PureAt Tryz.prog (.binOp .eql 38 (.tmp 14) (.tmp 15) 38) [vRt v5.1,vRt v6] (.bool ((v5.1.1==v6.1)&&(v5.1.2==v6.2))) from(ylf (by kernel_rfl))) ha1 ha1 (B6 ha1 (lnP a0) ha1 ha1 (yba hv7).1 (yca ePt (yba hv7).2) (B6 ha1 ha1 ha1 (ytv hv8) ha1 (show PureAt Tryz.prog (.binOp .eql 38 (.tmp 24) (.tmp 25) 38) [vRt v7.1,vRt v8] (.bool ((v7.1.1==v8.1)&&(v7.1.2==v8.2))) from(ylf (by kernel_rfl))) (A5 ha1 ha2 ha2 ha2 ha2)))))
  replace hw11:=ysh ha1 hw11
  have hw11:=oi hw11
  subst hw11
  exact(r_dq yda 15 [] [pB 2 false] [hR 1 (ePt v5),hC 4 [.p (vRt v6)],(5,{pv:=some (.bool ((v5.1.1==v6.1)&&(v5.1.2==v6.2)))}),(7,gF),(8,gF),(9,gF),(10,gF),(11,gF),(12,gF),(13,gF),(14,gF),(15,gF),(16,bF),(18,gF),(19,gF),(20,gF),(21,bF)] (B6 (yba hv5).1 (yca ePt (yba hv5).2) (ybs hv6) (show PureAt Tryz.prog (.binOp .eql 38 (.tmp 14) (.tmp 15) 38) [vRt v5.1,vRt v6] (.bool ((v5.1.1==v6.1)&&(v5.1.2==v6.2))) from(ylf (by kernel_rfl))) ha1 ha1 (B6 ha1 ha1 ha1 ha1 ha1 ha1 (A6 ha1 ha1 fF fF fF fF))))
 refine yra ?_
 obtain rfl:=oi h
 exact er [(.p (.bool w11),2)]
theorem yve {a0:(List Qp)} {a1:(Qp->Option Bool)} {F1:FuncId} (hp1:∀ x0 y,a1 x0=some y->Meets Tryz.prog F1 ([.v (vPt x0)]++[]) { vals:=[.p (.bool y)] }) {r:Int} (h:ysa a0 a1=some r):Meets Tryz.prog 213 [.d false (sP a0),.v (.func (.func F1) #[] #[])] { vals:=[.p (iV r)] }:=by
 refine mo Tryz.func213 [dP 0 a0,(1,.p (.func (.func F1) #[] #[]))] ?_
 unfold ysa at h
 refine kG [dP 0 a0,(1,.p (.func (.func F1) #[] #[]))] [] trivial ?_
 refine yib (J:=fun (x:Unit)=>[]) (K:=fun x=>ynb x=some r) (fun x1 h=>?_) ?_
 ·unfold ynb at h
  refine kG [pI 4 (-1)] [] trivial ?_
  refine yra ?_
  obtain rfl:=oi h
  exact er [(.p (iV (-1)),4)]
 refine kG [dP 0 a0,(1,.p (.func (.func F1) #[] #[])),pL 7 a0,pI 8 0] [hN 1 a0] (A1 (lnP a0)) ?_
 refine yfa ?_
 obtain⟨y3,hl_x2,hk_x2⟩:=bs h
 clear h
 refine yfc (J:=fun (x:Int)=>[dP 0 a0,(1,.p (.func (.func F1) #[] #[])),pL 7 a0,pI 8 x]) hl_x2 wkk (fun x2 o_x2 h hy_x2=>?_)
 unfold yna at h
 refine kG [dP 0 a0,(1,.p (.func (.func F1) #[] #[])),pL 7 a0,pI 8 x2,pB 9 (decide (x2<(a0.length:Int)))] [] trivial ?_
 refine yab (kI h (fun hc5_3 h=>?_) (fun hc5_3 h=>?_))
 ·refine yga (q_n (yab (yfa (kG [dP 0 a0,(1,.p (.func (.func F1) #[] #[])),pI 5 x2,pL 7 a0,pI 8 x2] [] trivial ?_))))
  obtain⟨v5,hv5,h⟩:=bs h
  obtain⟨v6,hv6,h⟩:=bs h
  refine kG [dP 0 a0,(1,.p (.func (.func F1) #[] #[])),pI 5 x2,pL 7 a0,pI 8 x2,pB 16 v6] [hR 3 (ePt v5),hC 5 [.p (.bool v6)]] (A3 (yba hv5).1 (yca ePt (yba hv5).2) (hp1 _ _ hv6)) ?_
  refine kI h (fun hc6_6 h=>?_) (fun hc6_6 h=>?_)
  ·refine kG [pI 4 x2] [] trivial ?_
   refine yra (b_r (q_r (lq_r ?_)))
   refine b_r (q_r ?_)
   have hyy:=hy_x2 _ (oi h).symm
   subst hyy
   have h:=hk_x2
   dsimp only[Sum.elim] at h
   obtain rfl:=oi h
   exact er [(.p (iV x2),4)]
  refine yga (b_n (q_n (yub (r_gq [dP 0 a0,(1,.p (.func (.func F1) #[] #[])),pL 7 a0,pI 8 (w64 (x2+1))] [] trivial) ?_)))
  exact lqn (w64 (x2+1)) h
 refine ywb (q_x (lq_x (b_x ?_)))
 have hyy:=hy_x2 _ (oi h).symm
 subst hyy
 have h:=hk_x2
 dsimp only[Sum.elim] at h
 refine q_n ?_
 exact jx () h
theorem yzd {a0:(List Qp)} {a1:(Qp->Option Bool)} {F1:FuncId} (hp1:∀ x0 y,a1 x0=some y->Meets Tryz.prog F1 ([.v (vPt x0)]++[]) { vals:=[.p (.bool y)] }) {r:Bool} (h:yoa a0 a1=some r):Meets Tryz.prog 184 [.d false (sP a0),.v (.func (.func F1) #[] #[])] { vals:=[.p (.bool r)] }:=by
 refine mo Tryz.func184 [dP 0 a0,(1,.p (.func (.func F1) #[] #[]))] ?_
 unfold yoa at h
 refine kG [dP 0 a0,(1,.p (.func (.func F1) #[] #[]))] [] trivial ?_
 obtain⟨v1,hv1,h⟩:=bs h
 refine kG [pB 4 (decide (v1>=0))] [hC 2 [.p (iV v1)]] (A1 (show Meets Tryz.prog 213 ([.d false (sP a0),.v (.func (.func F1) #[] #[])]++[]) { vals:=[.p (iV v1)] } from(yve hp1 hv1))) ?_
 refine yra ?_
 obtain rfl:=oi h
 exact er [(.p (.bool (decide (v1>=0))),4)]
theorem yui {a0:(List Qr)} {a1:(Qr->Option Bool)} {F1:FuncId} (hp1:∀ x0 y,a1 x0=some y->Meets Tryz.prog F1 ([.v (vRt x0)]++[]) { vals:=[.p (.bool y)] }) {r:Int} (h:ygb a0 a1=some r):Meets Tryz.prog 195 [.d false [.sl none (a0.map eRt)],.v (.func (.func F1) #[] #[])] { vals:=[.p (iV r)] }:=by
 refine mo Tryz.func195 [dL 0 eRt a0,(1,.p (.func (.func F1) #[] #[]))] ?_
 unfold ygb at h
 refine kG [dL 0 eRt a0,(1,.p (.func (.func F1) #[] #[]))] [] trivial ?_
 refine yib (J:=fun (x:Unit)=>[]) (K:=fun x=>yic x=some r) (fun x1 h=>?_) ?_
 ·unfold yic at h
  refine kG [pI 4 (-1)] [] trivial ?_
  refine yra ?_
  obtain rfl:=oi h
  exact er [(.p (iV (-1)),4)]
 refine kG [dL 0 eRt a0,(1,.p (.func (.func F1) #[] #[])),pL 7 a0,pI 8 0] [hN 1 a0] (A1 (lF eRt a0)) ?_
 refine yfa ?_
 obtain⟨y3,hl_x2,hk_x2⟩:=bs h
 clear h
 refine yfc (J:=fun (x:Int)=>[dL 0 eRt a0,(1,.p (.func (.func F1) #[] #[])),pL 7 a0,pI 8 x]) hl_x2 wkk (fun x2 o_x2 h hy_x2=>?_)
 unfold ybb at h
 refine kG [dL 0 eRt a0,(1,.p (.func (.func F1) #[] #[])),pL 7 a0,pI 8 x2,pB 9 (decide (x2<(a0.length:Int)))] [] trivial ?_
 refine yab (kI h (fun hc5_3 h=>?_) (fun hc5_3 h=>?_))
 ·refine yga (q_n (yab (yfa (kG [dL 0 eRt a0,(1,.p (.func (.func F1) #[] #[])),pI 5 x2,pL 7 a0,pI 8 x2] [] trivial ?_))))
  obtain⟨v5,hv5,h⟩:=bs h
  obtain⟨v6,hv6,h⟩:=bs h
  refine kG [dL 0 eRt a0,(1,.p (.func (.func F1) #[] #[])),pI 5 x2,pL 7 a0,pI 8 x2,pB 16 v6] [hR 3 (eRt v5),hC 5 [.p (.bool v6)]] (A3 (yba hv5).1 (yca eRt (yba hv5).2) (hp1 _ _ hv6)) ?_
  refine kI h (fun hc6_6 h=>?_) (fun hc6_6 h=>?_)
  ·refine kG [pI 4 x2] [] trivial ?_
   refine yra (b_r (q_r (lq_r ?_)))
   refine b_r (q_r ?_)
   have hyy:=hy_x2 _ (oi h).symm
   subst hyy
   have h:=hk_x2
   dsimp only[Sum.elim] at h
   obtain rfl:=oi h
   exact er [(.p (iV x2),4)]
  refine yga (b_n (q_n (yub (r_gq [dL 0 eRt a0,(1,.p (.func (.func F1) #[] #[])),pL 7 a0,pI 8 (w64 (x2+1))] [] trivial) ?_)))
  exact lqn (w64 (x2+1)) h
 refine ywb (q_x (lq_x (b_x ?_)))
 have hyy:=hy_x2 _ (oi h).symm
 subst hyy
 have h:=hk_x2
 dsimp only[Sum.elim] at h
 refine q_n ?_
 exact jx () h
theorem yth {a0:(List Qr)} {a1:(Qr->Option Bool)} {F1:FuncId} (hp1:∀ x0 y,a1 x0=some y->Meets Tryz.prog F1 ([.v (vRt x0)]++[]) { vals:=[.p (.bool y)] }) {r:Bool} (h:ycb a0 a1=some r):Meets Tryz.prog 156 [.d false [.sl none (a0.map eRt)],.v (.func (.func F1) #[] #[])] { vals:=[.p (.bool r)] }:=by
 refine mo Tryz.func156 [dL 0 eRt a0,(1,.p (.func (.func F1) #[] #[]))] ?_
 unfold ycb at h
 refine kG [dL 0 eRt a0,(1,.p (.func (.func F1) #[] #[]))] [] trivial ?_
 obtain⟨v1,hv1,h⟩:=bs h
 refine kG [pB 4 (decide (v1>=0))] [hC 2 [.p (iV v1)]] (A1 (show Meets Tryz.prog 195 ([.d false [.sl none (a0.map eRt)],.v (.func (.func F1) #[] #[])]++[]) { vals:=[.p (iV v1)] } from(yui hp1 hv1))) ?_
 refine yra ?_
 obtain rfl:=oi h
 exact er [(.p (.bool (decide (v1>=0))),4)]
theorem yuw {a0:Qr}  {r:Bool} (h:yjk a0=some r):Meets Tryz.prog 179 [.v (vRt a0)] { vals:=[.p (.bool r)] }:=by
 refine mo Tryz.func179 [(0,.p (vRt a0))] ?_
 unfold yjk at h
 refine kG [bR 1 a0] [] trivial ?_
 obtain⟨v1,hv1,h⟩:=bs h
 refine kG [pB 2 (!v1)] [hC 1 [.p (.bool v1)]] (A1 (yas hv1)) ?_
 refine yra ?_
 obtain rfl:=oi h
 exact er [(.p (.bool (!v1)),2)]
theorem ydt {a0:(List Qr)}  {r:Bool} (h:ymq a0=some r):Meets Tryz.prog 126 [.d false [.sl none (a0.map eRt)]] { vals:=[.p (.bool r)] }:=by
 refine mo Tryz.func126 [dL 0 eRt a0] ?_
 unfold ymq at h
 refine kG [dL 0 eRt a0] [] trivial ?_
 obtain⟨v1,hv1,h⟩:=bs h
 refine kG [pB 2 (!v1)] [hC 1 [.p (.bool v1)]] (A1 (show Meets Tryz.prog 156 ([.d false [.sl none (a0.map eRt)],.v (.func (.func 179) #[] #[])]++[]) { vals:=[.p (.bool v1)] } from(yth (fun x0 y hy=>yuw hy) hv1))) ?_
 refine yra ?_
 obtain rfl:=oi h
 exact er [(.p (.bool (!v1)),2)]
theorem ygj {a0:Qp}  {r:Bool} (h:yfg a0=some r):Meets Tryz.prog 57 [.v (vPt a0)] { vals:=[.p (.bool r)] }:=by
 refine mo Tryz.func57 [(0,.p (vPt a0))] ?_
 unfold yfg at h
 refine kG [bP 1 a0] [] trivial ?_
 obtain⟨v1,hv1,h⟩:=bs h
 obtain⟨w3,hw3,h⟩:=bs h
 refine yza (l1:=[pB 2 w3]) ?_ ?_
 ·clear h
  rcases ft v1 with ha0 | ha0
  ·obtain⟨v2,hv2,hw3⟩:=bs (yrh ha0 hw3)
   have hw3:=oi hw3
   subst hw3
   exact(r_gq [pB 2 v2] [(5,(cS [.d false [.sl none (([a0.1,a0.2]).map eRt)]] [.p (.bool v1)])),(7,gT),(8,gT),(9,gT),(10,gT),(11,{g:=some true,call:=some (none,[.p (.bool v2)],true)}),(12,bT)] (B6 (show([.d false [.sl none (eraL (([a0.1,a0.2]).map eRt))]]:List Arg)=[.d false [.sl none (([a0.1,a0.2]).map eRt)]] from(by simp only[yua (h:=eRt) (yku er_I er_I)])) (ydt hv1) ha0 ha0 ha0 ha0 (A3 ha0 (ydc hv2) ha0)))
  replace hw3:=ysh ha0 hw3
  have hw3:=oi hw3
  subst hw3
  exact(r_gq [pB 2 false] [(5,(cS [.d false [.sl none (([a0.1,a0.2]).map eRt)]] [.p (.bool v1)])),(7,gF),(8,gF),(9,gF),(10,gF),(11,gF),(12,bF)] (B6 (show([.d false [.sl none (eraL (([a0.1,a0.2]).map eRt))]]:List Arg)=[.d false [.sl none (([a0.1,a0.2]).map eRt)]] from(by simp only[yua (h:=eRt) (yku er_I er_I)])) (ydt hv1) ha0 ha0 ha0 ha0 (A2 ha0 ha0)))
 refine yra ?_
 obtain rfl:=oi h
 exact er [(.p (.bool w3),2)]
theorem yet {a0:Qp}  {r:Bool} (h:ysf a0=some r):Meets Tryz.prog 185 [.v (vPt a0)] { vals:=[.p (.bool r)] }:=by
 refine mo Tryz.func185 [(0,.p (vPt a0))] ?_
 unfold ysf at h
 refine kG [bP 1 a0] [] trivial ?_
 obtain⟨v1,hv1,h⟩:=bs h
 refine kG [pB 2 (!v1)] [hC 1 [.p (.bool v1)]] (A1 (ygj hv1)) ?_
 refine yra ?_
 obtain rfl:=oi h
 exact er [(.p (.bool (!v1)),2)]
theorem ydp {a0:(List Qp)}  {r:Bool} (h:yef a0=some r):Meets Tryz.prog 131 [.d false (sP a0)] { vals:=[.p (.bool r)] }:=by
 refine mo Tryz.func131 [dP 0 a0] ?_
 unfold yef at h
 refine kG [dP 0 a0] [] trivial ?_
 obtain⟨v1,hv1,h⟩:=bs h
 obtain⟨w3,hw3,h⟩:=bs h
 refine yza (l1:=[pB 2 w3]) ?_ ?_
 ·clear h
  rcases ft v1 with ha0 | ha0
  ·obtain⟨v2,hv2,hw3⟩:=bs (yrh ha0 hw3)
   have hw3:=oi hw3
   subst hw3
   exact(r_gq [pB 2 (!v2)] [hN 1 a0,hC 2 [.p (.bool v1)],(4,gT),(5,{g:=some true,call:=some (none,[.p (.bool v2)],true)}),(6,gT),(7,bT)] (B6 (lnP a0) (ykd hv1) ha0 ha0 (show Meets Tryz.prog 184 ([.d false (sP a0),.v (.func (.func 185) #[] #[])]++[]) { vals:=[.p (.bool v2)] } from(yzd (fun x0 y hy=>yet hy) hv2)) ha0 (A1 ha0)))
  replace hw3:=ysh ha0 hw3
  have hw3:=oi hw3
  subst hw3
  exact(r_gq [pB 2 false] [hN 1 a0,hC 2 [.p (.bool v1)],(4,gF),(5,gF),(6,gF),(7,bF)] (A6 (lnP a0) (ykd hv1) ha0 ha0 ha0 ha0))
 refine yra ?_
 obtain rfl:=oi h
 exact er [(.p (.bool w3),2)]
theorem yrc1 {a0:(List Qp)} {a1:(List Qp)}  {r:Bool} (h:ysr a0 a1=some r):Meets Tryz.prog 121 [.d false (sP a0),.d false (sP a1)] { vals:=[.p (.bool r)] }:=by
 refine mo Tryz.func121 [dP 0 a0,dP 1 a1] ?_
 unfold ysr at h
 refine kG [dP 0 a0,dP 1 a1] [] trivial ?_
 obtain⟨v1,hv1,h⟩:=bs h
 obtain⟨w3,hw3,h⟩:=bs h
 refine yza (l1:=[pB 4 w3]) ?_ ?_
 ·clear h
  rcases ft v1 with ha0 | ha0
  ·obtain⟨v2,hv2,hw3⟩:=bs (yrh ha0 hw3)
   have hw3:=oi hw3
   subst hw3
   exact(r_gq [pB 4 v2] [hC 1 [.p (.bool v1)],(3,gT),(4,{g:=some true,call:=some (none,[.p (.bool v2)],true)}),(5,bT)] (A5 (yti hv1) ha0 ha0 (ydp hv2) ha0))
  replace hw3:=ysh ha0 hw3
  have hw3:=oi hw3
  subst hw3
  exact(r_gq [pB 4 false] [hC 1 [.p (.bool v1)],(3,gF),(4,gF),(5,bF)] (A4 (yti hv1) ha0 ha0 ha0))
 refine yra ?_
 obtain rfl:=oi h
 exact er [(.p (.bool w3),4)]
theorem ykh {a0:(List Qp)} {a1:(Qp->Option Bool)} {F1:FuncId} {K1:List (Bool×List C)} (hp1:∀ x0 y,a1 x0=some y->Meets Tryz.prog F1 ([.v (vPt x0)]++(K1.map fun (g,cs)=>mkA g cs)) { vals:=[.p (.bool y)] }) {r:Int} (h:yha a0 a1=some r):Meets Tryz.prog 178 [.d false (sP a0),.d false [.fn F1 K1]] { vals:=[.p (iV r)] }:=by
 refine mo Tryz.func178 [dP 0 a0,(1,.d false [.fn F1 K1])] ?_
 unfold yha at h
 refine kG [dP 0 a0,(1,.d false [.fn F1 K1])] [] trivial ?_
 refine yib (J:=fun (x:Unit)=>[]) (K:=fun x=>yva x=some r) (fun x1 h=>?_) ?_
 ·unfold yva at h
  refine kG [pI 4 (-1)] [] trivial ?_
  refine yra ?_
  obtain rfl:=oi h
  exact er [(.p (iV (-1)),4)]
 refine kG [dP 0 a0,(1,.d false [.fn F1 K1]),pL 7 a0,pI 8 0] [hN 1 a0] (A1 (lnP a0)) ?_
 refine yfa ?_
 obtain⟨y3,hl_x2,hk_x2⟩:=bs h
 clear h
 refine yfc (J:=fun (x:Int)=>[dP 0 a0,(1,.d false [.fn F1 K1]),pL 7 a0,pI 8 x]) hl_x2 wkk (fun x2 o_x2 h hy_x2=>?_)
 unfold yia at h
 refine kG [dP 0 a0,(1,.d false [.fn F1 K1]),pL 7 a0,pI 8 x2,pB 9 (decide (x2<(a0.length:Int)))] [] trivial ?_
 refine yab (kI h (fun hc5_3 h=>?_) (fun hc5_3 h=>?_))
 ·refine yga (q_n (yab (yfa (kG [dP 0 a0,(1,.d false [.fn F1 K1]),pI 5 x2,pL 7 a0,pI 8 x2] [] trivial ?_))))
  obtain⟨v5,hv5,h⟩:=bs h
  obtain⟨v6,hv6,h⟩:=bs h
  refine kG [dP 0 a0,(1,.d false [.fn F1 K1]),pI 5 x2,pL 7 a0,pI 8 x2,pB 16 v6] [hR 3 (ePt v5),hC 5 [.p (.bool v6)]] (A3 (yba hv5).1 (yca ePt (yba hv5).2) (hp1 _ _ hv6)) ?_
  refine kI h (fun hc6_6 h=>?_) (fun hc6_6 h=>?_)
  ·refine kG [pI 4 x2] [] trivial ?_
   refine yra (b_r (q_r (lq_r ?_)))
   refine b_r (q_r ?_)
   have hyy:=hy_x2 _ (oi h).symm
   subst hyy
   have h:=hk_x2
   dsimp only[Sum.elim] at h
   obtain rfl:=oi h
   exact er [(.p (iV x2),4)]
  refine yga (b_n (q_n (yub (r_gq [dP 0 a0,(1,.d false [.fn F1 K1]),pL 7 a0,pI 8 (w64 (x2+1))] [] trivial) ?_)))
  exact lqn (w64 (x2+1)) h
 refine ywb (q_x (lq_x (b_x ?_)))
 have hyy:=hy_x2 _ (oi h).symm
 subst hyy
 have h:=hk_x2
 dsimp only[Sum.elim] at h
 refine q_n ?_
 exact jx () h
theorem yvx {a0:Qp} {c0:Qr}  {r:Bool} (h:yvl a0 c0=some r):Meets Tryz.prog 210 [.v (vPt a0),.d false [.pt (eRt c0)]] { vals:=[.p (.bool r)] }:=by
 refine mo Tryz.func210 [(0,.p (vPt a0)),(1,.d false [.pt (eRt c0)])] ?_
 unfold yvl at h
 refine kG [(1,.d false [.pt (eRt c0)]),bP 2 a0] [] trivial ?_
 obtain⟨v1,hv1,h⟩:=bs h
 refine kG [pB 3 (!v1)] [hC 3 [.p (.bool v1)]] (A1 (ydc hv1)) ?_
 refine yra ?_
 obtain rfl:=oi h
 exact er [(.p (.bool (!v1)),3)]
theorem yea1 {a0:(List Qp)} {a1:Qr}  {r:Int} (h:ynp a0 a1=some r):Meets Tryz.prog 173 [.d false (sP a0),.v (vRt a1)] { vals:=[.p (iV r)] }:=by
 refine mo Tryz.func173 [dP 0 a0,(1,.p (vRt a1))] ?_
 unfold ynp at h
 refine kG [dP 0 a0,bR 3 a1] [] trivial ?_
 refine yea2 3 (eRt a1) (eRt a1) [dP 0 a0,(3,.d false [.pt (eRt a1)])] (by kernel_rfl) (yhb1 (yhb1 rfl)) (by kernel_rfl) (by kernel_rfl) ?_
 obtain⟨v1,hv1,h⟩:=bs h
 refine kG [pI 5 v1] [hC 2 [.p (iV v1)]] (A1 (show Meets Tryz.prog 178 ([.d false (sP a0),.d false [.fn 210 [(false,[.pt (eRt a1)])]]]++[]) { vals:=[.p (iV v1)] } from(ykh (fun x0 y hy=>yvx hy) hv1))) ?_
 refine kG [pI 4 (if(w64 (v1-1))<0 then 0 else(w64 (v1-1)))] [] trivial ?_
 refine yra ?_
 obtain rfl:=oi h
 exact er [(.p (iV (if(w64 (v1-1))<0 then 0 else(w64 (v1-1)))),4)]
theorem yfa1 {a0:Qr}  {r:Qr} (h:yms a0=some r):Meets Tryz.prog 240 [.v (vRt a0)] { vals:=[.p (vRt r)] }:=by
 refine mo Tryz.func240 [(0,.p (vRt a0))] ?_
 unfold yms at h
 refine kG [bR 1 a0,bX 2 zR] [] trivial ?_
 refine kG [bX 2 [rI (w64 (0-a0.1)),rI a0.2]] [] trivial ?_
 refine yra ?_
 obtain rfl:=oi h
 exact er [(.p (.agg #[.int .i64 (w64 (0-a0.1)),.int .i64 a0.2]),2)]
theorem yon {a0:(List Qr)}  {r:Bool} (h:ywk a0=some r):Meets Tryz.prog 238 [.d false [.sl none (a0.map eRt)]] { vals:=[.p (.bool r)] }:=by
 refine mo Tryz.func238 [dL 0 eRt a0] ?_
 unfold ywk at h
 refine kG [dL 0 eRt a0] [] trivial ?_
 refine yib (J:=fun (x:Unit)=>[]) (K:=fun x=>yuq x=some r) (fun x1 h=>?_) ?_
 ·unfold yuq at h
  refine kG [pB 2 true] [] trivial ?_
  refine yra ?_
  obtain rfl:=oi h
  exact er [(.p (.bool true),2)]
 refine kG [dL 5 eRt a0,pL 6 a0,pI 7 0] [hN 1 a0] (A1 (lF eRt a0)) ?_
 refine yfa ?_
 obtain⟨y3,hl_x2,hk_x2⟩:=bs h
 clear h
 refine yfc (J:=fun (x:Int)=>[dL 5 eRt a0,pL 6 a0,pI 7 x]) hl_x2 wkk (fun x2 o_x2 h hy_x2=>?_)
 unfold ydk at h
 refine kG [dL 5 eRt a0,pL 6 a0,pI 7 x2,pB 8 (decide (x2<(a0.length:Int)))] [] trivial ?_
 refine yab (kI h (fun hc5_3 h=>?_) (fun hc5_3 h=>?_))
 ·refine yga (q_n (yab (yfa ?_)))
  obtain⟨v5,hv5,h⟩:=bs h
  refine kG [bR 4 v5,dL 5 eRt a0,pL 6 a0,pI 7 x2] [hR 0 (eRt v5)] (A2 (yba hv5).1 (yca eRt (yba hv5).2)) ?_
  obtain⟨v6,hv6,h⟩:=bs h
  refine kG [dL 5 eRt a0,pL 6 a0,pI 7 x2,pB 13 (!v6)] [hC 1 [.p (.bool v6)]] (A1 (ytn hv6)) ?_
  refine kI h (fun hc6_6 h=>?_) (fun hc6_6 h=>?_)
  ·refine kG [pB 2 false] [] trivial ?_
   refine yra (b_r (q_r (lq_r ?_)))
   refine b_r (q_r ?_)
   have hyy:=hy_x2 _ (oi h).symm
   subst hyy
   have h:=hk_x2
   dsimp only[Sum.elim] at h
   obtain rfl:=oi h
   exact er [(.p (.bool false),2)]
  refine yga (b_n (q_n (yub (r_gq [dL 5 eRt a0,pL 6 a0,pI 7 (w64 (x2+1))] [] trivial) ?_)))
  exact lqn (w64 (x2+1)) h
 refine ywb (q_x (lq_x (b_x ?_)))
 have hyy:=hy_x2 _ (oi h).symm
 subst hyy
 have h:=hk_x2
 dsimp only[Sum.elim] at h
 refine q_n ?_
 exact jx () h
theorem ycs {a0:Int} {a1:Int}  {r:(Qr×Bool)} (h:yfn a0 a1=some r):Meets Tryz.prog 239 [wI a0,wI a1] { vals:=[.p (vRt r.1),.p (.bool r.2)] }:=by
 refine mo Tryz.func239 [pI 0 a0,pI 1 a1] ?_
 unfold yfn at h
 refine kG [pI 0 a0,pI 1 a1,bX 4 zR] [] trivial ?_
 obtain⟨v1,hv1,h⟩:=bs h
 refine kG [pI 0 a0,pI 1 a1,bX 4 zR,pI 6 v1] [hC 2 [.p (iV v1)]] (A1 (yxm hv1)) ?_
 refine yib (J:=fun (x:Int)=>[pI 0 a0,pI 1 a1,bX 4 zR,pI 6 x]) (K:=fun x=>ykj a0 a1 x=some r) (fun x2 h=>?_) ?_
 ·unfold ykj at h
  obtain⟨u3,hu3,h⟩:=bs h
  refine yza (r_dq yda 8 [] [bX 4 zR,bX 7 [rI (w64 (Int.tdiv a0 x2)),rI (w64 (Int.tdiv a1 x2))]] [] (A2 (yla hu3) (yla hu3))) ?_
  refine yab ?_
  obtain⟨v4,hv4,h⟩:=bs h
  refine kG [bX 4 zR,bX 7 [rI (w64 (Int.tdiv a0 x2)),rI (w64 (Int.tdiv a1 x2))],pB 24 (!v4)] [hC 1 [.p (.bool v4)]] (A1 (ytn hv4)) ?_
  refine kI h (fun hc2_4 h=>?_) (fun hc2_4 h=>?_)
  ·refine kG [bX 4 zR,pB 5 false] [] trivial ?_
   refine yra (q_r ?_)
   obtain rfl:=oi h
   exact er [(.p (.agg #[.int .i64 0,.int .i64 0]),4),(.p (.bool false),5)]
  refine yga (q_n (kG [bX 4 [rI (w64 (Int.tdiv a0 x2)),rI (w64 (Int.tdiv a1 x2))],pB 5 true] [] trivial ?_))
  refine yra ?_
  obtain rfl:=oi h
  exact er [(.p (.agg #[.int .i64 (w64 (Int.tdiv a0 x2)),.int .i64 (w64 (Int.tdiv a1 x2))]),4),(.p (.bool true),5)]
 refine kG [pI 0 a0,pI 1 a1,bX 4 zR,pI 6 v1,pB 12 (decide (a1<0))] [] trivial ?_
 refine kI h (fun hc2_5 h=>?_) (fun hc2_5 h=>?_)
 ·refine yub (r_gq [pI 0 a0,pI 1 a1,bX 4 zR,pI 6 (w64 (0-v1))] [] trivial) ?_
  refine q_n ?_
  exact jx (w64 (0-v1)) h
 refine yga (q_n ?_)
 exact jx v1 h
theorem you {a0:Qr} {a1:Qr}  {r:(Qr×Bool)} (h:yxk a0 a1=some r):Meets Tryz.prog 228 [.v (vRt a0),.v (vRt a1)] { vals:=[.p (vRt r.1),.p (.bool r.2)] }:=by
 refine mo Tryz.func228 [(0,.p (vRt a0)),(1,.p (vRt a1))] ?_
 unfold yxk at h
 refine kG [bR 2 a0,bR 3 a1,bX 4 zR] [] trivial ?_
 refine yab ?_
 obtain⟨v1,hv1,h⟩:=bs h
 refine kG [bR 2 a0,bR 3 a1,bX 4 zR,pB 10 (!v1)] [(3,(cS [.d false [.sl none (([a0,a1]).map eRt)]] [.p (.bool v1)]))] (A2 (show([.d false [.sl none (eraL (([a0,a1]).map eRt))]]:List Arg)=[.d false [.sl none (([a0,a1]).map eRt)]] from(by simp only[yua (h:=eRt) (yku er_I er_I)])) (yon hv1)) ?_
 refine kI h (fun hc2_1 h=>?_) (fun hc2_1 h=>?_)
 ·refine kG [bX 4 zR,pB 5 false] [] trivial ?_
  refine yra (q_r ?_)
  obtain rfl:=oi h
  exact er [(.p (.agg #[.int .i64 0,.int .i64 0]),4),(.p (.bool false),5)]
 refine yga (q_n ?_)
 obtain⟨v3,hv3,h⟩:=bs h
 refine kG [bR 4 v3.1,pB 5 v3.2] [hC 16 [.p (vRt v3.1),.p (.bool v3.2)]] (A1 (ycs hv3)) ?_
 refine yra ?_
 obtain rfl:=oi h
 exact er [(.p (vRt v3.1),4),(.p (.bool v3.2),5)]
theorem yvu {a0:Qr} {a1:Qr}  {r:(Qr×Bool)} (h:yuh a0 a1=some r):Meets Tryz.prog 230 [.v (vRt a0),.v (vRt a1)] { vals:=[.p (vRt r.1),.p (.bool r.2)] }:=by
 refine mo Tryz.func230 [(0,.p (vRt a0)),(1,.p (vRt a1))] ?_
 unfold yuh at h
 refine kG [bR 2 a0,bR 3 a1,bX 4 zR] [] trivial ?_
 obtain⟨v1,hv1,h⟩:=bs h
 obtain⟨v2,hv2,h⟩:=bs h
 refine yza (r_dq yda 3 [] [bR 4 v2.1,pB 5 v2.2] [hC 2 [.p (vRt v1)],hC 3 [.p (vRt v2.1),.p (.bool v2.2)]] (A2 (yfa1 hv1) (you hv2))) ?_
 refine yra ?_
 obtain rfl:=oi h
 exact er [(.p (vRt v2.1),4),(.p (.bool v2.2),5)]
theorem ymk {a0:Bool} {a1:Qr} {a2:Bool}  {r:(Qr×Bool)} (h:yqf a0 a1 a2=some r):MeetsB Tryz.prog 227 (.box [.raw (.bool a0)]) [.v (vRt a1),.v (.bool a2)] [.p (vRt r.1)] (.box [.raw (.bool r.2)]):=by
 refine mob Tryz.func227 [bX 0 [.raw (.bool a0)],(1,.p (vRt a1)),pB 2 a2] ?_
 unfold yqf at h
 refine kG [bX 0 [.raw (.bool a0)],pB 2 a2,bR 4 a1,bX 6 zR] [] trivial ?_
 refine yab (kG [bX 0 [.raw (.bool a0)],bR 4 a1,bX 6 zR,pB 8 (!a2)] [] trivial ?_)
 refine kI h (fun hc2_0 h=>?_) (fun hc2_0 h=>?_)
 ·refine kG [bX 0 [.raw (.bool true)],bX 6 zR] [] trivial ?_
  obtain⟨v2,hv2,h⟩:=bs h
  refine kG [bX 0 [.raw (.bool true)],bR 6 v2] [hC 0 [.p (vRt v2)]] (A1 (ybs hv2)) ?_
  refine yra (q_r ?_)
  obtain rfl:=oi h
  exact ebr [(.p (vRt v2),6)]
 refine yga (q_n (kG [bX 0 [.raw (.bool a0)],bR 6 a1] [] trivial ?_))
 refine yra ?_
 obtain rfl:=oi h
 exact ebr [(.p (vRt a1),6)]
theorem yll {a0:Bool} {a1:Qr} {a2:Qr}  {r:(Qr×Bool)} (h:ych a0 a1 a2=some r):MeetsB Tryz.prog 209 (.box [.raw (.bool a0)]) [.v (vRt a1),.v (vRt a2)] [.p (vRt r.1)] (.box [.raw (.bool r.2)]):=by
 refine mob Tryz.func209 [bX 0 [.raw (.bool a0)],(1,.p (vRt a1)),(2,.p (vRt a2))] ?_
 unfold ych at h
 refine kG [bX 0 [.raw (.bool a0)],bR 4 a1,bR 5 a2,bX 6 zR] [] trivial ?_
 obtain⟨v1,hv1,h⟩:=bs h
 obtain⟨v2,hv2,h⟩:=bs h
 refine kG [bX 0 [.raw (.bool v2.2)],bR 6 v2.1] [hC 3 [.p (vRt v1.1),.p (.bool v1.2)],hT 6 [.p (vRt v2.1)] (.box [.raw (.bool v2.2)])] (A2 (yvu hv1) (ymk hv2)) ?_
 refine yra ?_
 obtain rfl:=oi h
 exact ebr [(.p (vRt v2.1),6)]
theorem yvw {a0:Qr} {a1:Qr}  {r:(Qr×Bool)} (h:yfk a0 a1=some r):Meets Tryz.prog 229 [.v (vRt a0),.v (vRt a1)] { vals:=[.p (vRt r.1),.p (.bool r.2)] }:=by
 refine mo Tryz.func229 [(0,.p (vRt a0)),(1,.p (vRt a1))] ?_
 unfold yfk at h
 refine kG [bR 2 a0,bR 3 a1,bX 4 zR] [] trivial ?_
 refine yab ?_
 obtain⟨v1,hv1,h⟩:=bs h
 refine yza (l1:=[bR 2 a0,bR 3 a1,bX 4 zR,pB 15 ((!v1)||(a1.1==0))]) ?_ ?_
 ·rcases ft (!v1) with ha0 | ha0
  ·exact RegOk.of_eq (r_gq [bR 2 a0,bR 3 a1,bX 4 zR,pB 15 true] [(3,(cS [.d false [.sl none (([a0,a1]).map eRt)]] [.p (.bool v1)])),(6,gT),(7,gT),(8,gT),(9,bT)] (A6 (show([.d false [.sl none (eraL (([a0,a1]).map eRt))]]:List Arg)=[.d false [.sl none (([a0,a1]).map eRt)]] from(by simp only[yua (h:=eRt) (yku er_I er_I)])) (yon hv1) ha0 ha0 ha0 ha0)) (by simp[ha0])
  exact RegOk.of_eq (r_gq [bR 2 a0,bR 3 a1,bX 4 zR,pB 15 (a1.1==0)] [(3,(cS [.d false [.sl none (([a0,a1]).map eRt)]] [.p (.bool v1)])),(6,gF),(7,gF),(8,gF),(9,bF)] (A6 (show([.d false [.sl none (eraL (([a0,a1]).map eRt))]]:List Arg)=[.d false [.sl none (([a0,a1]).map eRt)]] from(by simp only[yua (h:=eRt) (yku er_I er_I)])) (yon hv1) ha0 ha0 ha0 ha0)) (by simp[ha0])
 refine kI h (fun hc2_1 h=>?_) (fun hc2_1 h=>?_)
 ·refine kG [bX 4 zR,pB 5 false] [] trivial ?_
  refine yra (q_r ?_)
  obtain rfl:=oi h
  exact er [(.p (.agg #[.int .i64 0,.int .i64 0]),4),(.p (.bool false),5)]
 refine yga (q_n ?_)
 obtain⟨v3,hv3,h⟩:=bs h
 refine kG [bR 4 v3.1,pB 5 v3.2] [hC 10 [.p (vRt v3.1),.p (.bool v3.2)]] (A1 (ycs hv3)) ?_
 refine yra ?_
 obtain rfl:=oi h
 exact er [(.p (vRt v3.1),4),(.p (.bool v3.2),5)]
theorem yft {a0:Bool} {a1:Qr} {a2:Qr}  {r:(Qr×Bool)} (h:yfl a0 a1 a2=some r):MeetsB Tryz.prog 208 (.box [.raw (.bool a0)]) [.v (vRt a1),.v (vRt a2)] [.p (vRt r.1)] (.box [.raw (.bool r.2)]):=by
 refine mob Tryz.func208 [bX 0 [.raw (.bool a0)],(1,.p (vRt a1)),(2,.p (vRt a2))] ?_
 unfold yfl at h
 refine kG [bX 0 [.raw (.bool a0)],bR 4 a1,bR 5 a2,bX 6 zR] [] trivial ?_
 obtain⟨v1,hv1,h⟩:=bs h
 obtain⟨v2,hv2,h⟩:=bs h
 refine kG [bX 0 [.raw (.bool v2.2)],bR 6 v2.1] [hC 3 [.p (vRt v1.1),.p (.bool v1.2)],hT 6 [.p (vRt v2.1)] (.box [.raw (.bool v2.2)])] (A2 (yvw hv1) (ymk hv2)) ?_
 refine yra ?_
 obtain rfl:=oi h
 exact ebr [(.p (vRt v2.1),6)]
theorem ygr {a0:Bool} {a1:Qp} {a2:Qp}  {r:(Qr×Bool)} (h:yeg a0 a1 a2=some r):MeetsB Tryz.prog 175 (.box [.raw (.bool a0)]) [.v (vPt a1),.v (vPt a2)] [.p (vRt r.1)] (.box [.raw (.bool r.2)]):=by
 refine mob Tryz.func175 [bX 0 [.raw (.bool a0)],(1,.p (vPt a1)),(2,.p (vPt a2))] ?_
 unfold yeg at h
 refine kG [bX 0 [.raw (.bool a0)],bP 4 a1,bP 5 a2,bX 6 zR] [] trivial ?_
 obtain⟨v1,hv1,h⟩:=bs h
 obtain⟨v2,hv2,h⟩:=bs h
 obtain⟨v3,hv3,h⟩:=bs h
 refine yza (r_dq yda 13 [(6,0),(12,0)] [bX 0 [.raw (.bool v3.2)],bR 6 v3.1] [hT 6 [.p (vRt v1.1)] (.box [.raw (.bool v1.2)]),hT 12 [.p (vRt v2.1)] (.box [.raw (.bool v2.2)]),hT 13 [.p (vRt v3.1)] (.box [.raw (.bool v3.2)])] (A3 (yll hv1) (yll hv2) (yft hv3))) ?_
 refine yra ?_
 obtain rfl:=oi h
 exact ebr [(.p (vRt v3.1),6)]
theorem ywu {a0:Qr} {a1:Qr}  {r:(Qr×Bool)} (h:ywh a0 a1=some r):Meets Tryz.prog 231 [.v (vRt a0),.v (vRt a1)] { vals:=[.p (vRt r.1),.p (.bool r.2)] }:=by
 refine mo Tryz.func231 [(0,.p (vRt a0)),(1,.p (vRt a1))] ?_
 unfold ywh at h
 refine kG [bR 2 a0,bR 3 a1,bX 4 zR] [] trivial ?_
 refine yab ?_
 obtain⟨v1,hv1,h⟩:=bs h
 refine kG [bR 2 a0,bR 3 a1,bX 4 zR,pB 10 (!v1)] [(3,(cS [.d false [.sl none (([a0,a1]).map eRt)]] [.p (.bool v1)]))] (A2 (show([.d false [.sl none (eraL (([a0,a1]).map eRt))]]:List Arg)=[.d false [.sl none (([a0,a1]).map eRt)]] from(by simp only[yua (h:=eRt) (yku er_I er_I)])) (yon hv1)) ?_
 refine kI h (fun hc2_1 h=>?_) (fun hc2_1 h=>?_)
 ·refine kG [bX 4 zR,pB 5 false] [] trivial ?_
  refine yra (q_r ?_)
  obtain rfl:=oi h
  exact er [(.p (.agg #[.int .i64 0,.int .i64 0]),4),(.p (.bool false),5)]
 refine yga (q_n ?_)
 obtain⟨v3,hv3,h⟩:=bs h
 refine kG [bR 4 v3.1,pB 5 v3.2] [hC 10 [.p (vRt v3.1),.p (.bool v3.2)]] (A1 (ycs hv3)) ?_
 refine yra ?_
 obtain rfl:=oi h
 exact er [(.p (vRt v3.1),4),(.p (.bool v3.2),5)]
theorem ygz {a0:Bool} {a1:Qr} {a2:Qr}  {r:(Qr×Bool)} (h:yvn a0 a1 a2=some r):MeetsB Tryz.prog 211 (.box [.raw (.bool a0)]) [.v (vRt a1),.v (vRt a2)] [.p (vRt r.1)] (.box [.raw (.bool r.2)]):=by
 refine mob Tryz.func211 [bX 0 [.raw (.bool a0)],(1,.p (vRt a1)),(2,.p (vRt a2))] ?_
 unfold yvn at h
 refine kG [bX 0 [.raw (.bool a0)],bR 4 a1,bR 5 a2,bX 6 zR] [] trivial ?_
 obtain⟨v1,hv1,h⟩:=bs h
 obtain⟨v2,hv2,h⟩:=bs h
 refine kG [bX 0 [.raw (.bool v2.2)],bR 6 v2.1] [hC 3 [.p (vRt v1.1),.p (.bool v1.2)],hT 6 [.p (vRt v2.1)] (.box [.raw (.bool v2.2)])] (A2 (ywu hv1) (ymk hv2)) ?_
 refine yra ?_
 obtain rfl:=oi h
 exact ebr [(.p (vRt v2.1),6)]
theorem ygt {a0:Bool} {a1:Qr} {a2:Qr}  {r:(Qr×Bool)} (h:ygl a0 a1 a2=some r):MeetsB Tryz.prog 207 (.box [.raw (.bool a0)]) [.v (vRt a1),.v (vRt a2)] [.p (vRt r.1)] (.box [.raw (.bool r.2)]):=by
 refine mob Tryz.func207 [bX 0 [.raw (.bool a0)],(1,.p (vRt a1)),(2,.p (vRt a2))] ?_
 unfold ygl at h
 refine kG [bX 0 [.raw (.bool a0)],bR 4 a1,bR 5 a2,bX 6 zR] [] trivial ?_
 obtain⟨v1,hv1,h⟩:=bs h
 obtain⟨v2,hv2,h⟩:=bs h
 refine kG [bX 0 [.raw (.bool v2.2)],bR 6 v2.1] [hC 3 [.p (vRt v1.1),.p (.bool v1.2)],hT 6 [.p (vRt v2.1)] (.box [.raw (.bool v2.2)])] (A2 (you hv1) (ymk hv2)) ?_
 refine yra ?_
 obtain rfl:=oi h
 exact ebr [(.p (vRt v2.1),6)]
theorem ywx {a0:Bool} {a1:Qp} {a2:Qr} {a3:Qr}  {r:(Qr×Bool)} (h:ywl a0 a1 a2 a3=some r):MeetsB Tryz.prog 174 (.box [.raw (.bool a0)]) [.v (vPt a1),.v (vRt a2),.v (vRt a3)] [.p (vRt r.1)] (.box [.raw (.bool r.2)]):=by
 refine mob Tryz.func174 [bX 0 [.raw (.bool a0)],(1,.p (vPt a1)),(2,.p (vRt a2)),(3,.p (vRt a3))] ?_
 unfold ywl at h
 refine kG [bX 0 [.raw (.bool a0)],bP 5 a1,bR 6 a2,bR 7 a3,bX 8 zR] [] trivial ?_
 obtain⟨v1,hv1,h⟩:=bs h
 obtain⟨v2,hv2,h⟩:=bs h
 obtain⟨v3,hv3,h⟩:=bs h
 refine yza (r_dq yda 11 [(9,0),(10,0)] [bX 0 [.raw (.bool v3.2)],bR 8 v3.1] [hT 9 [.p (vRt v1.1)] (.box [.raw (.bool v1.2)]),hT 10 [.p (vRt v2.1)] (.box [.raw (.bool v2.2)]),hT 11 [.p (vRt v3.1)] (.box [.raw (.bool v3.2)])] (A3 (yll hv1) (ygz hv2) (ygt hv3))) ?_
 refine yra ?_
 obtain rfl:=oi h
 exact ebr [(.p (vRt v3.1),8)]
theorem yjg {a0:Bool} {a1:(List Qp)} {a2:Qr}  {r:(Qr×Bool)} (h:yoc a0 a1 a2=some r):MeetsB Tryz.prog 116 (.box [.raw (.bool a0)]) [.d false (sP a1),.v (vRt a2)] [.p (vRt r.1)] (.box [.raw (.bool r.2)]):=by
 refine mob Tryz.func116 [bX 0 [.raw (.bool a0)],dP 1 a1,(2,.p (vRt a2))] ?_
 unfold yoc at h
 refine kG [bX 0 [.raw (.bool a0)],dP 1 a1,bR 5 a2,bX 6 zR] [] trivial ?_
 obtain⟨v1,hv1,h⟩:=bs h
 refine kG [bX 0 [.raw (.bool a0)],dP 1 a1,bR 5 a2,bX 6 zR,pI 7 v1] [hC 2 [.p (iV v1)]] (A1 (yea1 hv1)) ?_
 obtain⟨v2,hv2,h⟩:=bs h
 obtain⟨v3,hv3,h⟩:=bs h
 obtain⟨v4,hv4,h⟩:=bs h
 obtain⟨v5,hv5,h⟩:=bs h
 refine yza (r_dq yda 17 [(15,0)] [bX 0 [.raw (.bool v5.2)],bR 6 v5.1] [hR 3 (ePt v2),hR 8 (ePt v2),hR 13 (ePt v3),hT 15 [.p (vRt v4.1)] (.box [.raw (.bool v4.2)]),hT 17 [.p (vRt v5.1)] (.box [.raw (.bool v5.2)])] (B6 (yba hv2).1 (yca ePt (yba hv2).2) (yba hv2).1 (yca ePt (yba hv2).2) (yba hv3).1 (yca ePt (yba hv3).2) (A2 (ygr hv4) (ywx hv5)))) ?_
 refine yra ?_
 obtain rfl:=oi h
 exact ebr [(.p (vRt v5.1),6)]
theorem ysc1 {a0:Qr} {a1:Qr}  {r:Qr} (h:yju a0 a1=some r):Meets Tryz.prog 181 [.v (vRt a0),.v (vRt a1)] { vals:=[.p (vRt r)] }:=by
 refine mo Tryz.func181 [(0,.p (vRt a0)),(1,.p (vRt a1))] ?_
 unfold yju at h
 refine kG [bR 2 a0,bR 3 a1,bX 4 zR] [] trivial ?_
 refine yab ?_
 obtain⟨v1,hv1,h⟩:=bs h
 refine kG [bR 2 a0,bR 3 a1,bX 4 zR,pB 7 v1] [hC 2 [.p (.bool v1)]] (A1 (ydc hv1)) ?_
 refine kI h (fun hc2_1 h=>?_) (fun hc2_1 h=>?_)
 ·refine kG [bR 4 a1] [] trivial ?_
  refine yra (q_r ?_)
  obtain rfl:=oi h
  exact er [(.p (vRt a1),4)]
 refine yga (q_n (kG [bR 4 a0] [] trivial ?_))
 refine yra ?_
 obtain rfl:=oi h
 exact er [(.p (vRt a0),4)]
theorem yga1 {a0:Qr} {a1:Qr}  {r:Qr} (h:yos a0 a1=some r):Meets Tryz.prog 182 [.v (vRt a0),.v (vRt a1)] { vals:=[.p (vRt r)] }:=by
 refine mo Tryz.func182 [(0,.p (vRt a0)),(1,.p (vRt a1))] ?_
 unfold yos at h
 refine kG [bR 2 a0,bR 3 a1,bX 4 zR] [] trivial ?_
 refine yab ?_
 obtain⟨v1,hv1,h⟩:=bs h
 refine kG [bR 2 a0,bR 3 a1,bX 4 zR,pB 7 v1] [hC 2 [.p (.bool v1)]] (A1 (ydc hv1)) ?_
 refine kI h (fun hc2_1 h=>?_) (fun hc2_1 h=>?_)
 ·refine kG [bR 4 a1] [] trivial ?_
  refine yra (q_r ?_)
  obtain rfl:=oi h
  exact er [(.p (vRt a1),4)]
 refine yga (q_n (kG [bR 4 a0] [] trivial ?_))
 refine yra ?_
 obtain rfl:=oi h
 exact er [(.p (vRt a0),4)]
theorem yep {a0:Qr} {a1:Qr} {a2:Qr} {r:Qp} (h:ydf a0 a1 a2=some r):Takes Tryz.prog 180 (vRt a0) [.int .i64 a1.1,.int .i64 a1.2] [.int .i64 a2.1,.int .i64 a2.2] [.int .i64 r.1.1,.int .i64 r.1.2] [.int .i64 r.2.1,.int .i64 r.2.2]:=by
 refine yjs1 Tryz.func180 ?_
 unfold ydf at h
 refine kG [bR 1 a1,bR 2 a2,bR 3 a0] [] trivial ?_
 obtain⟨v1,hv1,h⟩:=bs h
 obtain⟨v2,hv2,h⟩:=bs h
 refine yub (r_dq yda 5 [] [bR 1 v1,bR 2 v2] [hC 2 [.p (vRt v1)],hC 5 [.p (vRt v2)]] (A2 (ysc1 hv1) (yga1 hv2))) ?_
 obtain rfl:=oi h
 exact⟨trivial,by kernel_rfl,by kernel_rfl⟩
theorem yww {a0:Bool} {a1:(List Qp)} {a2:Qr} {a3:Qr}  {r:(Qr×Qr×Bool)} (h:yik a0 a1 a2 a3=some r):MeetsB Tryz.prog 127 (.box [.raw (.bool a0)]) [.d false (sP a1),.v (vRt a2),.v (vRt a3)] [.p (vRt r.1),.p (vRt r.2.1)] (.box [.raw (.bool r.2.2)]):=by
 refine mob Tryz.func127 [bX 0 [.raw (.bool a0)],dP 1 a1,(2,.p (vRt a2)),(3,.p (vRt a3))] ?_
 unfold yik at h
 refine kG [bX 0 [.raw (.bool a0)],dP 1 a1,bR 6 a2,bR 7 a3,bX 8 zR,bX 9 zR] [] trivial ?_
 obtain⟨v1,hv1,h⟩:=bs h
 refine kG [bX 0 [.raw (.bool v1.2)],dP 1 a1,bR 6 a2,bR 7 a3,bX 8 zR,bX 9 zR,bR 10 v1.1] [hT 3 [.p (vRt v1.1)] (.box [.raw (.bool v1.2)])] (A1 (yjg hv1)) ?_
 refine kG [bX 0 [.raw (.bool v1.2)],dP 1 a1,bR 6 a2,bR 7 a3,bX 8 zR,bX 9 zR,bR 10 v1.1,bR 11 v1.1] [] trivial ?_
 refine yzv1 (r1:=10) (r2:=11) 12 (fun b1 b2=>?_)
 refine yot1 ?_
 refine v_fn [bX 0 [.raw (.bool v1.2)],dP 1 a1,bR 6 a2,bR 7 a3,bX 8 zR,bX 9 zR,bR 10 v1.1,bR 11 v1.1,(12,.p (clo 180 b1 b2))] ?_
 refine q_n ?_
 obtain⟨v2,hv2,h⟩:=bs h
 obtain⟨v3,hv3,h⟩:=bs h
 refine yot1 ?_
 refine yaw1 (n:=5) [bX 0 [.raw (.bool v2.2)],dP 1 a1,bR 6 a2,bR 7 a3,bX 8 zR,bX 9 zR,bR 10 v1.1,bR 11 v1.1,(12,.p (clo 180 b1 b2)),(21,.p (clo 180 b1 b2)),(25,.p (vRt v2.1))] [bX 0 [.raw (.bool v2.2)],dP 1 a1,bR 6 a2,bR 7 a3,bX 8 zR,bX 9 zR,bR 10 v3.1,bR 11 v3.2,(12,.p (clo 180 b1 b2)),(21,.p (clo 180 b1 b2)),(25,.p (vRt v2.1))] [hT 4 [.p (vRt v2.1)] (.box [.raw (.bool v2.2)])] (A1 (yjg hv2)) (yep hv3) ?_ rfl rfl ⟨rfl,rfl,rfl⟩
 refine q_n (ybz1 (J:=fun (x:(Int×Int×Int×Int))=>[bX 0 [.raw (.bool v2.2)],bX 8 zR,bX 9 zR,bX 10 [rI x.1,rI x.2.1],bR 11 x.2.2]) (K:=fun x=>ymn v2 x=some r) (fun x4 h=>?_) ?_)
 ·unfold ymn at h
  refine yvl1 (r_dq yda 3 [(2,8)] [bX 0 [.raw (.bool v2.2)],bX 8 [rI x4.1,rI x4.2.1],bR 9 x4.2.2] [] trivial) ?_
  refine ypa2 ?_
  obtain rfl:=oi h
  exact ebr [(.p (.agg #[.int .i64 x4.1,.int .i64 x4.2.1]),8),(.p (vRt x4.2.2),9)]
 refine yvl1 (r_gq [bX 0 [.raw (.bool v2.2)],bR 6 a2,bR 7 a3,bX 8 zR,bX 9 zR,bR 10 v3.1,bR 11 v3.2,(12,.p (clo 180 b1 b2)),dP 27 a1,pL 28 a1,pI 29 0] [hN 1 a1] (A1 (lnP a1))) ?_
 refine ykq1 ?_
 obtain⟨y6,hl_x5,hk_x5⟩:=bs h
 clear h
 refine yzy1 (J:=fun (x:(Int×Int×Int×Int×Int))=>[bX 0 [.raw (.bool v2.2)],bR 6 a2,bR 7 a3,bX 8 zR,bX 9 zR,bX 10 [rI x.1,rI x.2.1],bX 11 [rI x.2.2.1,rI x.2.2.2.1],(12,.p (clo 180 b1 b2)),dP 27 a1,pL 28 a1,pI 29 x.2.2.2.2]) hl_x5 wkk (fun x5 o_x5 h hy_x5=>?_)
 unfold yce at h
 refine yvl1 (r_gq [bX 0 [.raw (.bool v2.2)],bR 6 a2,bR 7 a3,bX 8 zR,bX 9 zR,bX 10 [rI x5.1,rI x5.2.1],bX 11 [rI x5.2.2.1,rI x5.2.2.2.1],(12,.p (clo 180 b1 b2)),dP 27 a1,pL 28 a1,pI 29 x5.2.2.2.2,pB 30 (decide (x5.2.2.2.2<(a1.length:Int)))] [] trivial) ?_
 refine yot1 ?_
 refine yxv1 (decide (x5.2.2.2.2<(a1.length:Int))) (fun hc5_6=>?_) (fun hc5_6=>?_)
 ·replace h:=yrh hc5_6 h
  refine yyv1 ?_
  refine q_n (yot1 ?_)
  refine ykq1 ?_
  obtain⟨v8,hv8,h⟩:=bs h
  refine yvl1 (r_gq [bX 0 [.raw (.bool v2.2)],bR 6 a2,bR 7 a3,bX 8 zR,bX 9 zR,bX 10 [rI x5.1,rI x5.2.1],bX 11 [rI x5.2.2.1,rI x5.2.2.2.1],(12,.p (clo 180 b1 b2)),bP 14 v8,dP 27 a1,pL 28 a1,pI 29 x5.2.2.2.2] [hR 0 (ePt v8)] (A2 (yba hv8).1 (yca ePt (yba hv8).2))) ?_
  obtain⟨v9,hv9,h⟩:=bs h
  obtain⟨w11,hw11,h⟩:=bs h
  refine yvl1 (l1:=[bX 0 [.raw (.bool v2.2)],bR 6 a2,bR 7 a3,bX 8 zR,bX 9 zR,bX 10 [rI x5.1,rI x5.2.1],bX 11 [rI x5.2.2.1,rI x5.2.2.2.1],(12,.p (clo 180 b1 b2)),bP 14 v8,dP 27 a1,pL 28 a1,pI 29 x5.2.2.2.2,pB 42 w11]) ?_ ?_
  ·clear h
   rcases ft v9 with ha1 | ha1
   ·obtain⟨v10,hv10,hw11⟩:=bs (yrh ha1 hw11)
    have hw11:=oi hw11
    subst hw11
    exact(r_gq [bX 0 [.raw (.bool v2.2)],bR 6 a2,bR 7 a3,bX 8 zR,bX 9 zR,bX 10 [rI x5.1,rI x5.2.1],bX 11 [rI x5.2.2.1,rI x5.2.2.2.1],(12,.p (clo 180 b1 b2)),bP 14 v8,dP 27 a1,pL 28 a1,pI 29 x5.2.2.2.2,pB 42 v10] [hC 3 [.p (.bool v9)],(5,gT),(6,gT),(7,gT),(8,{g:=some true,call:=some (none,[.p (.bool v10)],true)}),(9,bT)] (B6 (ydc hv9) ha1 ha1 ha1 ha1 (ydc hv10) (A1 ha1)))
   replace hw11:=ysh ha1 hw11
   have hw11:=oi hw11
   subst hw11
   exact(r_gq [bX 0 [.raw (.bool v2.2)],bR 6 a2,bR 7 a3,bX 8 zR,bX 9 zR,bX 10 [rI x5.1,rI x5.2.1],bX 11 [rI x5.2.2.1,rI x5.2.2.2.1],(12,.p (clo 180 b1 b2)),bP 14 v8,dP 27 a1,pL 28 a1,pI 29 x5.2.2.2.2,pB 42 false] [hC 3 [.p (.bool v9)],(5,gF),(6,gF),(7,gF),(8,gF),(9,bF)] (A6 (ydc hv9) ha1 ha1 ha1 ha1 ha1))
  refine yxv1 w11 (fun hc6_11=>?_) (fun hc6_11=>?_)
  ·obtain⟨v13,hv13,h⟩:=bs (yrh hc6_11 h)
   refine yaw1 (n:=3) [bX 0 [.raw (.bool v2.2)],bR 6 a2,bR 7 a3,bX 8 zR,bX 9 zR,bX 10 [rI x5.1,rI x5.2.1],bX 11 [rI x5.2.2.1,rI x5.2.2.2.1],(12,.p (clo 180 b1 b2)),dP 27 a1,pL 28 a1,pI 29 x5.2.2.2.2,(43,.p (clo 180 b1 b2)),(45,.p (vRt v8.2))] [bX 0 [.raw (.bool v2.2)],bR 6 a2,bR 7 a3,bX 8 zR,bX 9 zR,bR 10 v13.1,bR 11 v13.2,(12,.p (clo 180 b1 b2)),dP 27 a1,pL 28 a1,pI 29 x5.2.2.2.2,(43,.p (clo 180 b1 b2)),(45,.p (vRt v8.2))] [] trivial (yep hv13) ?_ rfl rfl ⟨rfl,rfl,rfl⟩
   refine b_n (q_n (yyy1 (r_gq [bX 0 [.raw (.bool v2.2)],bR 6 a2,bR 7 a3,bX 8 zR,bX 9 zR,bR 10 v13.1,bR 11 v13.2,(12,.p (clo 180 b1 b2)),dP 27 a1,pL 28 a1,pI 29 (w64 (x5.2.2.2.2+1))] [] trivial) ?_))
   exact lqn (v13.1.1,v13.1.2,v13.2.1,v13.2.2,(w64 (x5.2.2.2.2+1))) h
  replace h:=ysh hc6_11 h
  refine yyv1 ?_
  refine b_n (q_n (yyy1 (r_gq [bX 0 [.raw (.bool v2.2)],bR 6 a2,bR 7 a3,bX 8 zR,bX 9 zR,bX 10 [rI x5.1,rI x5.2.1],bX 11 [rI x5.2.2.1,rI x5.2.2.2.1],(12,.p (clo 180 b1 b2)),dP 27 a1,pL 28 a1,pI 29 (w64 (x5.2.2.2.2+1))] [] trivial) ?_))
  exact lqn (x5.1,x5.2.1,x5.2.2.1,x5.2.2.2.1,(w64 (x5.2.2.2.2+1))) h
 replace h:=ysh hc5_6 h
 refine yaz1 ?_
 refine q_x (lq_x (b_x ?_))
 have hyy:=hy_x5 _ (oi h).symm
 subst hyy
 have h:=hk_x5
 refine q_n ?_
 exact jx (x5.1,x5.2.1,x5.2.2.1,x5.2.2.2.1) h
theorem yml {a0:Bool} {a1:(List Qp)} {a2:Qp} {a3:Qp}  {r:(Bool×Bool)} (h:yle a0 a1 a2 a3=some r):MeetsB Tryz.prog 58 (.box [.raw (.bool a0)]) [.d false (sP a1),.v (vPt a2),.v (vPt a3)] [.p (.bool r.1)] (.box [.raw (.bool r.2)]):=by
 refine mob Tryz.func58 [bX 0 [.raw (.bool a0)],dP 1 a1,(2,.p (vPt a2)),(3,.p (vPt a3))] ?_
 unfold yle at h
 refine kG [bX 0 [.raw (.bool a0)],dP 1 a1,bP 6 a2,bP 7 a3] [] trivial ?_
 obtain⟨v1,hv1,h⟩:=bs h
 refine kG [bX 0 [.raw (.bool v1.2.2)],bP 7 a3,bR 9 v1.1,bR 10 v1.2.1] [hT 6 [.p (vRt v1.1),.p (vRt v1.2.1)] (.box [.raw (.bool v1.2.2)])] (A1 (yww hv1)) ?_
 obtain⟨v2,hv2,h⟩:=bs h
 obtain⟨w4,hw4,h⟩:=bs h
 refine yza (l1:=[bX 0 [.raw (.bool v1.2.2)],pB 8 w4]) ?_ ?_
 ·clear h
  rcases ft (!v2) with ha0 | ha0
  ·obtain⟨v3,hv3,hw4⟩:=bs (yrh ha0 hw4)
   have hw4:=oi hw4
   subst hw4
   exact(r_gq [bX 0 [.raw (.bool v1.2.2)],pB 8 (!v3)] [hC 3 [.p (.bool v2)],(6,gT),(7,gT),(8,gT),(9,{g:=some true,call:=some (none,[.p (.bool v3)],true)}),(10,gT),(11,bT)] (B6 (ydc hv2) ha0 ha0 ha0 ha0 (ydc hv3) (A2 ha0 ha0)))
  replace hw4:=ysh ha0 hw4
  have hw4:=oi hw4
  subst hw4
  exact(r_gq [bX 0 [.raw (.bool v1.2.2)],pB 8 false] [hC 3 [.p (.bool v2)],(6,gF),(7,gF),(8,gF),(9,gF),(10,gF),(11,bF)] (B6 (ydc hv2) ha0 ha0 ha0 ha0 ha0 (A1 ha0)))
 refine yra ?_
 obtain rfl:=oi h
 exact ebr [(.p (.bool w4),8)]
theorem ynl {a0:(List Qp)} {a1:(List Qp)}  {r:((List Int)×Bool)} (h:yvc a0 a1=some r):Meets Tryz.prog 54 [.d false (sP a0),.d false (sP a1)] { vals:=[rO 3 eI r.1,.p (.bool r.2)] }:=by
 refine mo Tryz.func54 [dP 0 a0,dP 1 a1] ?_
 unfold yvc at h
 refine kG [dP 0 a0,dP 1 a1] [] trivial ?_
 refine yab ?_
 obtain⟨v1,hv1,h⟩:=bs h
 refine kG [dP 0 a0,dP 1 a1,pB 13 (!v1)] [hC 2 [.p (.bool v1)]] (A1 (yrc1 hv1)) ?_
 refine kI h (fun hc2_1 h=>?_) (fun hc2_1 h=>?_)
 ·refine kG [vN 4 3,pB 5 false] [] trivial ?_
  refine yra (q_r ?_)
  obtain rfl:=oi h
  exact er [(.ov false (oN 3),4),(.p (.bool false),5)]
 refine yga (q_n (kG [dP 0 a0,dP 1 a1,bX 6 [.raw (.bool false)]] [] trivial ?_))
 refine kG [dP 0 a0,dP 1 a1,bX 6 [.raw (.bool false)],vN 7 3] [] trivial ?_
 refine yib (J:=fun (x:(Bool×(List Int)))=>[bX 6 [.raw (.bool x.1)],vL 7 3 eI x.2]) (K:=fun x=>yuc x=some r) (fun x3 h=>?_) ?_
 ·unfold yuc at h
  refine yab (kG [vL 7 3 eI x3.2,pB 39 x3.1] [] trivial ?_)
  refine kI h (fun hc2_3 h=>?_) (fun hc2_3 h=>?_)
  ·refine kG [vN 4 3,pB 5 false] [] trivial ?_
   refine yra (q_r ?_)
   obtain rfl:=oi h
   exact er [(.ov false (oN 3),4),(.p (.bool false),5)]
  refine yga (q_n (kG [vL 4 3 eI x3.2,pB 5 true] [] trivial ?_))
  refine yra ?_
  obtain rfl:=oi h
  exact er [(.ov false [.sl (some 3) (x3.2.map eI)],4),(.p (.bool true),5)]
 refine kG [dP 0 a0,dP 1 a1,bX 6 [.raw (.bool false)],vN 7 3,dP 14 a1,pL 15 a1,pI 16 0] [hN 1 a1] (A1 (lnP a1)) ?_
 refine yfa ?_
 obtain⟨y6,hl_x5,hk_x5⟩:=bs h
 clear h
 refine yfc (J:=fun (x:(Bool×(List Int)×Int))=>[dP 0 a0,dP 1 a1,bX 6 [.raw (.bool x.1)],vL 7 3 eI x.2.1,dP 14 a1,pL 15 a1,pI 16 x.2.2]) hl_x5 wkk (fun x5 o_x5 h hy_x5=>?_)
 unfold ylc at h
 refine kG [dP 0 a0,dP 1 a1,bX 6 [.raw (.bool x5.1)],vL 7 3 eI x5.2.1,dP 14 a1,pL 15 a1,pI 16 x5.2.2,pB 17 (decide (x5.2.2<(a1.length:Int)))] [] trivial ?_
 refine yab (kI h (fun hc5_6 h=>?_) (fun hc5_6 h=>?_))
 ·refine yga (q_n (yab (yfa ?_)))
  obtain⟨v8,hv8,h⟩:=bs h
  refine kG [dP 0 a0,dP 1 a1,bX 6 [.raw (.bool x5.1)],vL 7 3 eI x5.2.1,pI 8 x5.2.2,bP 9 v8,dP 14 a1,pL 15 a1,pI 16 x5.2.2] [hR 1 (ePt v8)] (A2 (yba hv8).1 (yca ePt (yba hv8).2)) ?_
  obtain⟨u9,hu9,h⟩:=bs h
  obtain⟨v10,hv10,h⟩:=bs h
  obtain⟨v11,hv11,h⟩:=bs h
  refine yza (r_dq yda 10 [] [dP 0 a0,dP 1 a1,bX 6 [.raw (.bool v11.2)],vL 7 3 eI x5.2.1,pI 8 x5.2.2,dP 14 a1,pL 15 a1,pI 16 x5.2.2,pB 32 (!v11.1)] [hN 6 a1,hR 8 (ePt v10),hT 10 [.p (.bool v11.1)] (.box [.raw (.bool v11.2)])] (A5 (lnP a1) (yla hu9) (yba hv10).1 (yca ePt (yba hv10).2) (yml hv11))) ?_
  refine kI h (fun hc6_11 h=>?_) (fun hc6_11 h=>?_)
  ·obtain⟨u13,hu13,h⟩:=bs h
   refine yub (r_gq [dP 0 a0,dP 1 a1,bX 6 [.raw (.bool v11.2)],vL 7 3 eI (x5.2.1++[x5.2.2]),dP 14 a1,pL 15 a1,pI 16 x5.2.2] [(3,{fix:=some (vL 36 3 eI (x5.2.1++[x5.2.2]))})] (A3 (lG' eI hu13) (show ∀ row∈((([x5.2.2]).map eI):List (List C)),row.length=1 from(ycc fun _=>rfl)) (aP' 3 eI x5.2.1 ([x5.2.2])))) ?_
   refine b_n (q_n (yub (r_gq [dP 0 a0,dP 1 a1,bX 6 [.raw (.bool v11.2)],vL 7 3 eI (x5.2.1++[x5.2.2]),dP 14 a1,pL 15 a1,pI 16 (w64 (x5.2.2+1))] [] trivial) ?_))
   exact lqn (v11.2,(x5.2.1++[x5.2.2]),(w64 (x5.2.2+1))) h
  refine yga (b_n (q_n (yub (r_gq [dP 0 a0,dP 1 a1,bX 6 [.raw (.bool v11.2)],vL 7 3 eI x5.2.1,dP 14 a1,pL 15 a1,pI 16 (w64 (x5.2.2+1))] [] trivial) ?_)))
  exact lqn (v11.2,x5.2.1,(w64 (x5.2.2+1))) h
 refine ywb (q_x (lq_x (b_x ?_)))
 have hyy:=hy_x5 _ (oi h).symm
 subst hyy
 have h:=hk_x5
 refine q_n ?_
 exact jx (x5.1,x5.2.1) h
theorem ypu {a0:(List Qp)} {a1:(List Qp)}  {r:(Bool×Bool)} (h:ytd a0 a1=some r):Meets Tryz.prog 9 [.d false (sP a0),.d false (sP a1)] { vals:=[.p (.bool r.1),.p (.bool r.2)] }:=by
 refine mo Tryz.func9 [dP 0 a0,dP 1 a1] ?_
 unfold ytd at h
 refine kG [dP 0 a0,dP 1 a1] [] trivial ?_
 obtain⟨v1,hv1,h⟩:=bs h
 refine kG [dP 1 a1,vL 6 3 eI v1.1,pB 7 v1.2] [hC 2 [rO 3 eI v1.1,.p (.bool v1.2)]] (A2 (ynl hv1) (show List.all [rO 3 eI v1.1,.p (.bool v1.2)] simpleR=true from(sa_o (wnR1 (yge wn_I) rfl) (sa_p rfl)))) ?_
 obtain⟨w3,hw3,h⟩:=bs h
 refine yza (l1:=[pB 4 w3,pB 5 v1.2]) ?_ ?_
 ·clear h
  rcases ft v1.2 with ha0 | ha0
  ·replace hw3:=yrh ha0 hw3
   rcases ft ((v1.1.length:Int)==0) with ha1 | ha1
   ·replace hw3:=yrh ha1 hw3
    have hw3:=oi hw3
    subst hw3
    exact(r_gq [pB 4 true,pB 5 v1.2] [(2,gT),(3,{g:=some true,n:=some v1.1.length}),(4,gT),(5,gT),(6,gT),(7,gT),(8,gT),(9,gT),(10,gT),(11,gT),(12,gT),(13,{g:=some true,b:=some true}),(14,bT)] (B6 ha0 ha0 (lF eI v1.1) ha0 ha0 ha1 (B6 ha1 ha1 ha1 ha1 ha1 ha1 (A3 ha0 ha1 ha0))))
   obtain⟨v2,hv2,hw3⟩:=bs (ysh ha1 hw3)
   have hw3:=oi hw3
   subst hw3
   exact(r_gq [pB 4 (v2==(w64 ((a1.length:Int)-1))),pB 5 v1.2] [(2,gT),(3,{g:=some true,n:=some v1.1.length}),(4,gT),(5,gT),(6,gF),(7,{g:=some false,row:=some (eI v2)}),(8,{g:=some false,row:=some (eI v2)}),(9,gF),(10,{g:=some false,n:=some a1.length}),(11,gF),(12,gF),(13,{g:=some true,b:=some false}),(14,bT)] (B6 ha0 ha0 (lF eI v1.1) ha0 ha0 ha1 (B6 ha1 (yba hv2).1 (yca eI (yba hv2).2) ha1 (gW 3 eI hv2) ha1 (B6 ha1 (lnP a1) ha1 ha1 ha0 ha1 (A1 ha0)))))
  replace hw3:=ysh ha0 hw3
  have hw3:=oi hw3
  subst hw3
  exact(r_gq [pB 4 false,pB 5 v1.2] [(2,gF),(3,gF),(4,gF),(5,gF),(13,gF),(14,bF)] (A6 ha0 ha0 ha0 ha0 ha0 ha0))
 refine yra ?_
 obtain rfl:=oi h
 exact er [(.p (.bool w3),4),(.p (.bool v1.2),5)]
theorem ylh {a0:(List Qp)} {r:(List Qp)} (h:yhb a0=some r):Meets Tryz.prog 49 [.d false (sP a0)] { vals:=[.ov false (oP 40 r)] }:=by
 refine yoh1 (by kernel_rfl) Tryz.func49 rfl (by kernel_rfl) (l0:=[dP 0 a0]) (by kernel_rfl) ?_
 unfold yhb at h
 refine yza (r_go [dP 0 a0] [] [] (by kernel_rfl) trivial) ?_
 refine yab (yma2 (e:=40) (z:=0) (d:=4) (rows:=(a0.map ePt)) (fun b=>[dP 0 a0,pB 4 b]) rfl rfl rfl rfl rfl rfl (by kernel_rfl) rfl (fun v=>by cases v <;> kernel_rfl) (fun v=>by cases v <;> kernel_rfl) ?_ (fun hnil=>?_))
 ·refine yyr1 (b:=false) (by kernel_rfl) (fun hno=>by cases hno) (fun _=>?_)
  refine yga (q_n ?_)
  replace h:=bind_some' h
  obtain⟨u2,hu2,h⟩:=h
  refine yza (r_go [vP 2 40 a0] [] [List.length ([]:List (List C))+List.length ((a0.map ePt):List (List C))<=1099511627776,∀ row∈((a0.map ePt):List (List C)),row.length=4] (by kernel_rfl) ⟨(by have hg:=(yla hu2);simpa using hg),(ycc fun _=>rfl),trivial⟩) ?_
  refine yra ?_
  obtain rfl:=Option.some.inj h
  exact yuy1 (ls:=[(.ov false (oP 40 a0),2)]) (by kernel_rfl) rfl (by kernel_rfl) rfl
 obtain rfl:=List.map_eq_nil_iff.1 hnil
 refine yyr1 (b:=true) (by kernel_rfl) (fun _=>?_) (fun hno=>by cases hno)
 refine yza (r_go [vN 2 40] [] [] (by kernel_rfl) trivial) ?_
 refine yra (q_r ?_)
 obtain rfl:r=[]:=by simp[guardO] at h;first | exact h | exact h.symm
 exact yuy1 (ls:=[(.ov false (oN 40),2)]) (by kernel_rfl) rfl (by kernel_rfl) rfl
theorem yxx {a0:Bool} {a1:Qp} {a2:Qp} {a3:Qr}  {r:(Qr×Bool)} (h:yxl a0 a1 a2 a3=some r):MeetsB Tryz.prog 172 (.box [.raw (.bool a0)]) [.v (vPt a1),.v (vPt a2),.v (vRt a3)] [.p (vRt r.1)] (.box [.raw (.bool r.2)]):=by
 refine mob Tryz.func172 [bX 0 [.raw (.bool a0)],(1,.p (vPt a1)),(2,.p (vPt a2)),(3,.p (vRt a3))] ?_
 unfold yxl at h
 refine kG [bX 0 [.raw (.bool a0)],bP 5 a1,bP 6 a2,bR 7 a3,bX 8 zR] [] trivial ?_
 obtain⟨v1,hv1,h⟩:=bs h
 obtain⟨v2,hv2,h⟩:=bs h
 obtain⟨v3,hv3,h⟩:=bs h
 obtain⟨v4,hv4,h⟩:=bs h
 refine yza (r_dq yda 14 [(8,0),(12,0),(13,0)] [bX 0 [.raw (.bool v4.2)],bR 8 v4.1] [hT 8 [.p (vRt v1.1)] (.box [.raw (.bool v1.2)]),hT 12 [.p (vRt v2.1)] (.box [.raw (.bool v2.2)]),hT 13 [.p (vRt v3.1)] (.box [.raw (.bool v3.2)]),hT 14 [.p (vRt v4.1)] (.box [.raw (.bool v4.2)])] (A4 (yll hv1) (ygr hv2) (yft hv3) (ygt hv4))) ?_
 refine yra ?_
 obtain rfl:=oi h
 exact ebr [(.p (vRt v4.1),8)]
theorem yak {a0:List Qr} {r:List Qr} (h:yyb a0=some r):MeetsB Tryz.prog 150 (.ov false [.sl (some 38) (a0.map eRt)]) [.v (.func (.func 151) #[] #[])] [] (.ov false [.sl (some 38) (r.map eRt)]):=by
 unfold yyb at h
 obtain⟨u1,hu1,h⟩:=bind_some' h
 have hg:=yla hu1
 obtain rfl:=Option.some.inj h
 exact meets_sortS hg.2 (Nat.lt_of_le_of_lt hg.1 (by decide))
theorem yuk {a0:List Qr} {r:List Qr} (h:ybc a0=some r):MeetsB Tryz.prog 152 (.ov false [.sl (some 38) (a0.map eRt)]) [] [rO 38 eRt r] .u:=by
 unfold ybc at h
 obtain rfl:=Option.some.inj h
 exact meets_compactS
theorem yuv {a0:(List Qr)}  {r:(List Qr)} (h:yxo a0=some r):MeetsB Tryz.prog 84 (.ov false [.sl (some 38) (a0.map eRt)]) [] [rO 38 eRt r] (.u):=by
 refine mob Tryz.func84 [vL 0 38 eRt a0] ?_
 unfold yxo at h
 refine kG [vL 0 38 eRt a0] [] trivial ?_
 obtain⟨v1,hv1,h⟩:=bs h
 refine kG [vL 0 38 eRt v1] [(1,{lend:=some (none,[],.ov false [.sl (some 38) (v1.map eRt)],true)})] (A2 (yak hv1) (show(List.all [] simpleR&&wnS (.ov false [.sl (some 38) (v1.map eRt)]))=true from(ls_t rfl (wnR1 (yge (wn_P wn_I wn_I)) rfl)))) ?_
 obtain⟨v2,hv2,h⟩:=bs h
 refine kG [vL 2 38 eRt v2] [(1,{lend:=some (none,[rO 38 eRt v2],.u,true)})] (A2 (yuk hv2) (sR' 38 v2)) ?_
 refine yra ?_
 obtain rfl:=oi h
 exact ebr [(.ov false [.sl (some 38) (v2.map eRt)],2)]
theorem yfq {a0:Bool} {a1:(List Qp)} {a2:Qr}  {r:((List Qr)×Bool)} (h:yvg a0 a1 a2=some r):MeetsB Tryz.prog 114 (.box [.raw (.bool a0)]) [.d false (sP a1),.v (vRt a2)] [rO 38 eRt r.1] (.box [.raw (.bool r.2)]):=by
 refine mob Tryz.func114 [bX 0 [.raw (.bool a0)],dP 1 a1,(2,.p (vRt a2))] ?_
 unfold yvg at h
 refine kG [bX 0 [.raw (.bool a0)],dP 1 a1,bR 5 a2] [] trivial ?_
 refine kG [bX 0 [.raw (.bool a0)],dP 1 a1,bR 5 a2,vN 7 38] [] trivial ?_
 refine yib (J:=fun (x:(Bool×(List Qr)))=>[bX 0 [.raw (.bool x.1)],vL 7 38 eRt x.2]) (K:=fun x=>yki x=some r) (fun x1 h=>?_) ?_
 ·unfold yki at h
  obtain⟨v2,hv2,h⟩:=bs h
  refine kG [bX 0 [.raw (.bool x1.1)],vL 6 38 eRt v2] [(1,{lend:=some (none,[rO 38 eRt v2],.u,true)})] (A2 (yuv hv2) (sR' 38 v2)) ?_
  refine yra ?_
  obtain rfl:=oi h
  exact ebr [(.ov false [.sl (some 38) (v2.map eRt)],6)]
 refine kG [bX 0 [.raw (.bool a0)],dP 1 a1,bR 5 a2,vN 7 38,dP 10 a1,pL 11 a1,pI 12 0] [hN 1 a1] (A1 (lnP a1)) ?_
 refine yfa ?_
 obtain⟨y4,hl_x3,hk_x3⟩:=bs h
 clear h
 refine yfc (J:=fun (x:(Bool×(List Qr)×Int))=>[bX 0 [.raw (.bool x.1)],dP 1 a1,bR 5 a2,vL 7 38 eRt x.2.1,dP 10 a1,pL 11 a1,pI 12 x.2.2]) hl_x3 wkk (fun x3 o_x3 h hy_x3=>?_)
 unfold ymm at h
 refine kG [bX 0 [.raw (.bool x3.1)],dP 1 a1,bR 5 a2,vL 7 38 eRt x3.2.1,dP 10 a1,pL 11 a1,pI 12 x3.2.2,pB 13 (decide (x3.2.2<(a1.length:Int)))] [] trivial ?_
 refine yab (kI h (fun hc5_4 h=>?_) (fun hc5_4 h=>?_))
 ·refine yga (q_n (yab (yfa ?_)))
  obtain⟨v6,hv6,h⟩:=bs h
  refine kG [bX 0 [.raw (.bool x3.1)],dP 1 a1,bR 5 a2,vL 7 38 eRt x3.2.1,pI 8 x3.2.2,bP 9 v6,dP 10 a1,pL 11 a1,pI 12 x3.2.2] [hR 1 (ePt v6)] (A2 (yba hv6).1 (yca ePt (yba hv6).2)) ?_
  refine yib (J:=fun (x:(List Qr))=>[bX 0 [.raw (.bool x3.1)],dP 1 a1,bR 5 a2,vL 7 38 eRt x,pI 8 x3.2.2,bP 9 v6,dP 10 a1,pL 11 a1,pI 12 x3.2.2]) (K:=fun x=>ypd a1 a2 x3 v6 x=some o_x3) (fun x7 h=>?_) ?_
  ·unfold ypd at h
   obtain⟨w11,hw11,h⟩:=bs h
   refine yza (l1:=[bX 0 [.raw (.bool x3.1)],dP 1 a1,bR 5 a2,vL 7 38 eRt x7,pI 8 x3.2.2,bP 9 v6,dP 10 a1,pL 11 a1,pI 12 x3.2.2,pB 43 w11]) ?_ ?_
   ·clear h
    rcases ft (decide (x3.2.2>0)) with ha1 | ha1
    ·obtain⟨v8,hv8,hw11⟩:=bs (yrh ha1 hw11)
     obtain⟨v9,hv9,hw11⟩:=bs hw11
     obtain⟨v10,hv10,hw11⟩:=bs hw11
     have hw11:=oi hw11
     subst hw11
     exact(r_dq yda 14 [] [bX 0 [.raw (.bool x3.1)],dP 1 a1,bR 5 a2,vL 7 38 eRt x7,pI 8 x3.2.2,bP 9 v6,dP 10 a1,pL 11 a1,pI 12 x3.2.2,pB 43 (decide ((w64 (v9*v10))<0))] [(3,gT),(4,gT),(5,gT),(6,{g:=some true,row:=some (ePt v8)}),(7,gT),(8,gT),(9,gT),(10,{g:=some true,call:=some (none,[.p (iV v9)],true)}),(11,gT),(12,gT),(13,gT),(14,{g:=some true,call:=some (none,[.p (iV v10)],true)}),(15,gT),(16,gT),(17,bT)] (B6 ha1 ha1 ha1 ha1 (yba hv8).1 (yca ePt (yba hv8).2) (B6 ha1 ha1 ha1 ha1 (yqq hv9) ha1 (B6 ha1 ha1 ha1 (yqq hv10) ha1 ha1 (A1 ha1)))))
    replace hw11:=ysh ha1 hw11
    have hw11:=oi hw11
    subst hw11
    exact(r_dq yda 14 [] [bX 0 [.raw (.bool x3.1)],dP 1 a1,bR 5 a2,vL 7 38 eRt x7,pI 8 x3.2.2,bP 9 v6,dP 10 a1,pL 11 a1,pI 12 x3.2.2,pB 43 false] [(3,gF),(4,gF),(5,gF),(6,gF),(7,gF),(8,gF),(9,gF),(10,gF),(11,gF),(12,gF),(13,gF),(14,gF),(15,gF),(16,gF),(17,bF)] (B6 ha1 ha1 ha1 ha1 ha1 ha1 (B6 ha1 ha1 ha1 ha1 ha1 ha1 (A3 ha1 ha1 ha1))))
   refine kI h (fun hc6_11 h=>?_) (fun hc6_11 h=>?_)
   ·obtain⟨v13,hv13,h⟩:=bs h
    obtain⟨v14,hv14,h⟩:=bs h
    obtain⟨u15,hu15,h⟩:=bs h
    refine yub (r_dq yda 11 [(9,0)] [bX 0 [.raw (.bool v14.2)],dP 1 a1,bR 5 a2,vL 7 38 eRt (x7++[v14.1]),dP 10 a1,pL 11 a1,pI 12 x3.2.2] [hR 5 (ePt v13),hT 9 [.p (vRt v14.1)] (.box [.raw (.bool v14.2)]),(11,{fix:=some (vL 55 38 eRt (x7++[v14.1]))})] (A6 (yba hv13).1 (yca ePt (yba hv13).2) (yxx hv14) (lG' eRt hu15) (show ∀ row∈((([v14.1]).map eRt):List (List C)),row.length=2 from(ycc fun _=>rfl)) (aP' 38 eRt x7 ([v14.1])))) ?_
    refine b_n (q_n (yub (r_gq [bX 0 [.raw (.bool v14.2)],dP 1 a1,bR 5 a2,vL 7 38 eRt (x7++[v14.1]),dP 10 a1,pL 11 a1,pI 12 (w64 (x3.2.2+1))] [] trivial) ?_))
    exact lqn (v14.2,(x7++[v14.1]),(w64 (x3.2.2+1))) h
   refine yga (b_n (q_n (yub (r_gq [bX 0 [.raw (.bool x3.1)],dP 1 a1,bR 5 a2,vL 7 38 eRt x7,dP 10 a1,pL 11 a1,pI 12 (w64 (x3.2.2+1))] [] trivial) ?_)))
   exact lqn (x3.1,x7,(w64 (x3.2.2+1))) h
  refine kG [bX 0 [.raw (.bool x3.1)],dP 1 a1,bR 5 a2,vL 7 38 eRt x3.2.1,pI 8 x3.2.2,bP 9 v6,dP 10 a1,pL 11 a1,pI 12 x3.2.2,pB 20 ((v6.2.1==a2.1)&&(v6.2.2==a2.2))] [(3,{pv:=some (.bool ((v6.2.1==a2.1)&&(v6.2.2==a2.2)))})] (A1 (show PureAt Tryz.prog (.binOp .eql 38 (.tmp 18) (.tmp 19) 38) [vRt v6.2,vRt a2] (.bool ((v6.2.1==a2.1)&&(v6.2.2==a2.2))) from(ylf (by kernel_rfl)))) ?_
  refine kI h (fun hc7_15 h=>?_) (fun hc7_15 h=>?_)
  ·obtain⟨u17,hu17,h⟩:=bs h
   refine yub (r_gq [bX 0 [.raw (.bool x3.1)],dP 1 a1,bR 5 a2,vL 7 38 eRt (x3.2.1++[v6.1]),pI 8 x3.2.2,bP 9 v6,dP 10 a1,pL 11 a1,pI 12 x3.2.2] [(4,{fix:=some (vL 25 38 eRt (x3.2.1++[v6.1]))})] (A3 (lG' eRt hu17) (show ∀ row∈((([v6.1]).map eRt):List (List C)),row.length=2 from(ycc fun _=>rfl)) (aP' 38 eRt x3.2.1 ([v6.1])))) ?_
   refine q_n ?_
   exact jx (x3.2.1++[v6.1]) h
  refine yga (q_n ?_)
  exact jx x3.2.1 h
 refine ywb (q_x (lq_x (b_x ?_)))
 have hyy:=hy_x3 _ (oi h).symm
 subst hyy
 have h:=hk_x3
 refine q_n ?_
 exact jx (x3.1,x3.2.1) h
theorem ymu {a0:Qr} {c0:(Int×Int×Int×Int)}  {r:Bool} (h:yrj a0 c0=some r):Meets Tryz.prog 113 [.v (vRt a0),.d false [.pt [rI c0.1,rI c0.2.1,rI c0.2.2.1,rI c0.2.2.2]]] { vals:=[.p (.bool r)] }:=by
 refine mo Tryz.func113 [(0,.p (vRt a0)),(1,.d false [.pt [rI c0.1,rI c0.2.1,rI c0.2.2.1,rI c0.2.2.2]])] ?_
 unfold yrj at h
 refine kG [(1,.d false [.pt [rI c0.1,rI c0.2.1,rI c0.2.2.1,rI c0.2.2.2]]),bR 2 a0] [] trivial ?_
 refine yza (l1:=[pB 3 (((a0.1==c0.1)&&(a0.2==c0.2.1))||((a0.1==c0.2.2.1)&&(a0.2==c0.2.2.2)))]) ?_ ?_
 ·rcases ft ((a0.1==c0.1)&&(a0.2==c0.2.1)) with ha0 | ha0
  ·exact RegOk.of_eq (r_gq [pB 3 true] [(3,{pv:=some (.bool ((a0.1==c0.1)&&(a0.2==c0.2.1)))}),(5,gT),(6,gT),(7,gT),(8,gT),(9,bT)] (A6 (show PureAt Tryz.prog (.binOp .eql 38 (.tmp 4) (.tmp 6) 38) [vRt a0,.agg #[.int .i64 c0.1,.int .i64 c0.2.1]] (.bool ((a0.1==c0.1)&&(a0.2==c0.2.1))) from(ylf (by kernel_rfl))) ha0 ha0 ha0 ha0 ha0)) (by simp[ha0])
  exact RegOk.of_eq (r_gq [pB 3 ((a0.1==c0.2.2.1)&&(a0.2==c0.2.2.2))] [(3,{pv:=some (.bool ((a0.1==c0.1)&&(a0.2==c0.2.1)))}),(5,gF),(6,gF),(7,gF),(8,(hB ((a0.1==c0.2.2.1)&&(a0.2==c0.2.2.2)))),(9,bF)] (B6 (show PureAt Tryz.prog (.binOp .eql 38 (.tmp 4) (.tmp 6) 38) [vRt a0,.agg #[.int .i64 c0.1,.int .i64 c0.2.1]] (.bool ((a0.1==c0.1)&&(a0.2==c0.2.1))) from(ylf (by kernel_rfl))) ha0 ha0 ha0 ha0 (show PureAt Tryz.prog (.binOp .eql 38 (.tmp 9) (.tmp 11) 38) [vRt a0,vRt c0.2.2] (.bool ((a0.1==c0.2.2.1)&&(a0.2==c0.2.2.2))) from(ylf (by kernel_rfl))) (A1 ha0))) (by simp[ha0])
 refine yra ?_
 obtain rfl:=oi h
 exact er [(.p (.bool (((a0.1==c0.1)&&(a0.2==c0.2.1))||((a0.1==c0.2.2.1)&&(a0.2==c0.2.2.2)))),3)]
end Go.PV

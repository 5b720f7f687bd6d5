/-
  Walks through the functions that the law reaches: each answers as its plain definition does.
  Conditions: none.
-/
import Derived.KernelRfl
import Derived.Test.YtcmcgkkjkaahcaaGreatWLapMapsPartB
import Derived.Test.YtcmcgkkjkaahcaaGreatProg
import Derived.Test.YtcmcgkkjkaahcaaGreatSrtYtcmcgkkjkaahcaaGreat
import Derived.Test.YtcmcgkkjkaahcaaGreatPvCx
open Go Go.PV Go.Proofs
set_option linter.all false
namespace Go.PV
attribute [local irreducible] pvC pvL pvD sOp seqQ blockQ Meets MeetsB Ok OkL RegOk agree endQ seqL blockL loopQ endL endLB OkD TakesR MeetsD
theorem yia1 {a0:(List Int)} {a1:(List Int)}  {r:Bool} (h:ykn a0 a1=some r):Meets Tryz.prog 32 [.d false [.sl none (a0.map eI)],.d false [.sl none (a1.map eI)]] { vals:=[.p (.bool r)] }:=by
 refine mo Tryz.func32 [dL 0 eI a0,dL 1 eI a1] ?_
 unfold ykn at h
 refine kG [dL 0 eI a0,dL 1 eI a1] [] trivial ?_
 refine yib (kG [dL 0 eI a0,dL 1 eI a1,pB 10 ((a0.length:Int) != (a1.length:Int))] [hN 1 a0,hN 3 a1] (A2 (lF eI a0) (lF eI a1)) ?_)
 refine kI h (fun hc2_0 h=>?_) (fun hc2_0 h=>?_)
 ·refine kG [pB 4 false] [] trivial ?_
  refine yra (q_r ?_)
  obtain rfl:=oi h
  exact er [(.p (.bool false),4)]
 refine yia (q_n (ywb (J:=fun (x:Unit)=>[]) (K:=fun x=>yil x=some r) (fun x2 h=>?_) ?_))
 ·unfold yil at h
  refine kG [pB 4 true] [] trivial ?_
  refine yra ?_
  obtain rfl:=oi h
  exact er [(.p (.bool true),4)]
 refine kG [dL 0 eI a0,dL 1 eI a1,pL 12 a0,pI 13 0] [hN 1 a0] (A1 (lF eI a0)) ?_
 refine yja ?_
 obtain⟨y4,hl_x3,hk_x3⟩:=bs h
 clear h
 refine yfd (J:=fun (x:Int)=>[dL 0 eI a0,dL 1 eI a1,pL 12 a0,pI 13 x]) hl_x3 wkk (fun x3 o_x3 h hy_x3=>?_)
 unfold yyf at h
 refine kG [dL 0 eI a0,dL 1 eI a1,pL 12 a0,pI 13 x3,pB 14 (decide (x3<(a0.length:Int)))] [] trivial ?_
 refine yib (kI h (fun hc5_4 h=>?_) (fun hc5_4 h=>?_))
 ·refine yia (q_n (yib (yja (kG [dL 0 eI a0,dL 1 eI a1,pI 5 x3,pL 12 a0,pI 13 x3] [] trivial ?_))))
  obtain⟨v6,hv6,h⟩:=bs h
  obtain⟨v7,hv7,h⟩:=bs h
  refine ylb (r_dq yfa 8 [] [dL 0 eI a0,dL 1 eI a1,pL 12 a0,pI 13 x3,pB 24 (v6 != v7)] [hR 2 (eI v6),hR 6 (eI v7)] (A4 (yba hv6).1 (yda eI (yba hv6).2) (yba hv7).1 (yda eI (yba hv7).2))) ?_
  refine kI h (fun hc6_7 h=>?_) (fun hc6_7 h=>?_)
  ·refine kG [pB 4 false] [] trivial ?_
   refine yra (b_r (q_r (lq_r ?_)))
   refine b_r (q_r ?_)
   have hyy:=hy_x3 _ (oi h).symm
   subst hyy
   have h:=hk_x3
   dsimp only[Sum.elim] at h
   obtain rfl:=oi h
   exact er [(.p (.bool false),4)]
  refine yia (b_n (q_n (yrc (r_gq [dL 0 eI a0,dL 1 eI a1,pL 12 a0,pI 13 (w64 (x3+1))] [] trivial) ?_)))
  exact lqn (w64 (x3+1)) h
 refine yzc (q_x (lq_x (b_x ?_)))
 have hyy:=hy_x3 _ (oi h).symm
 subst hyy
 have h:=hk_x3
 dsimp only[Sum.elim] at h
 refine q_n ?_
 exact jx () h
theorem yrd {a0:(List (List Int))} {a1:(List (List Int))}  {r:Bool} (h:ytg a0 a1=some r):Meets Tryz.prog 47 [.d false [.sl none (a0.map (eF eI))],.d false [.sl none (a1.map (eF eI))]] { vals:=[.p (.bool r)] }:=by
 refine mo Tryz.func47 [dL 0 (eF eI) a0,dL 1 (eF eI) a1] ?_
 unfold ytg at h
 refine kG [dL 0 (eF eI) a0,dL 1 (eF eI) a1] [] trivial ?_
 refine yib (kG [dL 0 (eF eI) a0,dL 1 (eF eI) a1,pB 10 ((a0.length:Int) != (a1.length:Int))] [hN 1 a0,hN 3 a1] (A2 (lF (eF eI) a0) (lF (eF eI) a1)) ?_)
 refine kI h (fun hc2_0 h=>?_) (fun hc2_0 h=>?_)
 ·refine kG [pB 4 false] [] trivial ?_
  refine yra (q_r ?_)
  obtain rfl:=oi h
  exact er [(.p (.bool false),4)]
 refine yia (q_n (ywb (J:=fun (x:Unit)=>[]) (K:=fun x=>ymj x=some r) (fun x2 h=>?_) ?_))
 ·unfold ymj at h
  refine kG [pB 4 true] [] trivial ?_
  refine yra ?_
  obtain rfl:=oi h
  exact er [(.p (.bool true),4)]
 refine kG [dL 0 (eF eI) a0,dL 1 (eF eI) a1,pL 12 a0,pI 13 0] [hN 1 a0] (A1 (lF (eF eI) a0)) ?_
 refine yja ?_
 obtain⟨y4,hl_x3,hk_x3⟩:=bs h
 clear h
 refine yfd (J:=fun (x:Int)=>[dL 0 (eF eI) a0,dL 1 (eF eI) a1,pL 12 a0,pI 13 x]) hl_x3 wkk (fun x3 o_x3 h hy_x3=>?_)
 unfold yqe at h
 refine kG [dL 0 (eF eI) a0,dL 1 (eF eI) a1,pL 12 a0,pI 13 x3,pB 14 (decide (x3<(a0.length:Int)))] [] trivial ?_
 refine yib (kI h (fun hc5_4 h=>?_) (fun hc5_4 h=>?_))
 ·refine yia (q_n (yib (yja (kG [dL 0 (eF eI) a0,dL 1 (eF eI) a1,pI 5 x3,pL 12 a0,pI 13 x3] [] trivial ?_))))
  obtain⟨v6,hv6,h⟩:=bs h
  obtain⟨v7,hv7,h⟩:=bs h
  obtain⟨v8,hv8,h⟩:=bs h
  refine ylb (r_dq yfa 8 [] [dL 0 (eF eI) a0,dL 1 (eF eI) a1,pL 12 a0,pI 13 x3,pB 25 (!v8)] [hR 2 [.sl none (v6.map eI)],hR 6 [.sl none (v7.map eI)],hC 8 [.p (.bool v8)]] (A5 (yba hv6).1 (yda (eF eI) (yba hv6).2) (yba hv7).1 (yda (eF eI) (yba hv7).2) (yia1 hv8))) ?_
  refine kI h (fun hc6_8 h=>?_) (fun hc6_8 h=>?_)
  ·refine kG [pB 4 false] [] trivial ?_
   refine yra (b_r (q_r (lq_r ?_)))
   refine b_r (q_r ?_)
   have hyy:=hy_x3 _ (oi h).symm
   subst hyy
   have h:=hk_x3
   dsimp only[Sum.elim] at h
   obtain rfl:=oi h
   exact er [(.p (.bool false),4)]
  refine yia (b_n (q_n (yrc (r_gq [dL 0 (eF eI) a0,dL 1 (eF eI) a1,pL 12 a0,pI 13 (w64 (x3+1))] [] trivial) ?_)))
  exact lqn (w64 (x3+1)) h
 refine yzc (q_x (lq_x (b_x ?_)))
 have hyy:=hy_x3 _ (oi h).symm
 subst hyy
 have h:=hk_x3
 dsimp only[Sum.elim] at h
 refine q_n ?_
 exact jx () h
theorem ycs {a0:(List Int)}  {r:(List Qp)} (h:yhe a0=some r):Meets Tryz.prog 48 [.d false [.sl none (a0.map (eU .u8))]] { vals:=[.ov false (oP 85 r)] }:=by
 refine mo Tryz.func48 [dL 0 (eU .u8) a0] ?_
 unfold yhe at h
 refine kG [dL 0 (eU .u8) a0] [] trivial ?_
 refine kG [(3,.addr 6 [(0,0)]),bC 6 (a0,0,0)] [] trivial ?_
 refine yib ?_
 obtain⟨v1,hv1,h⟩:=bs h
 refine kG [(3,.addr 6 [(0,0)]),bC 6 v1.2,pB 8 v1.1] [hF 1 [.p (.bool v1.1)] (.box (eCu v1.2))] (A1 (yad hv1)) ?_
 refine kI h (fun hc2_1 h=>?_) (fun hc2_1 h=>?_)
 ·obtain⟨v3,hv3,h⟩:=bs h
  refine kG [vP 2 85 v3.1] [hF 1 [.ov false (oP 85 v3.1)] (.box (eCu v3.2))] (A1 (yjp hv3)) ?_
  refine yra (q_r ?_)
  obtain rfl:=oi h
  exact er [(.ov false (oP 85 v3.1),2)]
 refine yia (q_n ?_)
 obtain⟨v4,hv4,h⟩:=bs h
 refine kG [vP 2 85 v4.1] [hF 1 [.ov false (oP 85 v4.1)] (.box (eCu v4.2))] (A1 (ykh hv4)) ?_
 refine yra ?_
 obtain rfl:=oi h
 exact er [(.ov false (oP 85 v4.1),2)]
theorem yst {a0:Bool} {a1:Qr} {a2:Qr}  {r:(Qr×Bool)} (h:yzf a0 a1 a2=some r):MeetsB Tryz.prog 136 (.box [.raw (.bool a0)]) [.v (vRt a1),.v (vRt a2)] [.p (vRt r.1)] (.box [.raw (.bool r.2)]):=by
 refine mob Tryz.func136 [bX 0 [.raw (.bool a0)],(1,.p (vRt a1)),(2,.p (vRt a2))] ?_
 unfold yzf at h
 refine kG [bX 0 [.raw (.bool a0)],bR 4 a1,bR 5 a2,bX 6 zR] [] trivial ?_
 refine ywb (J:=fun (x:(Int×Int×Int×Int))=>[bX 0 [.raw (.bool a0)],bX 4 [rI x.1,rI x.2.1],bR 5 x.2.2,bX 6 zR]) (K:=fun x=>ysd a0 x=some r) (fun x1 h=>?_) ?_
 ·unfold ysd at h
  obtain⟨v2,hv2,h⟩:=bs h
  refine kG [bX 0 [.raw (.bool v2.2)],bR 6 v2.1] [hT 3 [.p (vRt v2.1)] (.box [.raw (.bool v2.2)])] (A1 (yuh hv2)) ?_
  refine yra ?_
  obtain rfl:=oi h
  exact ebr [(.p (vRt v2.1),6)]
 obtain⟨v3,hv3,h⟩:=bs h
 refine kG [bX 0 [.raw (.bool a0)],bR 4 a1,bR 5 a2,bX 6 zR,pB 9 v3] [hC 2 [.p (.bool v3)]] (A1 (ypg hv3)) ?_
 refine kI h (fun hc2_3 h=>?_) (fun hc2_3 h=>?_)
 ·refine yrc (r_gq [bX 0 [.raw (.bool a0)],bR 4 a2,bR 5 a1,bX 6 zR] [] trivial) ?_
  refine q_n ?_
  exact jx (a2.1,a2.2,a1.1,a1.2) h
 refine yia (q_n ?_)
 exact jx (a1.1,a1.2,a2.1,a2.2) h
theorem ywr {a0:(List Qr)}  {r:(Qr×Bool)} (h:yri a0=some r):Meets Tryz.prog 87 [.d false [.sl none (a0.map eRt)]] { vals:=[.p (vRt r.1),.p (.bool r.2)] }:=by
 refine mo Tryz.func87 [dL 0 eRt a0] ?_
 unfold yri at h
 refine kG [dL 0 eRt a0,bX 2 zR] [] trivial ?_
 refine kG [dL 0 eRt a0,bX 2 zR,bX 4 [.raw (.bool false)]] [] trivial ?_
 obtain⟨v1,hv1,h⟩:=bs h
 refine kG [dL 0 eRt a0,bX 2 zR,bX 4 [.raw (.bool false)],bR 5 v1] [hC 0 [.p (vRt v1)]] (A1 (ybe hv1)) ?_
 refine ywb (J:=fun (x:(Bool×Int×Int))=>[bX 2 zR,bX 4 [.raw (.bool x.1)],bR 5 x.2]) (K:=fun x=>ych x=some r) (fun x2 h=>?_) ?_
 ·unfold ych at h
  refine yib (kG [bX 2 zR,bR 5 x2.2,pB 27 x2.1] [] trivial ?_)
  refine kI h (fun hc2_2 h=>?_) (fun hc2_2 h=>?_)
  ·refine kG [bX 2 zR,pB 3 false] [] trivial ?_
   refine yra (q_r ?_)
   obtain rfl:=oi h
   exact er [(.p (.agg #[.int .i64 0,.int .i64 0]),2),(.p (.bool false),3)]
  refine yia (q_n (kG [bR 2 x2.2,pB 3 true] [] trivial ?_))
  refine yra ?_
  obtain rfl:=oi h
  exact er [(.p (vRt x2.2),2),(.p (.bool true),3)]
 refine kG [dL 0 eRt a0,bX 2 zR,bX 4 [.raw (.bool false)],bR 5 v1,pI 6 1] [] trivial ?_
 refine yja ?_
 obtain⟨y5,hl_x4,hk_x4⟩:=bs h
 clear h
 refine yfd (J:=fun (x:(Bool×Int×Int×Int))=>[dL 0 eRt a0,bX 2 zR,bX 4 [.raw (.bool x.1)],bX 5 [rI x.2.1,rI x.2.2.1],pI 6 x.2.2.2]) hl_x4 wkk (fun x4 o_x4 h hy_x4=>?_)
 unfold ydh at h
 refine yib (kG [dL 0 eRt a0,bX 2 zR,bX 4 [.raw (.bool x4.1)],bX 5 [rI x4.2.1,rI x4.2.2.1],pI 6 x4.2.2.2,pB 11 (decide (x4.2.2.2<(a0.length:Int)))] [hN 2 a0] (A1 (lF eRt a0)) ?_)
 refine kI h (fun hc5_5 h=>?_) (fun hc5_5 h=>?_)
 ·refine yia (q_n (yib (yja ?_)))
  obtain⟨v7,hv7,h⟩:=bs h
  obtain⟨v8,hv8,h⟩:=bs h
  obtain⟨v9,hv9,h⟩:=bs h
  obtain⟨v10,hv10,h⟩:=bs h
  refine yrc (r_dq yfa 11 [(10,4)] [dL 0 eRt a0,bX 2 zR,bX 4 [.raw (.bool v10.2)],bR 5 v10.1,pI 6 x4.2.2.2] [hR 4 (eRt v7),hR 8 (eRt v8),hT 10 [.p (vRt v9.1)] (.box [.raw (.bool v9.2)]),hT 11 [.p (vRt v10.1)] (.box [.raw (.bool v10.2)])] (A6 (yba hv7).1 (yda eRt (yba hv7).2) (yba hv8).1 (yda eRt (yba hv8).2) (yst hv9) (ymo hv10))) ?_
  refine b_n (q_n (yrc (r_gq [dL 0 eRt a0,bX 2 zR,bX 4 [.raw (.bool v10.2)],bR 5 v10.1,pI 6 (w64 (x4.2.2.2+1))] [] trivial) ?_))
  exact lqn (v10.2,v10.1.1,v10.1.2,(w64 (x4.2.2.2+1))) h
 refine yzc (q_x (lq_x (b_x ?_)))
 have hyy:=hy_x4 _ (oi h).symm
 subst hyy
 have h:=hk_x4
 refine q_n ?_
 exact jx (x4.1,x4.2.1,x4.2.2.1) h
theorem yrv {a0:(List Qp)}  {r:(Qr×Bool)} (h:yag a0=some r):Meets Tryz.prog 49 [.d false (sP a0)] { vals:=[.p (vRt r.1),.p (.bool r.2)] }:=by
 refine mo Tryz.func49 [dP 0 a0] ?_
 unfold yag at h
 refine kG [dP 0 a0,bX 2 zR] [] trivial ?_
 refine yib ?_
 obtain⟨v1,hv1,h⟩:=bs h
 refine kG [dP 0 a0,bX 2 zR,pB 9 (!v1)] [hC 1 [.p (.bool v1)]] (A1 (yve hv1)) ?_
 refine kI h (fun hc2_1 h=>?_) (fun hc2_1 h=>?_)
 ·refine kG [bX 2 zR,pB 3 false] [] trivial ?_
  refine yra (q_r ?_)
  obtain rfl:=oi h
  exact er [(.p (.agg #[.int .i64 0,.int .i64 0]),2),(.p (.bool false),3)]
 refine yia (q_n (kG [dP 0 a0,bX 2 zR,vN 4 27] [] trivial ?_))
 refine ywb (J:=fun (x:(List Qr))=>[bX 2 zR,vL 4 27 eRt x]) (K:=fun x=>yoh x=some r) (fun x3 h=>?_) ?_
 ·unfold yoh at h
  obtain⟨v4,hv4,h⟩:=bs h
  refine kG [bR 2 v4.1,pB 3 v4.2] [(1,(cS [.d false [.sl none (x3.map eRt)]] [.p (vRt v4.1),.p (.bool v4.2)]))] (A2 (show([.d false [.sl none (eraL (x3.map eRt))]]:List Arg)=[.d false [.sl none (x3.map eRt)]] from(by simp only[ywa (h:=eRt) (yyx er_I er_I)])) (ywr hv4)) ?_
  refine yra ?_
  obtain rfl:=oi h
  exact er [(.p (vRt v4.1),2),(.p (.bool v4.2),3)]
 refine kG [bX 2 zR,vN 4 27,dP 11 a0,pL 12 a0,pI 13 0] [hN 1 a0] (A1 (lnP a0)) ?_
 refine yja ?_
 obtain⟨y6,hl_x5,hk_x5⟩:=bs h
 clear h
 refine yfd (J:=fun (x:((List Qr)×Int))=>[bX 2 zR,vL 4 27 eRt x.1,dP 11 a0,pL 12 a0,pI 13 x.2]) hl_x5 wkk (fun x5 o_x5 h hy_x5=>?_)
 unfold ypd at h
 refine kG [bX 2 zR,vL 4 27 eRt x5.1,dP 11 a0,pL 12 a0,pI 13 x5.2,pB 14 (decide (x5.2<(a0.length:Int)))] [] trivial ?_
 refine yib (kI h (fun hc5_6 h=>?_) (fun hc5_6 h=>?_))
 ·refine yia (q_n (yib (yja ?_)))
  obtain⟨v8,hv8,h⟩:=bs h
  refine kG [bX 2 zR,vL 4 27 eRt x5.1,bP 6 v8,dP 11 a0,pL 12 a0,pI 13 x5.2] [hR 0 (ePt v8)] (A2 (yba hv8).1 (yda ePt (yba hv8).2)) ?_
  obtain⟨u9,hu9,h⟩:=bs h
  refine yrc (r_gq [bX 2 zR,vL 4 27 eRt (x5.1++[v8.2]),dP 11 a0,pL 12 a0,pI 13 x5.2] [(4,{fix:=some (vL 21 27 eRt (x5.1++[v8.2]))})] (A3 (lG' eRt hu9) (show ∀ row∈((([v8.2]).map eRt):List (List C)),row.length=2 from(ynb fun _=>rfl)) (aP' 27 eRt x5.1 ([v8.2])))) ?_
  refine b_n (q_n (yrc (r_gq [bX 2 zR,vL 4 27 eRt (x5.1++[v8.2]),dP 11 a0,pL 12 a0,pI 13 (w64 (x5.2+1))] [] trivial) ?_))
  exact lqn ((x5.1++[v8.2]),(w64 (x5.2+1))) h
 refine yzc (q_x (lq_x (b_x ?_)))
 have hyy:=hy_x5 _ (oi h).symm
 subst hyy
 have h:=hk_x5
 refine q_n ?_
 exact jx x5.1 h
theorem yay {a0:(List Qr)}  {r:(Qr×Bool)} (h:yvq a0=some r):Meets Tryz.prog 88 [.d false [.sl none (a0.map eRt)]] { vals:=[.p (vRt r.1),.p (.bool r.2)] }:=by
 refine mo Tryz.func88 [dL 0 eRt a0] ?_
 unfold yvq at h
 refine kG [dL 0 eRt a0,bX 2 zR] [] trivial ?_
 obtain⟨v1,hv1,h⟩:=bs h
 refine kG [dL 0 eRt a0,bX 2 zR,bR 4 v1] [hC 0 [.p (vRt v1)]] (A1 (yla hv1)) ?_
 refine ywb (J:=fun (x:Qr)=>[bX 2 zR,bR 4 x]) (K:=fun x=>yws x=some r) (fun x2 h=>?_) ?_
 ·unfold yws at h
  refine kG [bR 2 x2,pB 3 true] [] trivial ?_
  refine yra ?_
  obtain rfl:=oi h
  exact er [(.p (vRt x2),2),(.p (.bool true),3)]
 refine kG [dL 0 eRt a0,bX 2 zR,bR 4 v1,pI 5 1] [] trivial ?_
 refine yja ?_
 obtain⟨y4,hl_x3,hk_x3⟩:=bs h
 clear h
 refine yfd (J:=fun (x:(Int×Int×Int))=>[dL 0 eRt a0,bX 2 zR,bX 4 [rI x.1,rI x.2.1],pI 5 x.2.2]) hl_x3 wkk (fun x3 o_x3 h hy_x3=>?_)
 unfold yln at h
 refine yib (kG [dL 0 eRt a0,bX 2 zR,bX 4 [rI x3.1,rI x3.2.1],pI 5 x3.2.2,pB 14 (decide (x3.2.2<(a0.length:Int)))] [hN 2 a0] (A1 (lF eRt a0)) ?_)
 refine kI h (fun hc5_4 h=>?_) (fun hc5_4 h=>?_)
 ·refine yia (q_n (yib (yja ?_)))
  obtain⟨v6,hv6,h⟩:=bs h
  obtain⟨v7,hv7,h⟩:=bs h
  obtain⟨v8,hv8,h⟩:=bs h
  refine ylb (r_dq yfa 15 [(14,6)] [dL 0 eRt a0,bX 2 zR,bX 4 [rI x3.1,rI x3.2.1],pI 5 x3.2.2,bR 6 v8.1,pB 7 v8.2] [hR 2 (eRt v6),hR 7 (eRt v7),hC 9 [.p (vRt v8.1),.p (.bool v8.2)]] (A5 (yba hv6).1 (yda eRt (yba hv6).2) (yba hv7).1 (yda eRt (yba hv7).2) (yym hv8))) ?_
  refine yib (kG [dL 0 eRt a0,bX 2 zR,bX 4 [rI x3.1,rI x3.2.1],pI 5 x3.2.2,bR 6 v8.1,pB 31 (!v8.2)] [] trivial ?_)
  refine kI h (fun hc7_8 h=>?_) (fun hc7_8 h=>?_)
  ·refine kG [bX 2 zR,pB 3 false] [] trivial ?_
   refine yra (q_r (b_r (q_r (lq_r ?_))))
   refine b_r (q_r ?_)
   have hyy:=hy_x3 _ (oi h).symm
   subst hyy
   have h:=hk_x3
   dsimp only[Sum.elim] at h
   obtain rfl:=oi h
   exact er [(.p (.agg #[.int .i64 0,.int .i64 0]),2),(.p (.bool false),3)]
  refine yia (q_n ?_)
  obtain⟨v10,hv10,h⟩:=bs h
  refine kG [dL 0 eRt a0,bX 2 zR,bX 4 [rI x3.1,rI x3.2.1],pI 5 x3.2.2,bX 6 [rI v10,rI v8.1.2]] [hC 2 [.p (iV v10)]] (A1 (yip hv10)) ?_
  obtain⟨v11,hv11,h⟩:=bs h
  refine kG [dL 0 eRt a0,bX 2 zR,bX 4 [rI x3.1,rI x3.2.1],pI 5 x3.2.2,bR 8 v11.1,pB 9 v11.2] [hC 2 [.p (vRt v11.1),.p (.bool v11.2)]] (A1 (yms hv11)) ?_
  refine yib (kG [dL 0 eRt a0,bX 2 zR,bX 4 [rI x3.1,rI x3.2.1],pI 5 x3.2.2,bR 8 v11.1,pB 44 (!v11.2)] [] trivial ?_)
  refine kI h (fun hc7_11 h=>?_) (fun hc7_11 h=>?_)
  ·refine kG [bX 2 zR,pB 3 false] [] trivial ?_
   refine yra (q_r (b_r (q_r (lq_r ?_))))
   refine b_r (q_r ?_)
   have hyy:=hy_x3 _ (oi h).symm
   subst hyy
   have h:=hk_x3
   dsimp only[Sum.elim] at h
   obtain rfl:=oi h
   exact er [(.p (.agg #[.int .i64 0,.int .i64 0]),2),(.p (.bool false),3)]
  refine yia (q_n (yrc (r_gq [dL 0 eRt a0,bX 2 zR,bR 4 v11.1,pI 5 x3.2.2] [] trivial) ?_))
  refine b_n (q_n (yrc (r_gq [dL 0 eRt a0,bX 2 zR,bR 4 v11.1,pI 5 (w64 (x3.2.2+1))] [] trivial) ?_))
  exact lqn (v11.1.1,v11.1.2,(w64 (x3.2.2+1))) h
 refine yzc (q_x (lq_x (b_x ?_)))
 have hyy:=hy_x3 _ (oi h).symm
 subst hyy
 have h:=hk_x3
 dsimp only[Sum.elim] at h
 refine q_n ?_
 exact jx (x3.1,x3.2.1) h
theorem ysv {a0:(List Qp)}  {r:(Qr×Bool)} (h:yfc a0=some r):Meets Tryz.prog 50 [.d false (sP a0)] { vals:=[.p (vRt r.1),.p (.bool r.2)] }:=by
 refine mo Tryz.func50 [dP 0 a0] ?_
 unfold yfc at h
 refine kG [dP 0 a0,bX 2 zR] [] trivial ?_
 refine yib ?_
 obtain⟨v1,hv1,h⟩:=bs h
 refine kG [dP 0 a0,bX 2 zR,pB 9 (!v1)] [hC 1 [.p (.bool v1)]] (A1 (ygc hv1)) ?_
 refine kI h (fun hc2_1 h=>?_) (fun hc2_1 h=>?_)
 ·refine kG [bX 2 zR,pB 3 false] [] trivial ?_
  refine yra (q_r ?_)
  obtain rfl:=oi h
  exact er [(.p (.agg #[.int .i64 0,.int .i64 0]),2),(.p (.bool false),3)]
 refine yia (q_n (kG [dP 0 a0,bX 2 zR,vN 4 27] [] trivial ?_))
 refine ywb (J:=fun (x:(List Qr))=>[bX 2 zR,vL 4 27 eRt x]) (K:=fun x=>ycf x=some r) (fun x3 h=>?_) ?_
 ·unfold ycf at h
  obtain⟨v4,hv4,h⟩:=bs h
  refine kG [bR 2 v4.1,pB 3 v4.2] [(1,(cS [.d false [.sl none (x3.map eRt)]] [.p (vRt v4.1),.p (.bool v4.2)]))] (A2 (show([.d false [.sl none (eraL (x3.map eRt))]]:List Arg)=[.d false [.sl none (x3.map eRt)]] from(by simp only[ywa (h:=eRt) (yyx er_I er_I)])) (yay hv4)) ?_
  refine yra ?_
  obtain rfl:=oi h
  exact er [(.p (vRt v4.1),2),(.p (.bool v4.2),3)]
 refine kG [bX 2 zR,vN 4 27,dP 11 a0,pL 12 a0,pI 13 0] [hN 1 a0] (A1 (lnP a0)) ?_
 refine yja ?_
 obtain⟨y6,hl_x5,hk_x5⟩:=bs h
 clear h
 refine yfd (J:=fun (x:((List Qr)×Int))=>[bX 2 zR,vL 4 27 eRt x.1,dP 11 a0,pL 12 a0,pI 13 x.2]) hl_x5 wkk (fun x5 o_x5 h hy_x5=>?_)
 unfold yjl at h
 refine kG [bX 2 zR,vL 4 27 eRt x5.1,dP 11 a0,pL 12 a0,pI 13 x5.2,pB 14 (decide (x5.2<(a0.length:Int)))] [] trivial ?_
 refine yib (kI h (fun hc5_6 h=>?_) (fun hc5_6 h=>?_))
 ·refine yia (q_n (yib (yja ?_)))
  obtain⟨v8,hv8,h⟩:=bs h
  refine kG [bX 2 zR,vL 4 27 eRt x5.1,bP 6 v8,dP 11 a0,pL 12 a0,pI 13 x5.2] [hR 0 (ePt v8)] (A2 (yba hv8).1 (yda ePt (yba hv8).2)) ?_
  obtain⟨u9,hu9,h⟩:=bs h
  refine yrc (r_gq [bX 2 zR,vL 4 27 eRt (x5.1++[v8.2]),dP 11 a0,pL 12 a0,pI 13 x5.2] [(4,{fix:=some (vL 21 27 eRt (x5.1++[v8.2]))})] (A3 (lG' eRt hu9) (show ∀ row∈((([v8.2]).map eRt):List (List C)),row.length=2 from(ynb fun _=>rfl)) (aP' 27 eRt x5.1 ([v8.2])))) ?_
  refine b_n (q_n (yrc (r_gq [bX 2 zR,vL 4 27 eRt (x5.1++[v8.2]),dP 11 a0,pL 12 a0,pI 13 (w64 (x5.2+1))] [] trivial) ?_))
  exact lqn ((x5.1++[v8.2]),(w64 (x5.2+1))) h
 refine yzc (q_x (lq_x (b_x ?_)))
 have hyy:=hy_x5 _ (oi h).symm
 subst hyy
 have h:=hk_x5
 refine q_n ?_
 exact jx x5.1 h
theorem yja1 {a0:(List Qp)}  {r:(Int×Bool)} (h:yqk a0=some r):Meets Tryz.prog 51 [.d false (sP a0)] { vals:=[.p (iV r.1),.p (.bool r.2)] }:=by
 refine mo Tryz.func51 [dP 0 a0] ?_
 unfold yqk at h
 refine kG [dP 0 a0] [] trivial ?_
 refine yib ?_
 obtain⟨v1,hv1,h⟩:=bs h
 refine kG [dP 0 a0,pB 11 (!v1)] [hC 1 [.p (.bool v1)]] (A1 (yve hv1)) ?_
 refine kI h (fun hc2_1 h=>?_) (fun hc2_1 h=>?_)
 ·refine kG [pI 2 0,pB 3 false] [] trivial ?_
  refine yra (q_r ?_)
  obtain rfl:=oi h
  exact er [(.p (iV 0),2),(.p (.bool false),3)]
 refine yia (q_n (kG [dP 0 a0,pI 4 0] [] trivial ?_))
 refine ywb (J:=fun (x:Int)=>[pI 4 x]) (K:=fun x=>yxo x=some r) (fun x3 h=>?_) ?_
 ·unfold yxo at h
  refine kG [pI 2 x3,pB 3 true] [] trivial ?_
  refine yra ?_
  obtain rfl:=oi h
  exact er [(.p (iV x3),2),(.p (.bool true),3)]
 obtain⟨v4,hv4,h⟩:=bs h
 refine kG [dP 0 a0,pI 4 0,vL 13 50 (eO 3 eI) v4,pL 14 v4,pI 15 0] [hC 1 [rO 50 (eO 3 eI) v4],hN 2 v4] (A3 (yer hv4) (show List.all [rO 50 (eO 3 eI) v4] simpleR=true from(sa_o (wnR1 (ysc (wn_O wn_I)) rfl) rfl)) (lF (eO 3 eI) v4)) ?_
 refine yja ?_
 obtain⟨y6,hl_x5,hk_x5⟩:=bs h
 clear h
 refine yfd (J:=fun (x:Qr)=>[dP 0 a0,pI 4 x.1,vL 13 50 (eO 3 eI) v4,pL 14 v4,pI 15 x.2]) hl_x5 wkk (fun x5 o_x5 h hy_x5=>?_)
 unfold ybg at h
 refine kG [dP 0 a0,pI 4 x5.1,vL 13 50 (eO 3 eI) v4,pL 14 v4,pI 15 x5.2,pB 16 (decide (x5.2<(v4.length:Int)))] [] trivial ?_
 refine yib (kI h (fun hc5_6 h=>?_) (fun hc5_6 h=>?_))
 ·refine yia (q_n (yib (yja ?_)))
  obtain⟨v8,hv8,h⟩:=bs h
  refine kG [dP 0 a0,pI 4 x5.1,(6,.ref 13 [(0,0),((Int.toNat x5.2),0)] none),vL 13 50 (eO 3 eI) v4,pL 14 v4,pI 15 x5.2] [hR 0 [.sl (some 3) (v8.map eI)],hR 1 [.sl (some 3) (v8.map eI)]] (A4 (yba hv8).1 (yda (eO 3 eI) (yba hv8).2) (show frR [.sl (some 3) (v8.map eI)]=false from rfl) (gW 50 (eO 3 eI) hv8)) ?_
  obtain⟨v9,hv9,h⟩:=bs h
  obtain⟨v10,hv10,h⟩:=bs h
  obtain⟨v11,hv11,h⟩:=bs h
  obtain⟨v12,hv12,h⟩:=bs h
  refine ylb (r_dq yfa 17 [(16,7)] [dP 0 a0,pI 4 x5.1,bR 7 v10.2,bR 8 v12.2,vL 13 50 (eO 3 eI) v4,pL 14 v4,pI 15 x5.2] [(2,{deep:=some [.sl (some 3) (v8.map eI)],row:=some (eI v9)}),hR 3 (eI v9),hR 4 (ePt v10),(9,{deep:=some [.sl (some 3) (v8.map eI)],row:=some (eI v11)}),hR 10 (eI v11),hR 11 (ePt v12)] (B6 (yba hv9).1 (yda eI (yba hv9).2) (gW 50 (eO 3 eI) hv8) (show getRow [[.sl (some 50) (v4.map (eO 3 eI))]] [(0,0),((Int.toNat x5.2),0),((Int.toNat 0),0)]=some (eI v9) from((gr0 rfl).trans ((grs (yda (eO 3 eI) (yba hv8).2) rfl).trans (gre (yda eI (yba hv9).2))))) (yba hv10).1 (yda ePt (yba hv10).2) (A6 (yba hv11).1 (yda eI (yba hv11).2) (gW 50 (eO 3 eI) hv8) (show getRow [[.sl (some 50) (v4.map (eO 3 eI))]] [(0,0),((Int.toNat x5.2),0),((Int.toNat 1),0)]=some (eI v11) from((gr0 rfl).trans ((grs (yda (eO 3 eI) (yba hv8).2) rfl).trans (gre (yda eI (yba hv11).2))))) (yba hv12).1 (yda ePt (yba hv12).2)))) ?_
  obtain⟨v13,hv13,h⟩:=bs h
  obtain⟨v14,hv14,h⟩:=bs h
  obtain⟨w17,hw17,h⟩:=bs h
  refine ylb (l1:=[dP 0 a0,pI 4 x5.1,vL 13 50 (eO 3 eI) v4,pL 14 v4,pI 15 x5.2,pB 44 w17]) ?_ ?_
  ·clear h
   rcases ft ((v13.1==v14.1)&&(v13.2==v14.2)) with ha2 | ha2
   ·obtain⟨v15,hv15,hw17⟩:=bs (yon ha2 hw17)
    obtain⟨v16,hv16,hw17⟩:=bs hw17
    have hw17:=oi hw17
    subst hw17
    exact(r_gq [dP 0 a0,pI 4 x5.1,vL 13 50 (eO 3 eI) v4,pL 14 v4,pI 15 x5.2,pB 44 ((v15.1==v16.1)&&(v15.2==v16.2))] [hC 2 [.p (vRt v13)],hC 3 [.p (vRt v14)],(4,{pv:=some (.bool ((v13.1==v14.1)&&(v13.2==v14.2)))}),(6,gT),(7,gT),(8,{g:=some true,call:=some (none,[.p (vRt v15)],true)}),(9,{g:=some true,call:=some (none,[.p (vRt v16)],true)}),(10,{g:=some true,pv:=some (.bool ((v15.1==v16.1)&&(v15.2==v16.2)))}),(11,bT)] (B6 (yfr hv13) (ybe hv14) (show PureAt Tryz.prog (.binOp .eql 27 (.tmp 35) (.tmp 36) 27) [vRt v13,vRt v14] (.bool ((v13.1==v14.1)&&(v13.2==v14.2))) from(yxb (by kernel_rfl))) ha2 ha2 ha2 (A6 (ywt hv15) ha2 (yki hv16) ha2 (show PureAt Tryz.prog (.binOp .eql 27 (.tmp 41) (.tmp 42) 27) [vRt v15,vRt v16] (.bool ((v15.1==v16.1)&&(v15.2==v16.2))) from(yxb (by kernel_rfl))) ha2)))
   replace hw17:=ypn ha2 hw17
   have hw17:=oi hw17
   subst hw17
   exact(r_gq [dP 0 a0,pI 4 x5.1,vL 13 50 (eO 3 eI) v4,pL 14 v4,pI 15 x5.2,pB 44 false] [hC 2 [.p (vRt v13)],hC 3 [.p (vRt v14)],(4,{pv:=some (.bool ((v13.1==v14.1)&&(v13.2==v14.2)))}),(6,gF),(7,gF),(8,gF),(9,gF),(10,gF),(11,bF)] (B6 (yfr hv13) (ybe hv14) (show PureAt Tryz.prog (.binOp .eql 27 (.tmp 35) (.tmp 36) 27) [vRt v13,vRt v14] (.bool ((v13.1==v14.1)&&(v13.2==v14.2))) from(yxb (by kernel_rfl))) ha2 ha2 ha2 (A3 ha2 ha2 ha2)))
  refine kI h (fun hc6_17 h=>?_) (fun hc6_17 h=>?_)
  ·refine yrc (r_gq [dP 0 a0,pI 4 (w64 (x5.1+1)),vL 13 50 (eO 3 eI) v4,pL 14 v4,pI 15 x5.2] [] trivial) ?_
   refine b_n (q_n (yrc (r_gq [dP 0 a0,pI 4 (w64 (x5.1+1)),vL 13 50 (eO 3 eI) v4,pL 14 v4,pI 15 (w64 (x5.2+1))] [] trivial) ?_))
   exact lqn ((w64 (x5.1+1)),(w64 (x5.2+1))) h
  refine yia (b_n (q_n (yrc (r_gq [dP 0 a0,pI 4 x5.1,vL 13 50 (eO 3 eI) v4,pL 14 v4,pI 15 (w64 (x5.2+1))] [] trivial) ?_)))
  exact lqn (x5.1,(w64 (x5.2+1))) h
 refine yzc (q_x (lq_x (b_x ?_)))
 have hyy:=hy_x5 _ (oi h).symm
 subst hyy
 have h:=hk_x5
 refine q_n ?_
 exact jx x5.1 h
theorem yka1 {a0:(List Qp)}  {r:(Int×Bool)} (h:ydf a0=some r):Meets Tryz.prog 52 [.d false (sP a0)] { vals:=[.p (iV r.1),.p (.bool r.2)] }:=by
 refine mo Tryz.func52 [dP 0 a0] ?_
 unfold ydf at h
 refine kG [dP 0 a0] [] trivial ?_
 refine yib ?_
 obtain⟨v1,hv1,h⟩:=bs h
 refine kG [dP 0 a0,pB 11 (!v1)] [hC 1 [.p (.bool v1)]] (A1 (ygc hv1)) ?_
 refine kI h (fun hc2_1 h=>?_) (fun hc2_1 h=>?_)
 ·refine kG [pI 2 0,pB 3 false] [] trivial ?_
  refine yra (q_r ?_)
  obtain rfl:=oi h
  exact er [(.p (iV 0),2),(.p (.bool false),3)]
 refine yia (q_n (kG [dP 0 a0,pI 4 0] [] trivial ?_))
 refine ywb (J:=fun (x:Int)=>[pI 4 x]) (K:=fun x=>ywo x=some r) (fun x3 h=>?_) ?_
 ·unfold ywo at h
  refine kG [pI 2 x3,pB 3 true] [] trivial ?_
  refine yra ?_
  obtain rfl:=oi h
  exact er [(.p (iV x3),2),(.p (.bool true),3)]
 obtain⟨v4,hv4,h⟩:=bs h
 refine kG [dP 0 a0,pI 4 0,vL 13 50 (eO 3 eI) v4,pL 14 v4,pI 15 0] [hC 1 [rO 50 (eO 3 eI) v4],hN 2 v4] (A3 (yun hv4) (show List.all [rO 50 (eO 3 eI) v4] simpleR=true from(sa_o (wnR1 (ysc (wn_O wn_I)) rfl) rfl)) (lF (eO 3 eI) v4)) ?_
 refine yja ?_
 obtain⟨y6,hl_x5,hk_x5⟩:=bs h
 clear h
 refine yfd (J:=fun (x:Qr)=>[dP 0 a0,pI 4 x.1,vL 13 50 (eO 3 eI) v4,pL 14 v4,pI 15 x.2]) hl_x5 wkk (fun x5 o_x5 h hy_x5=>?_)
 unfold ynd at h
 refine kG [dP 0 a0,pI 4 x5.1,vL 13 50 (eO 3 eI) v4,pL 14 v4,pI 15 x5.2,pB 16 (decide (x5.2<(v4.length:Int)))] [] trivial ?_
 refine yib (kI h (fun hc5_6 h=>?_) (fun hc5_6 h=>?_))
 ·refine yia (q_n (yib (yja ?_)))
  obtain⟨v8,hv8,h⟩:=bs h
  refine kG [dP 0 a0,pI 4 x5.1,(6,.ref 13 [(0,0),((Int.toNat x5.2),0)] none),vL 13 50 (eO 3 eI) v4,pL 14 v4,pI 15 x5.2] [hR 0 [.sl (some 3) (v8.map eI)],hR 1 [.sl (some 3) (v8.map eI)]] (A4 (yba hv8).1 (yda (eO 3 eI) (yba hv8).2) (show frR [.sl (some 3) (v8.map eI)]=false from rfl) (gW 50 (eO 3 eI) hv8)) ?_
  obtain⟨v9,hv9,h⟩:=bs h
  obtain⟨v10,hv10,h⟩:=bs h
  obtain⟨v11,hv11,h⟩:=bs h
  obtain⟨v12,hv12,h⟩:=bs h
  refine ylb (r_dq yfa 17 [(16,7)] [dP 0 a0,pI 4 x5.1,bR 7 v10.2,bR 8 v12.2,vL 13 50 (eO 3 eI) v4,pL 14 v4,pI 15 x5.2] [(2,{deep:=some [.sl (some 3) (v8.map eI)],row:=some (eI v9)}),hR 3 (eI v9),hR 4 (ePt v10),(9,{deep:=some [.sl (some 3) (v8.map eI)],row:=some (eI v11)}),hR 10 (eI v11),hR 11 (ePt v12)] (B6 (yba hv9).1 (yda eI (yba hv9).2) (gW 50 (eO 3 eI) hv8) (show getRow [[.sl (some 50) (v4.map (eO 3 eI))]] [(0,0),((Int.toNat x5.2),0),((Int.toNat 0),0)]=some (eI v9) from((gr0 rfl).trans ((grs (yda (eO 3 eI) (yba hv8).2) rfl).trans (gre (yda eI (yba hv9).2))))) (yba hv10).1 (yda ePt (yba hv10).2) (A6 (yba hv11).1 (yda eI (yba hv11).2) (gW 50 (eO 3 eI) hv8) (show getRow [[.sl (some 50) (v4.map (eO 3 eI))]] [(0,0),((Int.toNat x5.2),0),((Int.toNat 1),0)]=some (eI v11) from((gr0 rfl).trans ((grs (yda (eO 3 eI) (yba hv8).2) rfl).trans (gre (yda eI (yba hv11).2))))) (yba hv12).1 (yda ePt (yba hv12).2)))) ?_
  obtain⟨v13,hv13,h⟩:=bs h
  obtain⟨w17,hw17,h⟩:=bs h
  refine ylb (l1:=[dP 0 a0,pI 4 x5.1,vL 13 50 (eO 3 eI) v4,pL 14 v4,pI 15 x5.2,pB 50 w17]) ?_ ?_
  ·clear h
   rcases ft ((v10.2.1==v13.1)&&(v10.2.2==v13.2)) with ha2 | ha2
   ·obtain⟨v14,hv14,hw17⟩:=bs (yon ha2 hw17)
    rcases ft ((v12.2.1==v14.1)&&(v12.2.2==v14.2)) with ha3 | ha3
    ·replace hw17:=yon ha3 hw17
     have hw17:=oi hw17
     subst hw17
     exact(r_dq yfa 15 [] [dP 0 a0,pI 4 x5.1,vL 13 50 (eO 3 eI) v4,pL 14 v4,pI 15 x5.2,pB 50 true] [hC 1 [.p (vRt v13)],(2,{pv:=some (.bool ((v10.2.1==v13.1)&&(v10.2.2==v13.2)))}),(4,gT),(5,{g:=some true,call:=some (none,[.p (vRt v14)],true)}),(6,{g:=some true,pv:=some (.bool ((v12.2.1==v14.1)&&(v12.2.2==v14.2)))}),(7,bT),(9,gT),(10,gT),(11,gT),(12,gT),(16,gT),(17,bT)] (B6 (yla hv13) (show PureAt Tryz.prog (.binOp .eql 27 (.tmp 33) (.tmp 34) 27) [vRt v10.2,vRt v13] (.bool ((v10.2.1==v13.1)&&(v10.2.2==v13.2))) from(yxb (by kernel_rfl))) ha2 ha2 (yla hv14) ha2 (B6 (show PureAt Tryz.prog (.binOp .eql 27 (.tmp 37) (.tmp 38) 27) [vRt v12.2,vRt v14] (.bool ((v12.2.1==v14.1)&&(v12.2.2==v14.2))) from(yxb (by kernel_rfl))) ha2 ha3 ha3 ha3 ha3 (A2 ha3 ha3))))
    obtain⟨v15,hv15,hw17⟩:=bs (ypn ha3 hw17)
    rcases ft ((v10.2.1==v15.1)&&(v10.2.2==v15.2)) with ha4 | ha4
    ·obtain⟨v16,hv16,hw17⟩:=bs (yon ha4 hw17)
     have hw17:=oi hw17
     subst hw17
     exact(r_dq yfa 15 [] [dP 0 a0,pI 4 x5.1,vL 13 50 (eO 3 eI) v4,pL 14 v4,pI 15 x5.2,pB 50 ((v12.2.1==v16.1)&&(v12.2.2==v16.2))] [hC 1 [.p (vRt v13)],(2,{pv:=some (.bool ((v10.2.1==v13.1)&&(v10.2.2==v13.2)))}),(4,gT),(5,{g:=some true,call:=some (none,[.p (vRt v14)],true)}),(6,{g:=some true,pv:=some (.bool ((v12.2.1==v14.1)&&(v12.2.2==v14.2)))}),(7,bT),(9,gF),(10,(gN [.p (vRt v15)])),(11,(hB ((v10.2.1==v15.1)&&(v10.2.2==v15.2)))),(12,gF),(13,gT),(14,{g:=some true,call:=some (none,[.p (vRt v16)],true)}),(15,{g:=some true,pv:=some (.bool ((v12.2.1==v16.1)&&(v12.2.2==v16.2)))}),(16,gFbT),(17,bF)] (B6 (yla hv13) (show PureAt Tryz.prog (.binOp .eql 27 (.tmp 33) (.tmp 34) 27) [vRt v10.2,vRt v13] (.bool ((v10.2.1==v13.1)&&(v10.2.2==v13.2))) from(yxb (by kernel_rfl))) ha2 ha2 (yla hv14) ha2 (B6 (show PureAt Tryz.prog (.binOp .eql 27 (.tmp 37) (.tmp 38) 27) [vRt v12.2,vRt v14] (.bool ((v12.2.1==v14.1)&&(v12.2.2==v14.2))) from(yxb (by kernel_rfl))) ha2 ha3 ha3 (yla hv15) ha3 (B6 (show PureAt Tryz.prog (.binOp .eql 27 (.tmp 42) (.tmp 43) 27) [vRt v10.2,vRt v15] (.bool ((v10.2.1==v15.1)&&(v10.2.2==v15.2))) from(yxb (by kernel_rfl))) ha3 ha4 ha4 (yla hv16) ha4 (A4 (show PureAt Tryz.prog (.binOp .eql 27 (.tmp 46) (.tmp 47) 27) [vRt v12.2,vRt v16] (.bool ((v12.2.1==v16.1)&&(v12.2.2==v16.2))) from(yxb (by kernel_rfl))) ha3 ha4 ha3)))))
    replace hw17:=ypn ha4 hw17
    have hw17:=oi hw17
    subst hw17
    exact(r_dq yfa 15 [] [dP 0 a0,pI 4 x5.1,vL 13 50 (eO 3 eI) v4,pL 14 v4,pI 15 x5.2,pB 50 false] [hC 1 [.p (vRt v13)],(2,{pv:=some (.bool ((v10.2.1==v13.1)&&(v10.2.2==v13.2)))}),(4,gT),(5,{g:=some true,call:=some (none,[.p (vRt v14)],true)}),(6,{g:=some true,pv:=some (.bool ((v12.2.1==v14.1)&&(v12.2.2==v14.2)))}),(7,bT),(9,gF),(10,(gN [.p (vRt v15)])),(11,(hB ((v10.2.1==v15.1)&&(v10.2.2==v15.2)))),(12,gF),(13,gF),(14,gF),(15,gF),(16,gFbF),(17,bF)] (B6 (yla hv13) (show PureAt Tryz.prog (.binOp .eql 27 (.tmp 33) (.tmp 34) 27) [vRt v10.2,vRt v13] (.bool ((v10.2.1==v13.1)&&(v10.2.2==v13.2))) from(yxb (by kernel_rfl))) ha2 ha2 (yla hv14) ha2 (B6 (show PureAt Tryz.prog (.binOp .eql 27 (.tmp 37) (.tmp 38) 27) [vRt v12.2,vRt v14] (.bool ((v12.2.1==v14.1)&&(v12.2.2==v14.2))) from(yxb (by kernel_rfl))) ha2 ha3 ha3 (yla hv15) ha3 (B6 (show PureAt Tryz.prog (.binOp .eql 27 (.tmp 42) (.tmp 43) 27) [vRt v10.2,vRt v15] (.bool ((v10.2.1==v15.1)&&(v10.2.2==v15.2))) from(yxb (by kernel_rfl))) ha3 ha4 ha4 ha4 ha3 (A2 ha4 ha3)))))
   obtain⟨v14,hv14,hw17⟩:=bs (ypn ha2 hw17)
   rcases ft ((v10.2.1==v14.1)&&(v10.2.2==v14.2)) with ha3 | ha3
   ·obtain⟨v15,hv15,hw17⟩:=bs (yon ha3 hw17)
    have hw17:=oi hw17
    subst hw17
    exact(r_dq yfa 15 [] [dP 0 a0,pI 4 x5.1,vL 13 50 (eO 3 eI) v4,pL 14 v4,pI 15 x5.2,pB 50 ((v12.2.1==v15.1)&&(v12.2.2==v15.2))] [hC 1 [.p (vRt v13)],(2,{pv:=some (.bool ((v10.2.1==v13.1)&&(v10.2.2==v13.2)))}),(4,gF),(5,gF),(6,gF),(7,bF),(9,gF),(10,(gN [.p (vRt v14)])),(11,(hB ((v10.2.1==v14.1)&&(v10.2.2==v14.2)))),(12,gF),(13,gT),(14,{g:=some true,call:=some (none,[.p (vRt v15)],true)}),(15,{g:=some true,pv:=some (.bool ((v12.2.1==v15.1)&&(v12.2.2==v15.2)))}),(16,gFbT),(17,bF)] (B6 (yla hv13) (show PureAt Tryz.prog (.binOp .eql 27 (.tmp 33) (.tmp 34) 27) [vRt v10.2,vRt v13] (.bool ((v10.2.1==v13.1)&&(v10.2.2==v13.2))) from(yxb (by kernel_rfl))) ha2 ha2 ha2 ha2 (B6 fF fF (yla hv14) fF (show PureAt Tryz.prog (.binOp .eql 27 (.tmp 42) (.tmp 43) 27) [vRt v10.2,vRt v14] (.bool ((v10.2.1==v14.1)&&(v10.2.2==v14.2))) from(yxb (by kernel_rfl))) fF (B6 ha3 ha3 (yla hv15) ha3 (show PureAt Tryz.prog (.binOp .eql 27 (.tmp 46) (.tmp 47) 27) [vRt v12.2,vRt v15] (.bool ((v12.2.1==v15.1)&&(v12.2.2==v15.2))) from(yxb (by kernel_rfl))) fF (A2 ha3 fF)))))
   replace hw17:=ypn ha3 hw17
   have hw17:=oi hw17
   subst hw17
   exact(r_dq yfa 15 [] [dP 0 a0,pI 4 x5.1,vL 13 50 (eO 3 eI) v4,pL 14 v4,pI 15 x5.2,pB 50 false] [hC 1 [.p (vRt v13)],(2,{pv:=some (.bool ((v10.2.1==v13.1)&&(v10.2.2==v13.2)))}),(4,gF),(5,gF),(6,gF),(7,bF),(9,gF),(10,(gN [.p (vRt v14)])),(11,(hB ((v10.2.1==v14.1)&&(v10.2.2==v14.2)))),(12,gF),(13,gF),(14,gF),(15,gF),(16,gFbF),(17,bF)] (B6 (yla hv13) (show PureAt Tryz.prog (.binOp .eql 27 (.tmp 33) (.tmp 34) 27) [vRt v10.2,vRt v13] (.bool ((v10.2.1==v13.1)&&(v10.2.2==v13.2))) from(yxb (by kernel_rfl))) ha2 ha2 ha2 ha2 (B6 fF fF (yla hv14) fF (show PureAt Tryz.prog (.binOp .eql 27 (.tmp 42) (.tmp 43) 27) [vRt v10.2,vRt v14] (.bool ((v10.2.1==v14.1)&&(v10.2.2==v14.2))) from(yxb (by kernel_rfl))) fF (A6 ha3 ha3 ha3 fF ha3 fF))))
  refine kI h (fun hc6_17 h=>?_) (fun hc6_17 h=>?_)
  ·refine yrc (r_gq [dP 0 a0,pI 4 (w64 (x5.1+1)),vL 13 50 (eO 3 eI) v4,pL 14 v4,pI 15 x5.2] [] trivial) ?_
   refine b_n (q_n (yrc (r_gq [dP 0 a0,pI 4 (w64 (x5.1+1)),vL 13 50 (eO 3 eI) v4,pL 14 v4,pI 15 (w64 (x5.2+1))] [] trivial) ?_))
   exact lqn ((w64 (x5.1+1)),(w64 (x5.2+1))) h
  refine yia (b_n (q_n (yrc (r_gq [dP 0 a0,pI 4 x5.1,vL 13 50 (eO 3 eI) v4,pL 14 v4,pI 15 (w64 (x5.2+1))] [] trivial) ?_)))
  exact lqn (x5.1,(w64 (x5.2+1))) h
 refine yzc (q_x (lq_x (b_x ?_)))
 have hyy:=hy_x5 _ (oi h).symm
 subst hyy
 have h:=hk_x5
 refine q_n ?_
 exact jx x5.1 h
theorem ylf1 {a0:Qr} {a1:Qr}  {r:Bool} (h:yuq a0 a1=some r):Meets Tryz.prog 37 [.v (vRt a0),.v (vRt a1)] { vals:=[.p (.bool r)] }:=by
 refine mo Tryz.func37 [(0,.p (vRt a0)),(1,.p (vRt a1))] ?_
 unfold yuq at h
 refine kG [bR 2 a0,bR 3 a1] [] trivial ?_
 refine kG [pB 4 (decide ((w64 (a0.1*a1.2))<(w64 (a1.1*a0.2))))] [] trivial ?_
 refine yra ?_
 obtain rfl:=oi h
 exact er [(.p (.bool (decide ((w64 (a0.1*a1.2))<(w64 (a1.1*a0.2))))),4)]
theorem yns {a0:(List Qp)}  {r:(Bool×Bool)} (h:ymg a0=some r):Meets Tryz.prog 34 [.d false (sP a0)] { vals:=[.p (.bool r.1),.p (.bool r.2)] }:=by
 refine mo Tryz.func34 [dP 0 a0] ?_
 unfold ymg at h
 refine kG [dP 0 a0] [] trivial ?_
 refine yib ?_
 obtain⟨v1,hv1,h⟩:=bs h
 refine kG [dP 0 a0,pB 6 (!v1)] [hC 1 [.p (.bool v1)]] (A1 (yve hv1)) ?_
 refine kI h (fun hc2_1 h=>?_) (fun hc2_1 h=>?_)
 ·refine kG [pB 2 false,pB 3 false] [] trivial ?_
  refine yra (q_r ?_)
  obtain rfl:=oi h
  exact er [(.p (.bool false),2),(.p (.bool false),3)]
 refine yia (q_n ?_)
 obtain⟨v3,hv3,h⟩:=bs h
 refine kG [pB 2 v3,pB 3 true] [hC 1 [.p (.bool v3)]] (A1 (ywh hv3)) ?_
 refine yra ?_
 obtain rfl:=oi h
 exact er [(.p (.bool v3),2),(.p (.bool true),3)]
theorem ywp {a0:(List Qp)} {a1:Int}  {r:(Qr×Bool)} (h:yqb a0 a1=some r):Meets Tryz.prog 30 [.d false (sP a0),wI a1] { vals:=[.p (vRt r.1),.p (.bool r.2)] }:=by
 refine mo Tryz.func30 [dP 0 a0,pI 1 a1] ?_
 unfold yqb at h
 refine kG [dP 0 a0,pI 1 a1,bX 4 zR] [] trivial ?_
 obtain⟨v1,hv1,h⟩:=bs h
 refine kG [pI 1 a1,bX 4 zR,dL 6 (eF eRt) v1.1,pB 7 v1.2] [hC 2 [rO 30 (eO 27 eRt) v1.1,.p (.bool v1.2)],(6,{pre:=some (dL 12 (eF eRt) v1.1)})] (A3 (yks hv1) (show List.all [rO 30 (eO 27 eRt) v1.1,.p (.bool v1.2)] simpleR=true from(sa_o (wnR1 (ysc (wn_O (wn_P wn_I wn_I))) rfl) (sa_p rfl))) (show(SV.d false (eraR [.sl (some 30) (v1.1.map (eO 27 eRt))]):SV)=.d false [.sl none (v1.1.map (eF eRt))] from(congrArg (fun z=>SV.d false z) (ybs (ywa (yhp1 (yyx er_I er_I))) rfl)))) ?_
 refine yib (kG [pI 1 a1,bX 4 zR,dL 6 (eF eRt) v1.1,pB 15 (!v1.2)] [] trivial ?_)
 refine kI h (fun hc2_1 h=>?_) (fun hc2_1 h=>?_)
 ·refine kG [bX 4 zR,pB 5 false] [] trivial ?_
  refine yra (q_r ?_)
  obtain rfl:=oi h
  exact er [(.p (.agg #[.int .i64 0,.int .i64 0]),4),(.p (.bool false),5)]
 refine yia (q_n ?_)
 obtain⟨v3,hv3,h⟩:=bs h
 obtain⟨v4,hv4,h⟩:=bs h
 refine kG [bR 4 v4.1,pB 5 v4.2] [hR 2 [.sl none (v3.map eRt)],hC 4 [.p (vRt v4.1),.p (.bool v4.2)]] (A3 (yba hv3).1 (yda (eF eRt) (yba hv3).2) (ywr hv4)) ?_
 refine yra ?_
 obtain rfl:=oi h
 exact er [(.p (vRt v4.1),4),(.p (.bool v4.2),5)]
theorem yxp {a0:(List Qp)} {a1:Int}  {r:(Qr×Bool)} (h:yza a0 a1=some r):Meets Tryz.prog 31 [.d false (sP a0),wI a1] { vals:=[.p (vRt r.1),.p (.bool r.2)] }:=by
 refine mo Tryz.func31 [dP 0 a0,pI 1 a1] ?_
 unfold yza at h
 refine kG [dP 0 a0,pI 1 a1,bX 4 zR] [] trivial ?_
 refine yib ?_
 obtain⟨v1,hv1,h⟩:=bs h
 refine kG [dP 0 a0,pI 1 a1,bX 4 zR,pB 11 (!v1)] [hC 2 [.p (.bool v1)]] (A1 (yxt hv1)) ?_
 refine kI h (fun hc2_1 h=>?_) (fun hc2_1 h=>?_)
 ·refine kG [bX 4 zR,pB 5 false] [] trivial ?_
  refine yra (q_r ?_)
  obtain rfl:=oi h
  exact er [(.p (.agg #[.int .i64 0,.int .i64 0]),4),(.p (.bool false),5)]
 refine yia (q_n ?_)
 obtain⟨v3,hv3,h⟩:=bs h
 refine kG [bX 4 zR,vL 6 27 eRt v3.1,pB 7 v3.2] [hC 2 [rO 27 eRt v3.1,.p (.bool v3.2)]] (A2 (ykv hv3) (show List.all [rO 27 eRt v3.1,.p (.bool v3.2)] simpleR=true from(sa_o (wnR1 (ysc (wn_P wn_I wn_I)) rfl) (sa_p rfl)))) ?_
 refine yib (kG [bX 4 zR,vL 6 27 eRt v3.1,pB 20 (!v3.2)] [] trivial ?_)
 refine kI h (fun hc2_3 h=>?_) (fun hc2_3 h=>?_)
 ·refine kG [bX 4 zR,pB 5 false] [] trivial ?_
  refine yra (q_r ?_)
  obtain rfl:=oi h
  exact er [(.p (.agg #[.int .i64 0,.int .i64 0]),4),(.p (.bool false),5)]
 refine yia (q_n ?_)
 obtain⟨v5,hv5,h⟩:=bs h
 refine kG [bR 4 v5.1,pB 5 v5.2] [(1,(cS [.d false [.sl none (v3.1.map eRt)]] [.p (vRt v5.1),.p (.bool v5.2)]))] (A2 (show([.d false [.sl none (eraL (v3.1.map eRt))]]:List Arg)=[.d false [.sl none (v3.1.map eRt)]] from(by simp only[ywa (h:=eRt) (yyx er_I er_I)])) (yay hv5)) ?_
 refine yra ?_
 obtain rfl:=oi h
 exact er [(.p (vRt v5.1),4),(.p (.bool v5.2),5)]
theorem yju {a0:(List Int)}  {r:(List Qp)} (h:ysj a0=some r):Meets Tryz.prog 109 [.d false [.sl none (a0.map (eU .u8))]] { vals:=[.ov false (oP 85 r)] }:=by
 refine mo Tryz.func109 [dL 0 (eU .u8) a0] ?_
 unfold ysj at h
 refine kG [dL 0 (eU .u8) a0] [] trivial ?_
 refine kG [(3,.addr 6 [(0,0)]),bC 6 (a0,0,0)] [] trivial ?_
 obtain⟨v1,hv1,h⟩:=bs h
 refine kG [vP 2 85 v1.1] [hF 1 [.ov false (oP 85 v1.1)] (.box (eCu v1.2))] (A1 (ykh hv1)) ?_
 refine yra ?_
 obtain rfl:=oi h
 exact er [(.ov false (oP 85 v1.1),2)]
theorem yos {a0:(List Int)}  {r:(List Qp)} (h:yff a0=some r):Meets Tryz.prog 53 [.d false [.sl none (a0.map (eU .u8))]] { vals:=[.ov false (oP 85 r)] }:=by
 refine mo Tryz.func53 [dL 0 (eU .u8) a0] ?_
 unfold yff at h
 refine kG [dL 0 (eU .u8) a0] [] trivial ?_
 obtain⟨v1,hv1,h⟩:=bs h
 refine kG [vP 2 85 v1] [hC 1 [.ov false (oP 85 v1)]] (A2 (yju hv1) (show List.all [.ov false (oP 85 v1)] simpleR=true from(sa_o (wnR1 (ysc (wn_P (wn_P wn_I wn_I) (wn_P wn_I wn_I))) rfl) rfl))) ?_
 refine yra ?_
 obtain rfl:=oi h
 exact er [(.ov false (oP 85 v1),2)]
theorem yfx {a0:(List Qp)}  {r:Bool} (h:ytm a0=some r):Meets Tryz.prog 110 [.d false (sP a0)] { vals:=[.p (.bool r)] }:=by
 refine mo Tryz.func110 [dP 0 a0] ?_
 unfold ytm at h
 refine kG [dP 0 a0] [] trivial ?_
 refine yib ?_
 obtain⟨v1,hv1,h⟩:=bs h
 refine kG [dP 0 a0,pB 6 (!v1)] [hC 1 [.p (.bool v1)]] (A1 (ywh hv1)) ?_
 refine kI h (fun hc2_1 h=>?_) (fun hc2_1 h=>?_)
 ·refine kG [pB 2 false] [] trivial ?_
  refine yra (q_r ?_)
  obtain rfl:=oi h
  exact er [(.p (.bool false),2)]
 refine yia (q_n ?_)
 obtain⟨v3,hv3,h⟩:=bs h
 refine kG [vL 3 50 (eO 3 eI) v3] [hC 1 [rO 50 (eO 3 eI) v3]] (A2 (yer hv3) (show List.all [rO 50 (eO 3 eI) v3] simpleR=true from(sa_o (wnR1 (ysc (wn_O wn_I)) rfl) rfl))) ?_
 obtain⟨w6,hw6,h⟩:=bs h
 refine ylb (l1:=[pB 2 w6]) ?_ ?_
 ·clear h
  rcases ft ((v3.length:Int)==2) with ha1 | ha1
  ·obtain⟨v4,hv4,hw6⟩:=bs (yon ha1 hw6)
   obtain⟨v5,hv5,hw6⟩:=bs hw6
   have hw6:=oi hw6
   subst hw6
   exact(r_gq [pB 2 (v5==1)] [hN 1 v3,(4,gT),(5,{g:=some true,row:=some [.sl (some 3) (v4.map eI)]}),(6,{g:=some true,row:=some [.sl (some 3) (v4.map eI)]}),(7,{g:=some true,deep:=some [.sl (some 3) (v4.map eI)],row:=some (eI v5)}),(8,{g:=some true,row:=some (eI v5)}),(9,gT),(10,bT)] (B6 (lF (eO 3 eI) v3) ha1 ha1 (yba hv4).1 (yda (eO 3 eI) (yba hv4).2) ha1 (B6 (show frR [.sl (some 3) (v4.map eI)]=false from rfl) (gW 50 (eO 3 eI) hv4) ha1 (yba hv5).1 (yda eI (yba hv5).2) (gW 50 (eO 3 eI) hv4) (A4 ha1 (show getRow [[.sl (some 50) (v3.map (eO 3 eI))]] [(0,0),((Int.toNat 0),0),((Int.toNat 2),0)]=some (eI v5) from((gr0 rfl).trans ((grs (yda (eO 3 eI) (yba hv4).2) rfl).trans (gre (yda eI (yba hv5).2))))) ha1 ha1))))
  replace hw6:=ypn ha1 hw6
  have hw6:=oi hw6
  subst hw6
  exact(r_gq [pB 2 false] [hN 1 v3,(4,gF),(5,gF),(6,gF),(7,gF),(8,gF),(9,gF),(10,bF)] (B6 (lF (eO 3 eI) v3) ha1 ha1 ha1 ha1 ha1 (A2 ha1 ha1)))
 refine yra ?_
 obtain rfl:=oi h
 exact er [(.p (.bool w6),2)]
theorem ygx {a0:(List Qp)}  {r:(Bool×Bool)} (h:yij a0=some r):Meets Tryz.prog 54 [.d false (sP a0)] { vals:=[.p (.bool r.1),.p (.bool r.2)] }:=by
 refine mo Tryz.func54 [dP 0 a0] ?_
 unfold yij at h
 refine kG [dP 0 a0] [] trivial ?_
 refine yib ?_
 obtain⟨v1,hv1,h⟩:=bs h
 refine kG [dP 0 a0,pB 6 (!v1)] [hC 1 [.p (.bool v1)]] (A1 (ywh hv1)) ?_
 refine kI h (fun hc2_1 h=>?_) (fun hc2_1 h=>?_)
 ·refine kG [pB 2 false,pB 3 false] [] trivial ?_
  refine yra (q_r ?_)
  obtain rfl:=oi h
  exact er [(.p (.bool false),2),(.p (.bool false),3)]
 refine yia (q_n ?_)
 obtain⟨v3,hv3,h⟩:=bs h
 refine kG [pB 2 v3,pB 3 true] [hC 1 [.p (.bool v3)]] (A1 (yfx hv3)) ?_
 refine yra ?_
 obtain rfl:=oi h
 exact er [(.p (.bool v3),2),(.p (.bool true),3)]
theorem yhx {a0:(List Qp)}  {r:(Bool×Bool)} (h:yjj a0=some r):Meets Tryz.prog 55 [.d false (sP a0)] { vals:=[.p (.bool r.1),.p (.bool r.2)] }:=by
 refine mo Tryz.func55 [dP 0 a0] ?_
 unfold yjj at h
 refine kG [dP 0 a0] [] trivial ?_
 refine yib ?_
 obtain⟨v1,hv1,h⟩:=bs h
 obtain⟨w3,hw3,h⟩:=bs h
 refine ylb (l1:=[dP 0 a0,pB 12 w3]) ?_ ?_
 ·clear h
  rcases ft (!v1) with ha0 | ha0
  ·replace hw3:=yon ha0 hw3
   have hw3:=oi hw3
   subst hw3
   exact(r_gq [dP 0 a0,pB 12 true] [hC 1 [.p (.bool v1)],(4,gT),(5,gT),(6,gT),(7,bT)] (A5 (ygc hv1) ha0 ha0 ha0 ha0))
  obtain⟨v2,hv2,hw3⟩:=bs (ypn ha0 hw3)
  have hw3:=oi hw3
  subst hw3
  exact(r_gq [dP 0 a0,pB 12 (!v2)] [hC 1 [.p (.bool v1)],(4,gF),(5,(gN [.p (.bool v2)])),(6,gF),(7,bF)] (A6 (ygc hv1) ha0 ha0 (yuk hv2) ha0 ha0))
 refine kI h (fun hc2_3 h=>?_) (fun hc2_3 h=>?_)
 ·refine kG [pB 2 false,pB 3 false] [] trivial ?_
  refine yra (q_r ?_)
  obtain rfl:=oi h
  exact er [(.p (.bool false),2),(.p (.bool false),3)]
 refine yia (q_n ?_)
 obtain⟨v5,hv5,h⟩:=bs h
 refine kG [vL 4 50 (eO 3 eI) v5] [hC 1 [rO 50 (eO 3 eI) v5]] (A2 (yun hv5) (show List.all [rO 50 (eO 3 eI) v5] simpleR=true from(sa_o (wnR1 (ysc (wn_O wn_I)) rfl) rfl))) ?_
 obtain⟨w8,hw8,h⟩:=bs h
 refine ylb (l1:=[pB 2 w8,pB 3 true]) ?_ ?_
 ·clear h
  rcases ft ((v5.length:Int)==2) with ha1 | ha1
  ·obtain⟨v6,hv6,hw8⟩:=bs (yon ha1 hw8)
   obtain⟨v7,hv7,hw8⟩:=bs hw8
   have hw8:=oi hw8
   subst hw8
   exact(r_gq [pB 2 (v7==1),pB 3 true] [hN 1 v5,(4,gT),(5,{g:=some true,row:=some [.sl (some 3) (v6.map eI)]}),(6,{g:=some true,row:=some [.sl (some 3) (v6.map eI)]}),(7,{g:=some true,deep:=some [.sl (some 3) (v6.map eI)],row:=some (eI v7)}),(8,{g:=some true,row:=some (eI v7)}),(9,gT),(10,bT)] (B6 (lF (eO 3 eI) v5) ha1 ha1 (yba hv6).1 (yda (eO 3 eI) (yba hv6).2) ha1 (B6 (show frR [.sl (some 3) (v6.map eI)]=false from rfl) (gW 50 (eO 3 eI) hv6) ha1 (yba hv7).1 (yda eI (yba hv7).2) (gW 50 (eO 3 eI) hv6) (A4 ha1 (show getRow [[.sl (some 50) (v5.map (eO 3 eI))]] [(0,0),((Int.toNat 0),0),((Int.toNat 2),0)]=some (eI v7) from((gr0 rfl).trans ((grs (yda (eO 3 eI) (yba hv6).2) rfl).trans (gre (yda eI (yba hv7).2))))) ha1 ha1))))
  replace hw8:=ypn ha1 hw8
  have hw8:=oi hw8
  subst hw8
  exact(r_gq [pB 2 false,pB 3 true] [hN 1 v5,(4,gF),(5,gF),(6,gF),(7,gF),(8,gF),(9,gF),(10,bF)] (B6 (lF (eO 3 eI) v5) ha1 ha1 ha1 ha1 ha1 (A2 ha1 ha1)))
 refine yra ?_
 obtain rfl:=oi h
 exact er [(.p (.bool w8),2),(.p (.bool true),3)]
theorem yla1 {a0:(List Qp)}  {r:(Bool×Bool)} (h:yok a0=some r):Meets Tryz.prog 56 [.d false (sP a0)] { vals:=[.p (.bool r.1),.p (.bool r.2)] }:=by
 refine mo Tryz.func56 [dP 0 a0] ?_
 unfold yok at h
 refine kG [dP 0 a0] [] trivial ?_
 refine yib ?_
 obtain⟨v1,hv1,h⟩:=bs h
 refine kG [dP 0 a0,pB 6 (!v1)] [hC 1 [.p (.bool v1)]] (A1 (ygc hv1)) ?_
 refine kI h (fun hc2_1 h=>?_) (fun hc2_1 h=>?_)
 ·refine kG [pB 2 false,pB 3 false] [] trivial ?_
  refine yra (q_r ?_)
  obtain rfl:=oi h
  exact er [(.p (.bool false),2),(.p (.bool false),3)]
 refine yia (q_n ?_)
 obtain⟨v3,hv3,h⟩:=bs h
 refine kG [pB 2 v3,pB 3 true] [hC 1 [.p (.bool v3)]] (A1 (yuk hv3)) ?_
 refine yra ?_
 obtain rfl:=oi h
 exact er [(.p (.bool v3),2),(.p (.bool true),3)]
theorem wk_laws_FnLapMaps {a0:(List Int)} {a1:(List Int)}  {r:Bool} (h:laws_FnLapMaps a0 a1=some r):Meets Tryz.prog 5 [.d false [.sl none (a0.map (eU .u8))],.d false [.sl none (a1.map (eU .u8))]] { vals:=[.p (.bool r)] }:=by
 refine mo Tryz.func5 [dL 0 (eU .u8) a0,dL 1 (eU .u8) a1] ?_
 unfold laws_FnLapMaps at h
 refine kG [dL 0 (eU .u8) a0,dL 1 (eU .u8) a1] [] trivial ?_
 refine yib ?_
 obtain⟨v1,hv1,h⟩:=bs h
 refine kG [dL 0 (eU .u8) a0,dL 1 (eU .u8) a1,pB 49 v1] [hC 2 [.p (.bool v1)]] (A1 (ysj1 hv1)) ?_
 refine kI h (fun hc2_1 h=>?_) (fun hc2_1 h=>?_)
 ·refine kG [pB 4 true] [] trivial ?_
  refine yra (q_r ?_)
  obtain rfl:=oi h
  exact er [(.p (.bool true),4)]
 refine yia (q_n ?_)
 obtain⟨v3,hv3,h⟩:=bs h
 refine kG [dL 1 (eU .u8) a1,vP 5 85 v3.1,pI 6 v3.2] [hC 1 [.ov false (oP 85 v3.1),.p (iV v3.2)]] (A2 (yqt hv3) (show List.all [.ov false (oP 85 v3.1),.p (iV v3.2)] simpleR=true from(sa_o (wnR1 (ysc (wn_P (wn_P wn_I wn_I) (wn_P wn_I wn_I))) rfl) (sa_p rfl)))) ?_
 obtain⟨v4,hv4,h⟩:=bs h
 refine kG [dL 1 (eU .u8) a1,vP 5 85 v3.1,pI 6 v3.2,pI 7 v4.1,pB 8 v4.2] [(2,(cS [.d false (sP v3.1),wI v3.2] [.p (iV v4.1),.p (.bool v4.2)]))] (A2 (show([.d false [.sl none (eraL (v3.1.map ePt))],wI v3.2]:List Arg)=[.d false (sP v3.1),wI v3.2] from(by simp only[erPt])) (ymy hv4)) ?_
 obtain⟨v5,hv5,h⟩:=bs h
 refine kG [dL 1 (eU .u8) a1,vP 5 85 v3.1,pI 6 v3.2,pI 7 v4.1,pB 8 v4.2,pI 9 v5.1,pB 10 v5.2] [(2,(cS [.d false (sP v3.1),wI v3.2] [.p (iV v5.1),.p (.bool v5.2)]))] (A2 (show([.d false [.sl none (eraL (v3.1.map ePt))],wI v3.2]:List Arg)=[.d false (sP v3.1),wI v3.2] from(by simp only[erPt])) (yoy hv5)) ?_
 refine yib (ylb (l1:=[dL 1 (eU .u8) a1,vP 5 85 v3.1,pI 6 v3.2,pB 8 v4.2,pI 9 v5.1,pB 74 ((!(v4.2==v5.2))||(v4.1 != v5.1))]) ?_ ?_)
 ·rcases ft (!(v4.2==v5.2)) with ha1 | ha1
  ·exact RegOk.of_eq (r_gq [dL 1 (eU .u8) a1,vP 5 85 v3.1,pI 6 v3.2,pB 8 v4.2,pI 9 v5.1,pB 74 true] [(4,gT),(5,gT),(6,gT),(7,bT)] (A4 ha1 ha1 ha1 ha1)) (by simp[ha1])
  exact RegOk.of_eq (r_gq [dL 1 (eU .u8) a1,vP 5 85 v3.1,pI 6 v3.2,pB 8 v4.2,pI 9 v5.1,pB 74 (v4.1 != v5.1)] [(4,gF),(5,gF),(6,gF),(7,bF)] (A4 ha1 ha1 ha1 ha1)) (by simp[ha1])
 refine kI h (fun hc2_5 h=>?_) (fun hc2_5 h=>?_)
 ·refine kG [pB 4 false] [] trivial ?_
  refine yra (q_r ?_)
  obtain rfl:=oi h
  exact er [(.p (.bool false),4)]
 refine yia (q_n (ywb (J:=fun (x:Unit)=>[dL 1 (eU .u8) a1]) (K:=fun x=>laws_FnLapMaps_k1 a1 x=some r) (fun x7 h=>?_) ?_))
 ·unfold laws_FnLapMaps_k1 at h
  obtain⟨v8,hv8,h⟩:=bs h
  refine kG [dL 1 (eU .u8) a1,vP 19 85 v8] [hC 1 [.ov false (oP 85 v8)]] (A2 (ycs hv8) (show List.all [.ov false (oP 85 v8)] simpleR=true from(sa_o (wnR1 (ysc (wn_P (wn_P wn_I wn_I) (wn_P wn_I wn_I))) rfl) rfl))) ?_
  obtain⟨v9,hv9,h⟩:=bs h
  refine kG [dL 1 (eU .u8) a1,vP 19 85 v8,bR 20 v9.1,pB 21 v9.2] [(1,(cS [.d false (sP v8)] [.p (vRt v9.1),.p (.bool v9.2)]))] (A2 (show([.d false [.sl none (eraL (v8.map ePt))]]:List Arg)=[.d false (sP v8)] from(by simp only[erPt])) (yrv hv9)) ?_
  obtain⟨v10,hv10,h⟩:=bs h
  refine kG [dL 1 (eU .u8) a1,vP 19 85 v8,bR 20 v9.1,pB 21 v9.2,bR 22 v10.1,pB 23 v10.2] [(1,(cS [.d false (sP v8)] [.p (vRt v10.1),.p (.bool v10.2)]))] (A2 (show([.d false [.sl none (eraL (v8.map ePt))]]:List Arg)=[.d false (sP v8)] from(by simp only[erPt])) (ysv hv10)) ?_
  obtain⟨v11,hv11,h⟩:=bs h
  refine kG [dL 1 (eU .u8) a1,vP 19 85 v8,bR 20 v9.1,pB 21 v9.2,bR 22 v10.1,pB 23 v10.2,pI 24 v11.1,pB 25 v11.2] [(1,(cS [.d false (sP v8)] [.p (iV v11.1),.p (.bool v11.2)]))] (A2 (show([.d false [.sl none (eraL (v8.map ePt))]]:List Arg)=[.d false (sP v8)] from(by simp only[erPt])) (yja1 hv11)) ?_
  obtain⟨v12,hv12,h⟩:=bs h
  refine kG [dL 1 (eU .u8) a1,vP 19 85 v8,bR 20 v9.1,pB 21 v9.2,bR 22 v10.1,pB 23 v10.2,pI 24 v11.1,pB 25 v11.2,pI 26 v12.1,pB 27 v12.2] [(1,(cS [.d false (sP v8)] [.p (iV v12.1),.p (.bool v12.2)]))] (A2 (show([.d false [.sl none (eraL (v8.map ePt))]]:List Arg)=[.d false (sP v8)] from(by simp only[erPt])) (yka1 hv12)) ?_
  refine yib (ylb (l1:=[dL 1 (eU .u8) a1,vP 19 85 v8,pB 21 v9.2,bR 22 v10.1,pB 25 v11.2,pI 26 v12.1,pB 176 ((!(v9.2==v10.2))||((nR v9.1 v10.1)||((!(v11.2==v12.2))||((v11.1 != v12.1)||(v9.2&&(!v11.2))))))]) ?_ ?_)
  ·rcases ft (!(v9.2==v10.2)) with ha2 | ha2
   ·exact RegOk.of_eq (r_gq [dL 1 (eU .u8) a1,vP 19 85 v8,pB 21 v9.2,bR 22 v10.1,pB 25 v11.2,pI 26 v12.1,pB 176 true] [(4,gT),(5,gT),(6,gT),(7,bT),(9,gT),(10,gT),(11,gT),(12,bT),(14,gT),(15,gT),(16,gT),(17,bT),(19,gT),(20,gT),(23,gT),(24,bT)] (B6 ha2 ha2 ha2 ha2 tT tT (B6 tT tT tT tT tT tT (A4 tT tT tT tT)))) (by simp[ha2])
   rcases ft (nR v9.1 v10.1) with ha3 | ha3
   ·exact RegOk.of_eq (r_gq [dL 1 (eU .u8) a1,vP 19 85 v8,pB 21 v9.2,bR 22 v10.1,pB 25 v11.2,pI 26 v12.1,pB 176 true] [(4,gF),(5,gF),(6,(hB (nR v9.1 v10.1))),(7,bF),(9,gT),(10,gT),(11,gT),(12,bT),(14,gT),(15,gT),(16,gT),(17,bT),(19,gT),(20,gT),(23,gT),(24,bT)] (B6 ha2 ha2 ha2 (show PureAt Tryz.prog (.binOp .neq 27 (.tmp 156) (.tmp 157) 27) [vRt v9.1,vRt v10.1] (.bool (nR v9.1 v10.1)) from(yji (by kernel_rfl))) ha2 ha3 (B6 ha3 ha3 ha3 tT tT tT (A5 tT tT tT tT tT)))) (by simp[ha2,ha3])
   rcases ft (!(v11.2==v12.2)) with ha4 | ha4
   ·exact RegOk.of_eq (r_gq [dL 1 (eU .u8) a1,vP 19 85 v8,pB 21 v9.2,bR 22 v10.1,pB 25 v11.2,pI 26 v12.1,pB 176 true] [(4,gF),(5,gF),(6,(hB (nR v9.1 v10.1))),(7,bF),(9,gF),(10,gF),(11,gF),(12,bF),(14,gT),(15,gT),(16,gT),(17,bT),(19,gT),(20,gT),(23,gT),(24,bT)] (B6 ha2 ha2 ha2 (show PureAt Tryz.prog (.binOp .neq 27 (.tmp 156) (.tmp 157) 27) [vRt v9.1,vRt v10.1] (.bool (nR v9.1 v10.1)) from(yji (by kernel_rfl))) ha2 ha3 (B6 ha3 ha3 ha3 ha4 ha4 ha4 (A5 ha4 tT tT tT tT)))) (by(try rw[ha2]);(try rw[ha3]);(try rw[ha4]);all_goals (first | rfl | simp[ha2,ha3,ha4]))
   rcases ft (v11.1 != v12.1) with ha5 | ha5
   ·exact RegOk.of_eq (r_gq [dL 1 (eU .u8) a1,vP 19 85 v8,pB 21 v9.2,bR 22 v10.1,pB 25 v11.2,pI 26 v12.1,pB 176 true] [(4,gF),(5,gF),(6,(hB (nR v9.1 v10.1))),(7,bF),(9,gF),(10,gF),(11,gF),(12,bF),(14,gF),(15,gF),(16,gF),(17,bF),(19,gT),(20,gT),(23,gT),(24,bT)] (B6 ha2 ha2 ha2 (show PureAt Tryz.prog (.binOp .neq 27 (.tmp 156) (.tmp 157) 27) [vRt v9.1,vRt v10.1] (.bool (nR v9.1 v10.1)) from(yji (by kernel_rfl))) ha2 ha3 (B6 ha3 ha3 ha3 ha4 ha4 ha4 (A5 ha4 ha5 ha5 ha5 ha5)))) (by(try rw[ha2]);(try rw[ha3]);(try rw[ha4]);(try rw[ha5]);all_goals (first | rfl | simp[ha2,ha3,ha4,ha5]))
   rcases ft v9.2 with ha6 | ha6
   ·exact RegOk.of_eq (r_gq [dL 1 (eU .u8) a1,vP 19 85 v8,pB 21 v9.2,bR 22 v10.1,pB 25 v11.2,pI 26 v12.1,pB 176 (!v11.2)] [(4,gF),(5,gF),(6,(hB (nR v9.1 v10.1))),(7,bF),(9,gF),(10,gF),(11,gF),(12,bF),(14,gF),(15,gF),(16,gF),(17,bF),(19,gF),(20,gF),(21,gT),(22,gT),(23,gFbT),(24,bF)] (B6 ha2 ha2 ha2 (show PureAt Tryz.prog (.binOp .neq 27 (.tmp 156) (.tmp 157) 27) [vRt v9.1,vRt v10.1] (.bool (nR v9.1 v10.1)) from(yji (by kernel_rfl))) ha2 ha3 (B6 ha3 ha3 ha3 ha4 ha4 ha4 (B6 ha4 ha5 ha5 ha6 ha6 ha5 (A2 ha6 ha5))))) (by(try rw[ha2]);(try rw[ha3]);(try rw[ha4]);(try rw[ha5]);(try rw[ha6]);all_goals (first | rfl | simp[ha2,ha3,ha4,ha5,ha6]))
   exact RegOk.of_eq (r_gq [dL 1 (eU .u8) a1,vP 19 85 v8,pB 21 v9.2,bR 22 v10.1,pB 25 v11.2,pI 26 v12.1,pB 176 false] [(4,gF),(5,gF),(6,(hB (nR v9.1 v10.1))),(7,bF),(9,gF),(10,gF),(11,gF),(12,bF),(14,gF),(15,gF),(16,gF),(17,bF),(19,gF),(20,gF),(21,gF),(22,gF),(23,gFbF),(24,bF)] (B6 ha2 ha2 ha2 (show PureAt Tryz.prog (.binOp .neq 27 (.tmp 156) (.tmp 157) 27) [vRt v9.1,vRt v10.1] (.bool (nR v9.1 v10.1)) from(yji (by kernel_rfl))) ha2 ha3 (B6 ha3 ha3 ha3 ha4 ha4 ha4 (B6 ha4 ha5 ha5 ha6 ha6 ha5 (A2 ha6 ha5))))) (by(try rw[ha2]);(try rw[ha3]);(try rw[ha4]);(try rw[ha5]);(try rw[ha6]);all_goals (first | rfl | simp[ha2,ha3,ha4,ha5,ha6]))
  refine kI h (fun hc2_12 h=>?_) (fun hc2_12 h=>?_)
  ·refine kG [pB 4 false] [] trivial ?_
   refine yra (q_r ?_)
   obtain rfl:=oi h
   exact er [(.p (.bool false),4)]
  refine yia (q_n (ywb (J:=fun (x:Unit)=>[dL 1 (eU .u8) a1]) (K:=fun x=>laws_FnLapMaps_k2 a1 x=some r) (fun x14 h=>?_) ?_))
  ·unfold laws_FnLapMaps_k2 at h
   obtain⟨v15,hv15,h⟩:=bs h
   refine kG [vP 38 85 v15] [hC 1 [.ov false (oP 85 v15)]] (A2 (yos hv15) (show List.all [.ov false (oP 85 v15)] simpleR=true from(sa_o (wnR1 (ysc (wn_P (wn_P wn_I wn_I) (wn_P wn_I wn_I))) rfl) rfl))) ?_
   obtain⟨v16,hv16,h⟩:=bs h
   refine kG [vP 38 85 v15,pB 39 v16.1,pB 40 v16.2] [(1,(cS [.d false (sP v15)] [.p (.bool v16.1),.p (.bool v16.2)]))] (A2 (show([.d false [.sl none (eraL (v15.map ePt))]]:List Arg)=[.d false (sP v15)] from(by simp only[erPt])) (ygx hv16)) ?_
   obtain⟨v17,hv17,h⟩:=bs h
   refine kG [vP 38 85 v15,pB 39 v16.1,pB 40 v16.2,pB 41 v17.1,pB 42 v17.2] [(1,(cS [.d false (sP v15)] [.p (.bool v17.1),.p (.bool v17.2)]))] (A2 (show([.d false [.sl none (eraL (v15.map ePt))]]:List Arg)=[.d false (sP v15)] from(by simp only[erPt])) (yhx hv17)) ?_
   obtain⟨v18,hv18,h⟩:=bs h
   refine kG [vP 38 85 v15,pB 39 v16.1,pB 40 v16.2,pB 41 v17.1,pB 42 v17.2,pB 43 v18.1,pB 44 v18.2] [(1,(cS [.d false (sP v15)] [.p (.bool v18.1),.p (.bool v18.2)]))] (A2 (show([.d false [.sl none (eraL (v15.map ePt))]]:List Arg)=[.d false (sP v15)] from(by simp only[erPt])) (yns hv18)) ?_
   obtain⟨v19,hv19,h⟩:=bs h
   refine kG [pB 39 v16.1,pB 40 v16.2,pB 41 v17.1,pB 42 v17.2,pB 43 v18.1,pB 44 v18.2,pB 45 v19.1,pB 46 v19.2] [(1,(cS [.d false (sP v15)] [.p (.bool v19.1),.p (.bool v19.2)]))] (A2 (show([.d false [.sl none (eraL (v15.map ePt))]]:List Arg)=[.d false (sP v15)] from(by simp only[erPt])) (yla1 hv19)) ?_
   refine ylb (l1:=[pB 4 ((v16.2==v17.2)&&((v16.1==v17.1)&&((v18.2==v19.2)&&(v18.1==v19.1))))]) ?_ ?_
   ·rcases ft (v16.2==v17.2) with ha3 | ha3
    ·rcases ft (v16.1==v17.1) with ha4 | ha4
     ·rcases ft (v18.2==v19.2) with ha5 | ha5
      ·exact RegOk.of_eq (r_gq [pB 4 (v18.1==v19.1)] [(4,gT),(5,gT),(6,gT),(7,bT),(9,gT),(10,gT),(11,gT),(12,bT),(14,gT),(15,gT),(16,gT),(17,bT)] (B6 ha3 ha3 ha3 ha3 ha4 ha4 (A6 ha4 ha4 ha5 ha5 ha5 ha5))) (by(try rw[ha3]);(try rw[ha4]);(try rw[ha5]);all_goals (first | rfl | simp[ha3,ha4,ha5]))
      exact RegOk.of_eq (r_gq [pB 4 false] [(4,gT),(5,gT),(6,gT),(7,bT),(9,gT),(10,gT),(11,gT),(12,bT),(14,gF),(15,gF),(16,gF),(17,bF)] (B6 ha3 ha3 ha3 ha3 ha4 ha4 (A6 ha4 ha4 ha5 ha5 ha5 ha5))) (by(try rw[ha3]);(try rw[ha4]);(try rw[ha5]);all_goals (first | rfl | simp[ha3,ha4,ha5]))
     exact RegOk.of_eq (r_gq [pB 4 false] [(4,gT),(5,gT),(6,gT),(7,bT),(9,gF),(10,gF),(11,gF),(12,bF),(14,gF),(15,gF),(16,gF),(17,bF)] (B6 ha3 ha3 ha3 ha3 ha4 ha4 (A6 ha4 ha4 fF fF fF fF))) (by simp[ha3,ha4])
    exact RegOk.of_eq (r_gq [pB 4 false] [(4,gF),(5,gF),(6,gF),(7,bF),(9,gF),(10,gF),(11,gF),(12,bF),(14,gF),(15,gF),(16,gF),(17,bF)] (B6 ha3 ha3 ha3 ha3 fF fF (A6 fF fF fF fF fF fF))) (by simp[ha3])
   refine yra ?_
   obtain rfl:=oi h
   exact er [(.p (.bool ((v16.2==v17.2)&&((v16.1==v17.1)&&((v18.2==v19.2)&&(v18.1==v19.1))))),4)]
  refine kG [dL 1 (eU .u8) a1,vP 19 85 v8,pB 21 v9.2,bR 22 v10.1,pI 26 v12.1,pB 177 v11.2] [] trivial ?_
  refine kI h (fun hc2_19 h=>?_) (fun hc2_19 h=>?_)
  ·obtain⟨v21,hv21,h⟩:=bs h
   refine kG [dL 1 (eU .u8) a1,vP 19 85 v8,pB 21 v9.2,bR 22 v10.1,pI 26 v12.1,vL 28 50 (eO 3 eI) v21.1,pB 29 v21.2] [(1,(cS [.d false (sP v8)] [rO 50 (eO 3 eI) v21.1,.p (.bool v21.2)]))] (A3 (show([.d false [.sl none (eraL (v8.map ePt))]]:List Arg)=[.d false (sP v8)] from(by simp only[erPt])) (ypv hv21) (show List.all [rO 50 (eO 3 eI) v21.1,.p (.bool v21.2)] simpleR=true from(sa_o (wnR1 (ysc (wn_O wn_I)) rfl) (sa_p rfl)))) ?_
   obtain⟨v22,hv22,h⟩:=bs h
   refine kG [dL 1 (eU .u8) a1,vP 19 85 v8,pB 21 v9.2,bR 22 v10.1,pI 26 v12.1,vL 28 50 (eO 3 eI) v21.1,pB 29 v21.2,vL 30 50 (eO 3 eI) v22.1,pB 31 v22.2] [(1,(cS [.d false (sP v8)] [rO 50 (eO 3 eI) v22.1,.p (.bool v22.2)]))] (A3 (show([.d false [.sl none (eraL (v8.map ePt))]]:List Arg)=[.d false (sP v8)] from(by simp only[erPt])) (yqv hv22) (show List.all [rO 50 (eO 3 eI) v22.1,.p (.bool v22.2)] simpleR=true from(sa_o (wnR1 (ysc (wn_O wn_I)) rfl) (sa_p rfl)))) ?_
   refine yib ?_
   obtain⟨w25,hw25,h⟩:=bs h
   refine ylb (l1:=[dL 1 (eU .u8) a1,vP 19 85 v8,pB 21 v9.2,bR 22 v10.1,pB 218 w25]) ?_ ?_
   ·clear h
    have q1:([.d false [.sl none (eraL (v21.1.map (eO 3 eI)))],.d false [.sl none (eraL (v22.1.map (eO 3 eI)))]]:List Arg)=[.d false [.sl none (v21.1.map (eF eI))],.d false [.sl none (v22.1.map (eF eI))]]:=(by simp only[ywa (h:=(eF eI)) (yhp1 er_I),ywa (h:=(eF eI)) (yhp1 er_I)])
    have q2:(v22.1.map (eO 3 eI)).length=v22.1.length:=(List.length_map ..)
    rcases ft (!v21.2) with ha4 | ha4
    ·replace hw25:=yon ha4 hw25
     have hw25:=oi hw25
     subst hw25
     exact(r_gq [dL 1 (eU .u8) a1,vP 19 85 v8,pB 21 v9.2,bR 22 v10.1,pB 218 true] [(3,gT),(4,gT),(5,bT),(7,gT),(8,gT),(9,gT),(10,gT),(11,bT),(13,gT),(14,gT),(15,bT),(17,gT),(18,gT),(19,gT),(20,gT),(21,bT),(23,gT),(24,gT),(29,gT),(30,bT)] (B6 ha4 ha4 ha4 tT tT tT (B6 tT tT tT tT tT tT (B6 tT tT tT tT tT tT (A2 tT tT)))))
    replace hw25:=ypn ha4 hw25
    rcases ft (!v22.2) with ha5 | ha5
    ·replace hw25:=yon ha5 hw25
     have hw25:=oi hw25
     subst hw25
     exact(r_gq [dL 1 (eU .u8) a1,vP 19 85 v8,pB 21 v9.2,bR 22 v10.1,pB 218 true] [(3,gF),(4,gF),(5,bF),(7,gT),(8,gT),(9,gT),(10,gT),(11,bT),(13,gT),(14,gT),(15,bT),(17,gT),(18,gT),(19,gT),(20,gT),(21,bT),(23,gT),(24,gT),(29,gT),(30,bT)] (B6 ha4 ha4 ha4 ha5 ha5 ha5 (B6 ha5 ha5 tT tT tT tT (B6 tT tT tT tT tT tT (A2 tT tT)))))
    obtain⟨v23,hv23,hw25⟩:=bs (ypn ha5 hw25)
    rcases ft (!v23) with ha6 | ha6
    ·replace hw25:=yon ha6 hw25
     have hw25:=oi hw25
     subst hw25
     exact(r_gq [dL 1 (eU .u8) a1,vP 19 85 v8,pB 21 v9.2,bR 22 v10.1,pB 218 true] [(3,gF),(4,gF),(5,bF),(7,gF),(8,gF),(9,(gC [.d false [.sl none (v21.1.map (eF eI))],.d false [.sl none (v22.1.map (eF eI))]] [.p (.bool v23)])),(10,gF),(11,bF),(13,gT),(14,gT),(15,bT),(17,gT),(18,gT),(19,gT),(20,gT),(21,bT),(23,gT),(24,gT),(29,gT),(30,bT)] (B6 ha4 ha4 ha4 ha5 ha5 ha5 (B6 q1 (yrd hv23) ha5 ha5 ha6 ha6 (B6 ha6 tT tT tT tT tT (A4 tT tT tT tT)))))
    replace hw25:=ypn ha6 hw25
    rcases ft (decide (v12.1<0)) with ha7 | ha7
    ·replace hw25:=yon ha7 hw25
     have hw25:=oi hw25
     subst hw25
     exact(r_gq [dL 1 (eU .u8) a1,vP 19 85 v8,pB 21 v9.2,bR 22 v10.1,pB 218 true] [(3,gF),(4,gF),(5,bF),(7,gF),(8,gF),(9,(gC [.d false [.sl none (v21.1.map (eF eI))],.d false [.sl none (v22.1.map (eF eI))]] [.p (.bool v23)])),(10,gF),(11,bF),(13,gF),(14,gF),(15,bF),(17,gT),(18,gT),(19,gT),(20,gT),(21,bT),(23,gT),(24,gT),(29,gT),(30,bT)] (B6 ha4 ha4 ha4 ha5 ha5 ha5 (B6 q1 (yrd hv23) ha5 ha5 ha6 ha6 (B6 ha6 ha7 ha7 ha7 ha7 ha7 (A4 tT tT tT tT)))))
    replace hw25:=ypn ha7 hw25
    rcases ft (decide (v12.1>(v22.1.length:Int))) with ha8 | ha8
    ·replace hw25:=yon ha8 hw25
     have hw25:=oi hw25
     subst hw25
     exact(r_gq [dL 1 (eU .u8) a1,vP 19 85 v8,pB 21 v9.2,bR 22 v10.1,pB 218 true] [(3,gF),(4,gF),(5,bF),(7,gF),(8,gF),(9,(gC [.d false [.sl none (v21.1.map (eF eI))],.d false [.sl none (v22.1.map (eF eI))]] [.p (.bool v23)])),(10,gF),(11,bF),(13,gF),(14,gF),(15,bF),(17,gF),(18,gF),(19,{g:=some false,n:=some v22.1.length}),(20,gF),(21,bF),(23,gT),(24,gT),(29,gT),(30,bT)] (B6 ha4 ha4 ha4 ha5 ha5 ha5 (B6 q1 (yrd hv23) ha5 ha5 ha6 ha6 (B6 ha6 ha7 ha7 ha7 q2 ha7 (A5 ha7 ha8 ha8 ha8 ha8)))))
    replace hw25:=ypn ha8 hw25
    rcases ft v9.2 with ha9 | ha9
    ·obtain⟨v24,hv24,hw25⟩:=bs (yon ha9 hw25)
     have hw25:=oi hw25
     subst hw25
     exact(r_gq [dL 1 (eU .u8) a1,vP 19 85 v8,pB 21 v9.2,bR 22 v10.1,pB 218 v24] [(3,gF),(4,gF),(5,bF),(7,gF),(8,gF),(9,(gC [.d false [.sl none (v21.1.map (eF eI))],.d false [.sl none (v22.1.map (eF eI))]] [.p (.bool v23)])),(10,gF),(11,bF),(13,gF),(14,gF),(15,bF),(17,gF),(18,gF),(19,{g:=some false,n:=some v22.1.length}),(20,gF),(21,bF),(23,gF),(24,gF),(25,gT),(26,gT),(27,gT),(28,{g:=some true,call:=some (none,[.p (.bool v24)],true)}),(29,gFbT),(30,bF)] (B6 ha4 ha4 ha4 ha5 ha5 ha5 (B6 q1 (yrd hv23) ha5 ha5 ha6 ha6 (B6 ha6 ha7 ha7 ha7 q2 ha7 (B6 ha7 ha8 ha8 ha9 ha9 ha9 (A5 ha9 (ylf1 hv24) ha8 ha9 ha8))))))
    replace hw25:=ypn ha9 hw25
    have hw25:=oi hw25
    subst hw25
    exact(r_gq [dL 1 (eU .u8) a1,vP 19 85 v8,pB 21 v9.2,bR 22 v10.1,pB 218 false] [(3,gF),(4,gF),(5,bF),(7,gF),(8,gF),(9,(gC [.d false [.sl none (v21.1.map (eF eI))],.d false [.sl none (v22.1.map (eF eI))]] [.p (.bool v23)])),(10,gF),(11,bF),(13,gF),(14,gF),(15,bF),(17,gF),(18,gF),(19,{g:=some false,n:=some v22.1.length}),(20,gF),(21,bF),(23,gF),(24,gF),(25,gF),(26,gF),(27,gF),(28,gF),(29,gFbF),(30,bF)] (B6 ha4 ha4 ha4 ha5 ha5 ha5 (B6 q1 (yrd hv23) ha5 ha5 ha6 ha6 (B6 ha6 ha7 ha7 ha7 q2 ha7 (B6 ha7 ha8 ha8 ha9 ha9 ha9 (A4 ha9 ha8 ha9 ha8))))))
   refine kI h (fun hc3_25 h=>?_) (fun hc3_25 h=>?_)
   ·refine kG [pB 4 false] [] trivial ?_
    refine yra (q_r (q_r ?_))
    obtain rfl:=oi h
    exact er [(.p (.bool false),4)]
   refine yia (q_n ?_)
   obtain⟨v27,hv27,h⟩:=bs h
   refine kG [dL 1 (eU .u8) a1,vP 19 85 v8,pB 21 v9.2,bR 22 v10.1,pB 32 v27.1,pB 33 v27.2] [(1,(cS [.d false (sP v8)] [.p (.bool v27.1),.p (.bool v27.2)]))] (A2 (show([.d false [.sl none (eraL (v8.map ePt))]]:List Arg)=[.d false (sP v8)] from(by simp only[erPt])) (yns hv27)) ?_
   refine yib (kG [dL 1 (eU .u8) a1,vP 19 85 v8,pB 21 v9.2,bR 22 v10.1,pB 32 v27.1,pB 225 (!v27.2)] [] trivial ?_)
   refine kI h (fun hc3_27 h=>?_) (fun hc3_27 h=>?_)
   ·refine kG [pB 4 false] [] trivial ?_
    refine yra (q_r (q_r ?_))
    obtain rfl:=oi h
    exact er [(.p (.bool false),4)]
   refine yia (q_n ?_)
   obtain⟨v29,hv29,h⟩:=bs h
   refine kG [dL 1 (eU .u8) a1,vP 19 85 v8,pB 21 v9.2,bR 22 v10.1,pB 32 v27.1,bR 34 v29.1,pB 35 v29.2] [(1,(cS [.d false (sP v8),wI 1] [.p (vRt v29.1),.p (.bool v29.2)]))] (A2 (show([.d false [.sl none (eraL (v8.map ePt))],wI 1]:List Arg)=[.d false (sP v8),wI 1] from(by simp only[erPt])) (ywp hv29)) ?_
   obtain⟨v30,hv30,h⟩:=bs h
   refine kG [dL 1 (eU .u8) a1,pB 21 v9.2,bR 22 v10.1,pB 32 v27.1,bR 34 v29.1,pB 35 v29.2,bR 36 v30.1,pB 37 v30.2] [(1,(cS [.d false (sP v8),wI 1] [.p (vRt v30.1),.p (.bool v30.2)]))] (A2 (show([.d false [.sl none (eraL (v8.map ePt))],wI 1]:List Arg)=[.d false (sP v8),wI 1] from(by simp only[erPt])) (yxp hv30)) ?_
   refine ylb (l1:=[dL 1 (eU .u8) a1,pB 258 ((!(v29.2==v30.2))||((nR v29.1 v30.1)||(v30.2&&((!v27.1)||(v9.2&&(nR v30.1 v10.1))))))]) ?_ ?_
   ·rcases ft (!(v29.2==v30.2)) with ha6 | ha6
    ·exact RegOk.of_eq (r_gq [dL 1 (eU .u8) a1,pB 258 true] [(4,gT),(5,gT),(6,gT),(7,bT),(9,gT),(10,gT),(21,gT),(22,bT)] (B6 ha6 ha6 ha6 ha6 tT tT (A2 tT tT))) (by simp[ha6])
    rcases ft (nR v29.1 v30.1) with ha7 | ha7
    ·exact RegOk.of_eq (r_gq [dL 1 (eU .u8) a1,pB 258 true] [(4,gF),(5,gF),(6,(hB (nR v29.1 v30.1))),(7,bF),(9,gT),(10,gT),(21,gT),(22,bT)] (B6 ha6 ha6 ha6 (show PureAt Tryz.prog (.binOp .neq 27 (.tmp 240) (.tmp 241) 27) [vRt v29.1,vRt v30.1] (.bool (nR v29.1 v30.1)) from(yji (by kernel_rfl))) ha6 ha7 (A3 ha7 ha7 ha7))) (by simp[ha6,ha7])
    rcases ft v30.2 with ha8 | ha8
    ·rcases ft (!v27.1) with ha9 | ha9
     ·exact RegOk.of_eq (r_gq [dL 1 (eU .u8) a1,pB 258 true] [(4,gF),(5,gF),(6,(hB (nR v29.1 v30.1))),(7,bF),(9,gF),(10,gF),(11,gT),(12,gT),(13,gT),(14,gT),(15,gT),(19,gT),(20,{g:=some true,b:=some true}),(21,gFbT),(22,bF)] (B6 ha6 ha6 ha6 (show PureAt Tryz.prog (.binOp .neq 27 (.tmp 240) (.tmp 241) 27) [vRt v29.1,vRt v30.1] (.bool (nR v29.1 v30.1)) from(yji (by kernel_rfl))) ha6 ha7 (B6 ha7 ha8 ha8 ha8 ha9 ha9 (A6 ha9 ha8 ha9 ha7 ha8 ha7)))) (by(try rw[ha6]);(try rw[ha7]);(try rw[ha8]);(try rw[ha9]);all_goals (first | rfl | simp[ha6,ha7,ha8,ha9]))
     rcases ft v9.2 with ha10 | ha10
     ·exact RegOk.of_eq (r_gq [dL 1 (eU .u8) a1,pB 258 (nR v30.1 v10.1)] [(4,gF),(5,gF),(6,(hB (nR v29.1 v30.1))),(7,bF),(9,gF),(10,gF),(11,gT),(12,gT),(13,gT),(14,gF),(15,gF),(16,gT),(17,gT),(18,{g:=some true,pv:=some (.bool (nR v30.1 v10.1))}),(19,gFbT),(20,{g:=some true,b:=some false}),(21,gFbT),(22,bF)] (B6 ha6 ha6 ha6 (show PureAt Tryz.prog (.binOp .neq 27 (.tmp 240) (.tmp 241) 27) [vRt v29.1,vRt v30.1] (.bool (nR v29.1 v30.1)) from(yji (by kernel_rfl))) ha6 ha7 (B6 ha7 ha8 ha8 ha8 ha9 ha9 (B6 ha10 ha10 ha10 (show PureAt Tryz.prog (.binOp .neq 27 (.tmp 252) (.tmp 253) 27) [vRt v30.1,vRt v10.1] (.bool (nR v30.1 v10.1)) from(yji (by kernel_rfl))) ha9 ha10 (A5 ha8 ha9 ha7 ha8 ha7))))) (by(try rw[ha6]);(try rw[ha7]);(try rw[ha8]);(try rw[ha9]);(try rw[ha10]);all_goals (first | rfl | simp[ha6,ha7,ha8,ha9,ha10]))
     exact RegOk.of_eq (r_gq [dL 1 (eU .u8) a1,pB 258 false] [(4,gF),(5,gF),(6,(hB (nR v29.1 v30.1))),(7,bF),(9,gF),(10,gF),(11,gT),(12,gT),(13,gT),(14,gF),(15,gF),(16,gF),(17,gF),(18,gF),(19,gFbF),(20,{g:=some true,b:=some false}),(21,gFbT),(22,bF)] (B6 ha6 ha6 ha6 (show PureAt Tryz.prog (.binOp .neq 27 (.tmp 240) (.tmp 241) 27) [vRt v29.1,vRt v30.1] (.bool (nR v29.1 v30.1)) from(yji (by kernel_rfl))) ha6 ha7 (B6 ha7 ha8 ha8 ha8 ha9 ha9 (B6 ha10 ha10 ha10 ha9 ha10 ha8 (A4 ha9 ha7 ha8 ha7))))) (by(try rw[ha6]);(try rw[ha7]);(try rw[ha8]);(try rw[ha9]);(try rw[ha10]);all_goals (first | rfl | simp[ha6,ha7,ha8,ha9,ha10]))
    exact RegOk.of_eq (r_gq [dL 1 (eU .u8) a1,pB 258 false] [(4,gF),(5,gF),(6,(hB (nR v29.1 v30.1))),(7,bF),(9,gF),(10,gF),(11,gF),(12,gF),(13,gF),(20,gF),(21,gFbF),(22,bF)] (B6 ha6 ha6 ha6 (show PureAt Tryz.prog (.binOp .neq 27 (.tmp 240) (.tmp 241) 27) [vRt v29.1,vRt v30.1] (.bool (nR v29.1 v30.1)) from(yji (by kernel_rfl))) ha6 ha7 (B6 ha7 ha8 ha8 ha8 ha8 ha7 (A2 ha8 ha7)))) (by(try rw[ha6]);(try rw[ha7]);(try rw[ha8]);all_goals (first | rfl | simp[ha6,ha7,ha8]))
   refine kI h (fun hc2_30 h=>?_) (fun hc2_30 h=>?_)
   ·refine kG [pB 4 false] [] trivial ?_
    refine yra (q_r ?_)
    obtain rfl:=oi h
    exact er [(.p (.bool false),4)]
   refine yia (q_n ?_)
   exact jx () h
  refine yia (q_n ?_)
  exact jx () h
 refine ylb (l1:=[dL 1 (eU .u8) a1,vP 5 85 v3.1,pI 6 v3.2,pI 9 v5.1,pB 79 (v4.2&&(decide (v3.2<=3)))]) ?_ ?_
 ·rcases ft v4.2 with ha2 | ha2
  ·exact RegOk.of_eq (r_gq [dL 1 (eU .u8) a1,vP 5 85 v3.1,pI 6 v3.2,pI 9 v5.1,pB 79 (decide (v3.2<=3))] [(2,gT),(3,gT),(4,bT)] (A3 ha2 ha2 ha2)) (by simp[ha2])
  exact RegOk.of_eq (r_gq [dL 1 (eU .u8) a1,vP 5 85 v3.1,pI 6 v3.2,pI 9 v5.1,pB 79 false] [(2,gF),(3,gF),(4,bF)] (A3 ha2 ha2 ha2)) (by simp[ha2])
 refine kI h (fun hc2_31 h=>?_) (fun hc2_31 h=>?_)
 ·obtain⟨v33,hv33,h⟩:=bs h
  refine kG [dL 1 (eU .u8) a1,vP 5 85 v3.1,pI 6 v3.2,pI 9 v5.1,vP 11 85 v33.1,pB 12 v33.2] [(2,(cS [.d false (sP v3.1),wI v3.2] [.ov false (oP 85 v33.1),.p (.bool v33.2)]))] (A3 (show([.d false [.sl none (eraL (v3.1.map ePt))],wI v3.2]:List Arg)=[.d false (sP v3.1),wI v3.2] from(by simp only[erPt])) (ydx hv33) (show List.all [.ov false (oP 85 v33.1),.p (.bool v33.2)] simpleR=true from(sa_o (wnR1 (ysc (wn_P (wn_P wn_I wn_I) (wn_P wn_I wn_I))) rfl) (sa_p rfl)))) ?_
  obtain⟨v34,hv34,h⟩:=bs h
  refine kG [dL 1 (eU .u8) a1,pI 9 v5.1,vP 11 85 v33.1,pB 12 v33.2,vP 13 85 v34.1,pB 14 v34.2] [(2,(cS [.d false (sP v3.1),wI v3.2] [.ov false (oP 85 v34.1),.p (.bool v34.2)]))] (A3 (show([.d false [.sl none (eraL (v3.1.map ePt))],wI v3.2]:List Arg)=[.d false (sP v3.1),wI v3.2] from(by simp only[erPt])) (yex hv34) (show List.all [.ov false (oP 85 v34.1),.p (.bool v34.2)] simpleR=true from(sa_o (wnR1 (ysc (wn_P (wn_P wn_I wn_I) (wn_P wn_I wn_I))) rfl) (sa_p rfl)))) ?_
  refine yib ?_
  obtain⟨w36,hw36,h⟩:=bs h
  refine ylb (l1:=[dL 1 (eU .u8) a1,pI 9 v5.1,vP 11 85 v33.1,pB 12 v33.2,vP 13 85 v34.1,pB 100 w36]) ?_ ?_
  ·clear h
   rcases ft (!(v33.2==v34.2)) with ha3 | ha3
   ·replace hw36:=yon ha3 hw36
    have hw36:=oi hw36
    subst hw36
    exact(r_gq [dL 1 (eU .u8) a1,pI 9 v5.1,vP 11 85 v33.1,pB 12 v33.2,vP 13 85 v34.1,pB 100 true] [(4,gT),(5,gT),(6,gT),(7,gT),(8,bT)] (A5 ha3 ha3 ha3 ha3 ha3))
   obtain⟨v35,hv35,hw36⟩:=bs (ypn ha3 hw36)
   have hw36:=oi hw36
   subst hw36
   exact(r_gq [dL 1 (eU .u8) a1,pI 9 v5.1,vP 11 85 v33.1,pB 12 v33.2,vP 13 85 v34.1,pB 100 (!v35)] [(4,gF),(5,gF),(6,(gC [.d false (sP v33.1),.d false (sP v34.1)] [.p (.bool v35)])),(7,gF),(8,bF)] (B6 ha3 ha3 ha3 (show([.d false [.sl none (eraL (v33.1.map ePt))],.d false [.sl none (eraL (v34.1.map ePt))]]:List Arg)=[.d false (sP v33.1),.d false (sP v34.1)] from(by simp only[ywa (h:=ePt) (yyx (yyx er_I er_I) (yyx er_I er_I)),ywa (h:=ePt) (yyx (yyx er_I er_I) (yyx er_I er_I))])) (yha1 hv35) ha3 (A1 ha3)))
  refine kI h (fun hc3_36 h=>?_) (fun hc3_36 h=>?_)
  ·refine kG [pB 4 false] [] trivial ?_
   refine yra (q_r (q_r ?_))
   obtain rfl:=oi h
   exact er [(.p (.bool false),4)]
  refine yia (q_n (kG [dL 1 (eU .u8) a1,pI 9 v5.1,vP 11 85 v33.1,vP 13 85 v34.1,pB 101 v33.2] [] trivial ?_))
  refine kI h (fun hc2_37 h=>?_) (fun hc2_37 h=>?_)
  ·obtain⟨v39,hv39,h⟩:=bs h
   refine kG [dL 1 (eU .u8) a1,pI 9 v5.1,vP 13 85 v34.1,vL 15 50 (eO 3 eI) v39.1,pB 16 v39.2] [(1,(cS [.d false (sP v33.1)] [rO 50 (eO 3 eI) v39.1,.p (.bool v39.2)]))] (A3 (show([.d false [.sl none (eraL (v33.1.map ePt))]]:List Arg)=[.d false (sP v33.1)] from(by simp only[erPt])) (ypv hv39) (show List.all [rO 50 (eO 3 eI) v39.1,.p (.bool v39.2)] simpleR=true from(sa_o (wnR1 (ysc (wn_O wn_I)) rfl) (sa_p rfl)))) ?_
   obtain⟨v40,hv40,h⟩:=bs h
   refine kG [dL 1 (eU .u8) a1,pI 9 v5.1,vL 15 50 (eO 3 eI) v39.1,pB 16 v39.2,vL 17 50 (eO 3 eI) v40.1,pB 18 v40.2] [(1,(cS [.d false (sP v34.1)] [rO 50 (eO 3 eI) v40.1,.p (.bool v40.2)]))] (A3 (show([.d false [.sl none (eraL (v34.1.map ePt))]]:List Arg)=[.d false (sP v34.1)] from(by simp only[erPt])) (yqv hv40) (show List.all [rO 50 (eO 3 eI) v40.1,.p (.bool v40.2)] simpleR=true from(sa_o (wnR1 (ysc (wn_O wn_I)) rfl) (sa_p rfl)))) ?_
   obtain⟨w42,hw42,h⟩:=bs h
   refine ylb (l1:=[dL 1 (eU .u8) a1,pB 129 w42]) ?_ ?_
   ·clear h
    rcases ft (!v39.2) with ha5 | ha5
    ·replace hw42:=yon ha5 hw42
     have hw42:=oi hw42
     subst hw42
     exact(r_gq [dL 1 (eU .u8) a1,pB 129 true] [(3,gT),(4,gT),(5,bT),(7,gT),(8,gT),(9,gT),(10,gT),(11,bT),(13,gT),(14,gT),(15,gT),(16,gT),(17,bT)] (B6 ha5 ha5 ha5 tT tT tT (B6 tT tT tT tT tT tT (A1 tT))))
    replace hw42:=ypn ha5 hw42
    rcases ft (!v40.2) with ha6 | ha6
    ·replace hw42:=yon ha6 hw42
     have hw42:=oi hw42
     subst hw42
     exact(r_gq [dL 1 (eU .u8) a1,pB 129 true] [(3,gF),(4,gF),(5,bF),(7,gT),(8,gT),(9,gT),(10,gT),(11,bT),(13,gT),(14,gT),(15,gT),(16,gT),(17,bT)] (B6 ha5 ha5 ha5 ha6 ha6 ha6 (B6 ha6 ha6 tT tT tT tT (A1 tT))))
    obtain⟨v41,hv41,hw42⟩:=bs (ypn ha6 hw42)
    rcases ft (!v41) with ha7 | ha7
    ·replace hw42:=yon ha7 hw42
     have hw42:=oi hw42
     subst hw42
     exact(r_gq [dL 1 (eU .u8) a1,pB 129 true] [(3,gF),(4,gF),(5,bF),(7,gF),(8,gF),(9,(gC [.d false [.sl none (v39.1.map (eF eI))],.d false [.sl none (v40.1.map (eF eI))]] [.p (.bool v41)])),(10,gF),(11,bF),(13,gT),(14,gT),(15,gT),(16,gT),(17,bT)] (B6 ha5 ha5 ha5 ha6 ha6 ha6 (B6 (show([.d false [.sl none (eraL (v39.1.map (eO 3 eI)))],.d false [.sl none (eraL (v40.1.map (eO 3 eI)))]]:List Arg)=[.d false [.sl none (v39.1.map (eF eI))],.d false [.sl none (v40.1.map (eF eI))]] from(by simp only[ywa (h:=(eF eI)) (yhp1 er_I),ywa (h:=(eF eI)) (yhp1 er_I)])) (yrd hv41) ha6 ha6 ha7 ha7 (A3 ha7 ha7 ha7))))
    replace hw42:=ypn ha7 hw42
    have hw42:=oi hw42
    subst hw42
    exact(r_gq [dL 1 (eU .u8) a1,pB 129 ((v40.1.length:Int) != v5.1)] [(3,gF),(4,gF),(5,bF),(7,gF),(8,gF),(9,(gC [.d false [.sl none (v39.1.map (eF eI))],.d false [.sl none (v40.1.map (eF eI))]] [.p (.bool v41)])),(10,gF),(11,bF),(13,gF),(14,{g:=some false,n:=some v40.1.length}),(15,gF),(16,gF),(17,bF)] (B6 ha5 ha5 ha5 ha6 ha6 ha6 (B6 (show([.d false [.sl none (eraL (v39.1.map (eO 3 eI)))],.d false [.sl none (eraL (v40.1.map (eO 3 eI)))]]:List Arg)=[.d false [.sl none (v39.1.map (eF eI))],.d false [.sl none (v40.1.map (eF eI))]] from(by simp only[ywa (h:=(eF eI)) (yhp1 er_I),ywa (h:=(eF eI)) (yhp1 er_I)])) (yrd hv41) ha6 ha6 ha7 ha7 (A4 (lF (eO 3 eI) v40.1) ha7 ha7 ha7))))
   refine kI h (fun hc2_42 h=>?_) (fun hc2_42 h=>?_)
   ·refine kG [pB 4 false] [] trivial ?_
    refine yra (q_r ?_)
    obtain rfl:=oi h
    exact er [(.p (.bool false),4)]
   refine yia (q_n ?_)
   exact jx () h
  refine yia (q_n ?_)
  exact jx () h
 refine yia (q_n ?_)
 exact jx () h
end Go.PV

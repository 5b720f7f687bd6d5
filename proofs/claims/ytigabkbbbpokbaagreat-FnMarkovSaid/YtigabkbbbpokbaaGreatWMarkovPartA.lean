/-
  Walks through the functions that the law reaches: each answers as its plain definition does.
  Conditions: none.
-/
import Derived.KernelRfl
import Derived.Test.YtigabkbbbpokbaaGreatDf
import Derived.Test.YtigabkbbbpokbaaGreatProg
import Derived.Test.YtigabkbbbpokbaaGreatSrtYtigabkbbbpokbaaGreat
import Derived.Test.YtigabkbbbpokbaaGreatGrwYtigabkbbbpokbaaGreat
import Derived.Test.YtigabkbbbpokbaaGreatPvCx
open Go Go.PV Go.Proofs
set_option linter.all false
namespace Go.PV
attribute [local irreducible] pvC pvL pvD sOp seqQ blockQ Meets MeetsB Ok OkL RegOk agree endQ seqL blockL loopQ endL endLB OkV Takes
theorem yfa:Tryz.prog.follows .mixedOrders=true:=by kernel_rfl
theorem yhs1:Tryz.prog.underlying 5=some (.int .u8):=by kernel_rfl
theorem yvf1:Tryz.prog.underlying 3=some (.int .i64):=by kernel_rfl
theorem ywh1:Tryz.prog.underlying 84=some (.int .u64):=by kernel_rfl
theorem yqm1 {a0:(List Int)} {a1:(List Int)}  {r:Bool} (h:yqg1 a0 a1=some r):Meets Tryz.prog 5 [.d false [.sl none (a0.map (eU .u8))],.d false [.sl none (a1.map (eU .u8))]] { vals:=[.p (.bool r)] }:=by
 refine mo Tryz.func5 [dL 0 (eU .u8) a0,dL 1 (eU .u8) a1] ?_
 unfold yqg1 at h
 refine kG [dL 0 (eU .u8) a0,dL 1 (eU .u8) a1] [] trivial ?_
 refine ynb (l1:=[pB 4 ((decide ((a0.length:Int)>1048576))||(decide ((a1.length:Int)>(w64 (1048576-(a0.length:Int))))))]) ?_ ?_
 ·rcases ft (decide ((a0.length:Int)>1048576)) with ha0 | ha0
  ·exact RegOk.of_eq (r_gq [pB 4 true] [hN 1 a0,(4,gT),(5,gT),(6,gT),(7,gT),(8,gT),(9,gT),(10,bT)] (B6 (lF (eU .u8) a0) ha0 ha0 ha0 ha0 ha0 (A2 ha0 ha0))) (by simp[ha0])
  exact RegOk.of_eq (r_gq [pB 4 (decide ((a1.length:Int)>(w64 (1048576-(a0.length:Int)))))] [hN 1 a0,(4,gF),(5,{g:=some false,n:=some a1.length}),(6,gF),(7,{g:=some false,n:=some a0.length}),(8,gF),(9,gF),(10,bF)] (B6 (lF (eU .u8) a0) ha0 ha0 (lF (eU .u8) a1) ha0 ha0 (A4 (lF (eU .u8) a0) ha0 ha0 ha0))) (by simp[ha0])
 refine ypa ?_
 obtain rfl:=oi h
 exact er [(.p (.bool ((decide ((a0.length:Int)>1048576))||(decide ((a1.length:Int)>(w64 (1048576-(a0.length:Int))))))),4)]
theorem yws {a0:Cu}  {r:(Int×Cu)} (h:yli a0=some r):MeetsB Tryz.prog 183 (.box (eCu a0)) [] [.p (iV r.1)] (.box (eCu r.2)):=by
 refine mob Tryz.func183 [bC 0 a0] ?_
 unfold yli at h
 refine kG [bC 0 a0] [] trivial ?_
 refine kG [bC 0 a0,pI 3 0] [] trivial ?_
 refine yjb (J:=fun (x:Int)=>[bC 0 a0,pI 3 x]) (K:=fun x=>yme a0 x=some r) (fun x1 h=>?_) ?_
 ·unfold yme at h
  refine kG [bX 0 [.sl none (a0.1.map (eU .u8)),rI (w64 (a0.2.1+1)),.raw (.int .u64 a0.2.2)],pI 3 x1] [] trivial ?_
  refine kG [bX 0 [.sl none (a0.1.map (eU .u8)),rI (w64 (a0.2.1+1)),.raw (.int .u64 (IntKind.wrap .u64 ((IntKind.wrap .u64 ((IntKind.wrap .u64 (a0.2.2*6364136223846793005))+(IntKind.wrap .u64 x1)))+1442695040888963407)))],pI 3 x1] [(7,{pv:=some (.int .u64 (IntKind.wrap .u64 x1))})] (A1 (show PureAt Tryz.prog (.convert 3 84 (.tmp 38)) [.int .i64 x1] (.int .u64 (IntKind.wrap .u64 x1)) from(ysf1 yvf1 ywh1))) ?_
  refine yeb (ynb (r_dq yfa 9 [] [bX 0 [.sl none (a0.1.map (eU .u8)),rI (w64 (a0.2.1+1)),.raw (.int .u64 (IntKind.wrap .u64 ((IntKind.wrap .u64 ((IntKind.wrap .u64 (a0.2.2*6364136223846793005))+(IntKind.wrap .u64 x1)))+1442695040888963407)))],pI 3 x1,pB 53 (decide ((w64 (a0.2.1+1))<=(a0.1.length:Int)))] [(7,bT),hN 8 a0.1] (A2 (show frR [.sl none (a0.1.map (eU .u8))]=true from(frR1 (ykl1 (fr_U .u8)) rfl)) (lF (eU .u8) a0.1))) ?_)
  refine kI h (fun hc2_1 h=>?_) (fun hc2_1 h=>?_)
  ·refine kG [bX 0 [.sl none (a0.1.map (eU .u8)),rI (w64 (a0.2.1+1)),.raw (.int .u64 (IntKind.wrap .u64 ((IntKind.wrap .u64 ((IntKind.wrap .u64 (a0.2.2*6364136223846793005))+(IntKind.wrap .u64 x1)))+1442695040888963407)))],pI 2 x1] [] trivial ?_
   refine ypa (q_r ?_)
   obtain rfl:=oi h
   exact ebr [(.p (iV x1),2)]
  refine yga (q_n (kG [bX 0 [.sl none (a0.1.map (eU .u8)),rI (w64 (a0.2.1+1)),.raw (.int .u64 (IntKind.wrap .u64 ((IntKind.wrap .u64 ((IntKind.wrap .u64 (a0.2.2*6364136223846793005))+(IntKind.wrap .u64 x1)))+1442695040888963407)))],pI 2 (IntKind.wrap .i64 (iand .u64 (ishr .u64 (IntKind.wrap .u64 ((IntKind.wrap .u64 ((IntKind.wrap .u64 (a0.2.2*6364136223846793005))+(IntKind.wrap .u64 x1)))+1442695040888963407)) 40) 255))] [(4,{pv:=some (.int .u64 (ishr .u64 (IntKind.wrap .u64 ((IntKind.wrap .u64 ((IntKind.wrap .u64 (a0.2.2*6364136223846793005))+(IntKind.wrap .u64 x1)))+1442695040888963407)) 40))}),(5,{pv:=some (.int .u64 (iand .u64 (ishr .u64 (IntKind.wrap .u64 ((IntKind.wrap .u64 ((IntKind.wrap .u64 (a0.2.2*6364136223846793005))+(IntKind.wrap .u64 x1)))+1442695040888963407)) 40) 255))}),(6,{pv:=some (iV (IntKind.wrap .i64 (iand .u64 (ishr .u64 (IntKind.wrap .u64 ((IntKind.wrap .u64 ((IntKind.wrap .u64 (a0.2.2*6364136223846793005))+(IntKind.wrap .u64 x1)))+1442695040888963407)) 40) 255)))})] (A3 (show PureAt Tryz.prog (.binOp .shr 84 (.tmp 58) (.const (.int .u64 40)) 165) [.int .u64 (IntKind.wrap .u64 ((IntKind.wrap .u64 ((IntKind.wrap .u64 (a0.2.2*6364136223846793005))+(IntKind.wrap .u64 x1)))+1442695040888963407)),.int .u64 40] (.int .u64 (ishr .u64 (IntKind.wrap .u64 ((IntKind.wrap .u64 ((IntKind.wrap .u64 (a0.2.2*6364136223846793005))+(IntKind.wrap .u64 x1)))+1442695040888963407)) 40)) from(yqv1 (by decide))) (show PureAt Tryz.prog (.binOp .and 84 (.tmp 59) (.const (.int .u64 255)) 84) [.int .u64 (ishr .u64 (IntKind.wrap .u64 ((IntKind.wrap .u64 ((IntKind.wrap .u64 (a0.2.2*6364136223846793005))+(IntKind.wrap .u64 x1)))+1442695040888963407)) 40),.int .u64 255] (.int .u64 (iand .u64 (ishr .u64 (IntKind.wrap .u64 ((IntKind.wrap .u64 ((IntKind.wrap .u64 (a0.2.2*6364136223846793005))+(IntKind.wrap .u64 x1)))+1442695040888963407)) 40) 255)) from(ypv1)) (show PureAt Tryz.prog (.convert 84 3 (.tmp 60)) [.int .u64 (iand .u64 (ishr .u64 (IntKind.wrap .u64 ((IntKind.wrap .u64 ((IntKind.wrap .u64 (a0.2.2*6364136223846793005))+(IntKind.wrap .u64 x1)))+1442695040888963407)) 40) 255)] (iV (IntKind.wrap .i64 (iand .u64 (ishr .u64 (IntKind.wrap .u64 ((IntKind.wrap .u64 ((IntKind.wrap .u64 (a0.2.2*6364136223846793005))+(IntKind.wrap .u64 x1)))+1442695040888963407)) 40) 255))) from(ysf1 ywh1 yvf1))) ?_))
  refine ypa ?_
  obtain rfl:=oi h
  exact ebr [(.p (iV (IntKind.wrap .i64 (iand .u64 (ishr .u64 (IntKind.wrap .u64 ((IntKind.wrap .u64 ((IntKind.wrap .u64 (a0.2.2*6364136223846793005))+(IntKind.wrap .u64 x1)))+1442695040888963407)) 40) 255))),2)]
 refine ynb (r_dq yfa 9 [] [bC 0 a0,pI 3 0,pB 13 (decide (a0.2.1<(a0.1.length:Int)))] [(7,bT),hN 8 a0.1] (A2 (show frR [.sl none (a0.1.map (eU .u8))]=true from(frR1 (ykl1 (fr_U .u8)) rfl)) (lF (eU .u8) a0.1))) ?_
 refine kI h (fun hc2_2 h=>?_) (fun hc2_2 h=>?_)
 ·obtain⟨v4,hv4,h⟩:=bs h
  refine yhc (r_dq yfa 8 [] [bC 0 a0,pI 3 (IntKind.wrap .i64 v4)] [(3,bT),hR 8 [.raw (.int .u8 v4)],(10,{pv:=some (iV (IntKind.wrap .i64 v4))})] (A4 (show frR [.sl none (a0.1.map (eU .u8))]=true from(frR1 (ykl1 (fr_U .u8)) rfl)) (yba hv4).1 (yca (eU .u8) (yba hv4).2) (show PureAt Tryz.prog (.convert 5 3 (.tmp 23)) [.int .u8 v4] (iV (IntKind.wrap .i64 v4)) from(ysf1 yhs1 yvf1)))) ?_
  refine q_n ?_
  exact jx (IntKind.wrap .i64 v4) h
 refine yga (q_n ?_)
 exact jx 0 h
theorem yja {a0:Cu} {a1:Int}  {r:(Int×Cu)} (h:yla a0 a1=some r):MeetsB Tryz.prog 130 (.box (eCu a0)) [wI a1] [.p (iV r.1)] (.box (eCu r.2)):=by
 refine mob Tryz.func130 [bC 0 a0,pI 1 a1] ?_
 unfold yla at h
 refine kG [bC 0 a0,pI 1 a1] [] trivial ?_
 refine yeb (kG [bC 0 a0,pI 1 a1,pB 7 (decide (a1<=1))] [] trivial ?_)
 refine kI h (fun hc2_0 h=>?_) (fun hc2_0 h=>?_)
 ·refine kG [bC 0 a0,pI 4 0] [] trivial ?_
  refine ypa (q_r ?_)
  obtain rfl:=oi h
  exact ebr [(.p (iV 0),4)]
 refine yga (q_n ?_)
 obtain⟨v2,hv2,h⟩:=bs h
 refine kG [bC 0 v2.2,pI 1 a1,pI 5 v2.1] [hF 1 [.p (iV v2.1)] (.box (eCu v2.2))] (A1 (yws hv2)) ?_
 refine yjb (J:=fun (x:((List Int)×Int×Int×Int))=>[bC 0 (x.1,x.2.1,x.2.2.1),pI 1 a1,pI 5 x.2.2.2]) (K:=fun x=>yne a1 x=some r) (fun x3 h=>?_) ?_
 ·unfold yne at h
  obtain⟨u4,hu4,h⟩:=bs h
  refine kG [bC 0 (x3.1,x3.2.1,x3.2.2.1),pI 4 (Int.tmod x3.2.2.2 a1)] [] (A1 (ysa hu4)) ?_
  refine ypa ?_
  obtain rfl:=oi h
  exact ebr [(.p (iV (Int.tmod x3.2.2.2 a1)),4)]
 refine kG [bC 0 v2.2,pI 1 a1,pI 5 v2.1,pB 11 (decide (a1>200))] [] trivial ?_
 refine kI h (fun hc2_4 h=>?_) (fun hc2_4 h=>?_)
 ·obtain⟨v6,hv6,h⟩:=bs h
  refine yhc (r_gq [bC 0 v6.2,pI 1 a1,pI 5 (w64 ((w64 (v2.1*256))+v6.1))] [hF 3 [.p (iV v6.1)] (.box (eCu v6.2))] (A1 (yws hv6))) ?_
  refine q_n ?_
  exact jx (v6.2.1,v6.2.2.1,v6.2.2.2,(w64 ((w64 (v2.1*256))+v6.1))) h
 refine yga (q_n ?_)
 exact jx (v2.2.1,v2.2.2.1,v2.2.2.2,v2.1) h
theorem ytb {a0:Cu} {a1:Int}  {r:(Bool×Cu)} (h:ysb a0 a1=some r):MeetsB Tryz.prog 67 (.box (eCu a0)) [wI a1] [.p (.bool r.1)] (.box (eCu r.2)):=by
 refine mob Tryz.func67 [bC 0 a0,pI 1 a1] ?_
 unfold ysb at h
 refine kG [bC 0 a0,pI 1 a1] [] trivial ?_
 obtain⟨v1,hv1,h⟩:=bs h
 refine kG [bC 0 v1.2,pB 4 (v1.1==0)] [hF 2 [.p (iV v1.1)] (.box (eCu v1.2))] (A1 (yja hv1)) ?_
 refine ypa ?_
 obtain rfl:=oi h
 exact ebr [(.p (.bool (v1.1==0)),4)]
theorem yna {a0:Cu} {a1:(List Int)}  {r:(Int×Cu)} (h:yoa a0 a1=some r):MeetsB Tryz.prog 68 (.box (eCu a0)) [.d false [.sl none (a1.map eI)]] [.p (iV r.1)] (.box (eCu r.2)):=by
 refine mob Tryz.func68 [bC 0 a0,dL 1 eI a1] ?_
 unfold yoa at h
 refine kG [bC 0 a0,dL 1 eI a1] [] trivial ?_
 obtain⟨v1,hv1,h⟩:=bs h
 obtain⟨v2,hv2,h⟩:=bs h
 refine kG [bC 0 v1.2,pI 4 v2] [hN 3 a1,hF 4 [.p (iV v1.1)] (.box (eCu v1.2)),hR 5 (eI v2)] (A4 (lF eI a1) (yja hv1) (yba hv2).1 (yca eI (yba hv2).2)) ?_
 refine ypa ?_
 obtain rfl:=oi h
 exact ebr [(.p (iV v2),4)]
theorem yhb {a0:Int}  {r:Qr} (h:ykb a0=some r):Meets Tryz.prog 70 [wI a0] { vals:=[.p (vRt r)] }:=by
 refine mo Tryz.func70 [pI 0 a0] ?_
 unfold ykb at h
 refine kG [pI 0 a0,bX 2 zR] [] trivial ?_
 refine kG [bX 2 [rI a0,rI 1]] [] trivial ?_
 refine ypa ?_
 obtain rfl:=oi h
 exact er [(.p (.agg #[.int .i64 a0,.int .i64 1]),2)]
theorem yqx {a0:Int} {a1:Int}  {r:Int} (h:yco a0 a1=some r):Meets Tryz.prog 162 [wI a0,wI a1] { vals:=[.p (iV r)] }:=by
 refine mo Tryz.func162 [pI 0 a0,pI 1 a1] ?_
 unfold yco at h
 refine kG [pI 0 a0,pI 1 a1] [] trivial ?_
 refine yeb (kG [pI 0 a0,pI 1 a1,pB 7 (decide (a0>a1))] [] trivial ?_)
 refine kI h (fun hc2_0 h=>?_) (fun hc2_0 h=>?_)
 ·refine kG [pI 4 a0] [] trivial ?_
  refine ypa (q_r ?_)
  obtain rfl:=oi h
  exact er [(.p (iV a0),4)]
 refine yga (q_n (kG [pI 4 a1] [] trivial ?_))
 refine ypa ?_
 obtain rfl:=oi h
 exact er [(.p (iV a1),4)]
theorem ycu {a0:Int}  {r:Int} (h:yvq a0=some r):Meets Tryz.prog 137 [wI a0] { vals:=[.p (iV r)] }:=by
 refine mo Tryz.func137 [pI 0 a0] ?_
 unfold yvq at h
 refine kG [pI 0 a0] [] trivial ?_
 obtain⟨v1,hv1,h⟩:=bs h
 refine kG [pI 2 v1] [hC 3 [.p (iV v1)]] (A1 (yqx hv1)) ?_
 refine ypa ?_
 obtain rfl:=oi h
 exact er [(.p (iV v1),2)]
theorem ydu {a0:Int} {a1:Int}  {r:Int} (h:yam a0 a1=some r):Meets Tryz.prog 136 [wI a0,wI a1] { vals:=[.p (iV r)] }:=by
 refine mo Tryz.func136 [pI 0 a0,pI 1 a1] ?_
 unfold yam at h
 refine kG [pI 0 a0,pI 1 a1] [] trivial ?_
 refine yjb (J:=fun (x:Int)=>[pI 0 x]) (K:=fun x=>ywq x=some r) (fun x1 h=>?_) ?_
 ·unfold ywq at h
  refine kG [pI 4 x1] [] trivial ?_
  refine ypa ?_
  obtain rfl:=oi h
  exact er [(.p (iV x1),4)]
 refine yda ?_
 obtain⟨y3,hl_x2,hk_x2⟩:=bs h
 clear h
 refine yyb (J:=fun (x:Qr)=>[pI 0 x.1,pI 1 x.2]) hl_x2 wkk (fun x2 o_x2 h hy_x2=>?_)
 unfold yfj at h
 refine yeb (kG [pI 0 x2.1,pI 1 x2.2,pB 7 (decide (x2.2>0))] [] trivial ?_)
 refine kI h (fun hc5_3 h=>?_) (fun hc5_3 h=>?_)
 ·refine yga (q_n (yda ?_))
  obtain⟨u5,hu5,h⟩:=bs h
  refine kG [pI 1 x2.2,pI 5 (Int.tmod x2.1 x2.2)] [] (A1 (ysa hu5)) ?_
  refine kG [pI 0 x2.2,pI 5 (Int.tmod x2.1 x2.2)] [] trivial ?_
  refine yhc (r_gq [pI 0 x2.2,pI 1 (Int.tmod x2.1 x2.2)] [] trivial) ?_
  refine b_n ?_
  exact lqn (x2.2,(Int.tmod x2.1 x2.2)) h
 refine yrb (q_x (lq_x (b_x ?_)))
 have hyy:=hy_x2 _ (oi h).symm
 subst hyy
 have h:=hk_x2
 refine q_n ?_
 exact jx x2.1 h
theorem yhg {a0:Int} {a1:Int} {a2:Int}  {r:Bool} (h:yxj a0 a1 a2=some r):Meets Tryz.prog 106 [wI a0,wI a1,wI a2] { vals:=[.p (.bool r)] }:=by
 refine mo Tryz.func106 [pI 0 a0,pI 1 a1,pI 2 a2] ?_
 unfold yxj at h
 refine kG [pI 0 a0,pI 1 a1,pI 2 a2] [] trivial ?_
 refine ynb (l1:=[pB 6 ((decide (a0>=a1))&&(decide (a0<=a2)))]) ?_ ?_
 ·rcases ft (decide (a0>=a1)) with ha0 | ha0
  ·exact RegOk.of_eq (r_gq [pB 6 (decide (a0<=a2))] [(4,gT),(5,gT),(6,gT),(7,bT)] (A4 ha0 ha0 ha0 ha0)) (by simp[ha0])
  exact RegOk.of_eq (r_gq [pB 6 false] [(4,gF),(5,gF),(6,gF),(7,bF)] (A4 ha0 ha0 ha0 ha0)) (by simp[ha0])
 refine ypa ?_
 obtain rfl:=oi h
 exact er [(.p (.bool ((decide (a0>=a1))&&(decide (a0<=a2)))),6)]
theorem ytj {a0:Qr}  {r:Bool} (h:ybm a0=some r):Meets Tryz.prog 138 [.v (vRt a0)] { vals:=[.p (.bool r)] }:=by
 refine mo Tryz.func138 [(0,.p (vRt a0))] ?_
 unfold ybm at h
 refine kG [bR 1 a0] [] trivial ?_
 obtain⟨v1,hv1,h⟩:=bs h
 obtain⟨w5,hw5,h⟩:=bs h
 refine ynb (l1:=[pB 2 w5]) ?_ ?_
 ·clear h
  rcases ft v1 with ha0 | ha0
  ·obtain⟨v2,hv2,hw5⟩:=bs (yjh ha0 hw5)
   rcases ft v2 with ha1 | ha1
   ·obtain⟨v3,hv3,hw5⟩:=bs (yjh ha1 hw5)
    obtain⟨v4,hv4,hw5⟩:=bs hw5
    have hw5:=oi hw5
    subst hw5
    exact(r_dq yfa 14 [] [pB 2 (v4==1)] [hC 2 [.p (.bool v1)],(4,gT),(5,gT),(6,{g:=some true,call:=some (none,[.p (.bool v2)],true)}),(7,bT),(9,gT),(10,gT),(11,{g:=some true,call:=some (none,[.p (iV v3)],true)}),(12,gT),(13,gT),(14,{g:=some true,call:=some (none,[.p (iV v4)],true)}),(15,gT),(16,bT)] (B6 (yhg hv1) ha0 ha0 ha0 (yhg hv2) ha0 (B6 ha1 ha1 ha1 (ycu hv3) ha1 ha1 (A4 ha1 (ydu hv4) ha1 ha1))))
   replace hw5:=ykh ha1 hw5
   have hw5:=oi hw5
   subst hw5
   exact(r_dq yfa 14 [] [pB 2 false] [hC 2 [.p (.bool v1)],(4,gT),(5,gT),(6,{g:=some true,call:=some (none,[.p (.bool v2)],true)}),(7,bT),(9,gF),(10,gF),(11,gF),(12,gF),(13,gF),(14,gF),(15,gF),(16,bF)] (B6 (yhg hv1) ha0 ha0 ha0 (yhg hv2) ha0 (B6 ha1 ha1 ha1 ha1 ha1 ha1 (A2 ha1 ha1))))
  replace hw5:=ykh ha0 hw5
  have hw5:=oi hw5
  subst hw5
  exact(r_dq yfa 14 [] [pB 2 false] [hC 2 [.p (.bool v1)],(4,gF),(5,gF),(6,gF),(7,bF),(9,gF),(10,gF),(11,gF),(12,gF),(13,gF),(14,gF),(15,gF),(16,bF)] (B6 (yhg hv1) ha0 ha0 ha0 ha0 fF (B6 fF fF fF fF fF fF (A1 fF))))
 refine ypa ?_
 obtain rfl:=oi h
 exact er [(.p (.bool w5),2)]
theorem ycc {a0:Int} {a1:Int}  {r:(Qr×Bool)} (h:ybc a0 a1=some r):Meets Tryz.prog 69 [wI a0,wI a1] { vals:=[.p (vRt r.1),.p (.bool r.2)] }:=by
 refine mo Tryz.func69 [pI 0 a0,pI 1 a1] ?_
 unfold ybc at h
 refine kG [pI 0 a0,pI 1 a1,bX 4 zR] [] trivial ?_
 refine yeb (kG [pI 0 a0,pI 1 a1,bX 4 zR,pB 9 (a1==0)] [] trivial ?_)
 refine kI h (fun hc2_0 h=>?_) (fun hc2_0 h=>?_)
 ·refine kG [bX 4 zR,pB 5 false] [] trivial ?_
  refine ypa (q_r ?_)
  obtain rfl:=oi h
  exact er [(.p (.agg #[.int .i64 0,.int .i64 0]),4),(.p (.bool false),5)]
 refine yga (q_n ?_)
 obtain⟨v2,hv2,h⟩:=bs h
 obtain⟨v3,hv3,h⟩:=bs h
 obtain⟨v4,hv4,h⟩:=bs h
 refine kG [pI 0 a0,pI 1 a1,bX 4 zR,pI 6 v4] [hC 1 [.p (iV v2)],hC 3 [.p (iV v3)],hC 4 [.p (iV v4)]] (A3 (ycu hv2) (ycu hv3) (ydu hv4)) ?_
 refine yjb (J:=fun (x:Int)=>[pI 0 a0,pI 1 a1,bX 4 zR,pI 6 x]) (K:=fun x=>yck a0 a1 x=some r) (fun x5 h=>?_) ?_
 ·unfold yck at h
  obtain⟨u6,hu6,h⟩:=bs h
  refine ynb (r_dq yfa 8 [] [bX 4 zR,bX 7 [rI (w64 (Int.tdiv a0 x5)),rI (w64 (Int.tdiv a1 x5))]] [] (A2 (ysa hu6) (ysa hu6))) ?_
  refine yeb ?_
  obtain⟨v7,hv7,h⟩:=bs h
  refine kG [bX 4 zR,bX 7 [rI (w64 (Int.tdiv a0 x5)),rI (w64 (Int.tdiv a1 x5))],pB 29 (!v7)] [hC 1 [.p (.bool v7)]] (A1 (ytj hv7)) ?_
  refine kI h (fun hc2_7 h=>?_) (fun hc2_7 h=>?_)
  ·refine kG [bX 4 zR,pB 5 false] [] trivial ?_
   refine ypa (q_r ?_)
   obtain rfl:=oi h
   exact er [(.p (.agg #[.int .i64 0,.int .i64 0]),4),(.p (.bool false),5)]
  refine yga (q_n (kG [bX 4 [rI (w64 (Int.tdiv a0 x5)),rI (w64 (Int.tdiv a1 x5))],pB 5 true] [] trivial ?_))
  refine ypa ?_
  obtain rfl:=oi h
  exact er [(.p (.agg #[.int .i64 (w64 (Int.tdiv a0 x5)),.int .i64 (w64 (Int.tdiv a1 x5))]),4),(.p (.bool true),5)]
 refine kG [pI 0 a0,pI 1 a1,bX 4 zR,pI 6 v4,pB 17 (decide (a1<0))] [] trivial ?_
 refine kI h (fun hc2_8 h=>?_) (fun hc2_8 h=>?_)
 ·refine yhc (r_gq [pI 0 a0,pI 1 a1,bX 4 zR,pI 6 (w64 (0-v4))] [] trivial) ?_
  refine q_n ?_
  exact jx (w64 (0-v4)) h
 refine yga (q_n ?_)
 exact jx v4 h
theorem yjc {a0:Cu} {a1:Int}  {r:(Qr×Cu)} (h:yib a0 a1=some r):MeetsB Tryz.prog 146 (.box (eCu a0)) [wI a1] [.p (vRt r.1)] (.box (eCu r.2)):=by
 refine mob Tryz.func146 [bC 0 a0,pI 1 a1] ?_
 unfold yib at h
 refine kG [bC 0 a0,pI 1 a1,bX 4 zR] [] trivial ?_
 obtain⟨v1,hv1,h⟩:=bs h
 obtain⟨v2,hv2,h⟩:=bs h
 refine kG [bC 0 v1.2,bX 4 zR,bR 5 v2.1] [hF 3 [.p (iV v1.1)] (.box (eCu v1.2)),hC 5 [.p (vRt v2.1),.p (.bool v2.2)]] (A2 (yja hv1) (ycc hv2)) ?_
 refine kG [bC 0 v1.2,bR 4 v2.1] [] trivial ?_
 refine ypa ?_
 obtain rfl:=oi h
 exact ebr [(.p (vRt v2.1),4)]
theorem yrx {a0:Int}  {r:Int} (h:ydm a0=some r):Meets Tryz.prog 177 [wI a0] { vals:=[.p (iV r)] }:=by
 refine mo Tryz.func177 [pI 0 a0] ?_
 unfold ydm at h
 refine kG [pI 0 a0] [] trivial ?_
 refine yeb (yda (kG [pI 0 a0,pB 3 (decide (a0>0))] [] trivial ?_))
 refine kI h (fun hc3_0 h=>?_) (fun hc3_0 h=>?_)
 ·refine kG [pI 2 1] [] trivial ?_
  refine ypa (b_r (q_r ?_))
  obtain rfl:=oi h
  exact er [(.p (iV 1),2)]
 refine kG [pB 6 (decide (a0<0))] [] trivial ?_
 refine kI h (fun hc3_1 h=>?_) (fun hc3_1 h=>?_)
 ·refine kG [pI 2 (-1)] [] trivial ?_
  refine ypa (b_r (q_r ?_))
  obtain rfl:=oi h
  exact er [(.p (iV (-1)),2)]
 refine yga (b_n (q_n (kG [pI 2 0] [] trivial ?_)))
 refine ypa ?_
 obtain rfl:=oi h
 exact er [(.p (iV 0),2)]
theorem yde {a0:Qr} {a1:Qr}  {r:Int} (h:ygc a0 a1=some r):Meets Tryz.prog 119 [.v (vRt a0),.v (vRt a1)] { vals:=[.p (iV r)] }:=by
 refine mo Tryz.func119 [(0,.p (vRt a0)),(1,.p (vRt a1))] ?_
 unfold ygc at h
 refine kG [bR 2 a0,bR 3 a1] [] trivial ?_
 obtain⟨v1,hv1,h⟩:=bs h
 refine kG [pI 4 v1] [hC 11 [.p (iV v1)]] (A1 (yrx hv1)) ?_
 refine ypa ?_
 obtain rfl:=oi h
 exact er [(.p (iV v1),4)]
theorem yyl {a0:(List Qr)} {a1:Qr}  {r:(List Qr)} (h:ydd a0 a1=some r):MeetsB Tryz.prog 120 (.ov false [.sl (some 38) (a0.map eRt)]) [.v (vRt a1)] [rO 38 eRt r] (.u):=by
 refine mob Tryz.func120 [vL 0 38 eRt a0,(1,.p (vRt a1))] ?_
 unfold ydd at h
 refine kG [vL 0 38 eRt a0,bR 3 a1] [] trivial ?_
 refine kG [vL 0 38 eRt a0,bR 3 a1,pI 5 0] [] trivial ?_
 refine yjb (J:=fun (x:Int)=>[vL 0 38 eRt a0,bR 3 a1,pI 5 x]) (K:=fun x=>ymp a0 a1 x=some r) (fun x1 h=>?_) ?_
 ·unfold ymp at h
  refine yeb ?_
  obtain⟨w3,hw3,h⟩:=bs h
  refine ynb (l1:=[vL 0 38 eRt a0,bR 3 a1,pI 5 x1,pB 32 w3]) ?_ ?_
  ·clear h
   rcases ft (decide (x1<(a0.length:Int))) with ha0 | ha0
   ·obtain⟨v2,hv2,hw3⟩:=bs (yjh ha0 hw3)
    have hw3:=oi hw3
    subst hw3
    exact(r_dq yfa 10 [] [vL 0 38 eRt a0,bR 3 a1,pI 5 x1,pB 32 ((v2.1==a1.1)&&(v2.2==a1.2))] [hN 2 a0,(5,gT),(6,gT),(7,{g:=some true,row:=some (eRt v2)}),(8,{g:=some true,row:=some (eRt v2)}),(9,gT),(10,{g:=some true,pv:=some (.bool ((v2.1==a1.1)&&(v2.2==a1.2)))}),(11,bT)] (B6 (lF eRt a0) ha0 ha0 ha0 (yba hv2).1 (yca eRt (yba hv2).2) (A6 ha0 (gW 38 eRt hv2) ha0 ha0 (show PureAt Tryz.prog (.binOp .eql 38 (.tmp 29) (.tmp 30) 38) [vRt v2,vRt a1] (.bool ((v2.1==a1.1)&&(v2.2==a1.2))) from(yrf (by kernel_rfl))) ha0)))
   replace hw3:=ykh ha0 hw3
   have hw3:=oi hw3
   subst hw3
   exact(r_dq yfa 10 [] [vL 0 38 eRt a0,bR 3 a1,pI 5 x1,pB 32 false] [hN 2 a0,(5,gF),(6,gF),(7,gF),(8,gF),(9,gF),(10,gF),(11,bF)] (B6 (lF eRt a0) ha0 ha0 ha0 ha0 ha0 (A2 ha0 ha0)))
  refine kI h (fun hc2_3 h=>?_) (fun hc2_3 h=>?_)
  ·refine kG [vL 4 38 eRt a0] [] trivial ?_
   refine ypa (q_r ?_)
   obtain rfl:=oi h
   exact ebr [(.ov false [.sl (some 38) (a0.map eRt)],4)]
  refine yga (q_n (ygs1 0 (g:=false) (cs:=[.sl (some 38) (a0.map eRt)]) [.sl none (a0.map eRt)] [dL 0 eRt a0,bR 3 a1,pI 5 x1,pB 32 w3] (yqf (yka (ywt er_I er_I)) rfl) ?_))
  obtain⟨u5,hu5,h⟩:=bs h
  obtain⟨u6,hu6,h⟩:=bs h
  obtain⟨u7,hu7,h⟩:=bs h
  obtain⟨u8,hu8,h⟩:=bs h
  refine ynb (r_dq yfa 11 [(4,34),(7,38),(4096,34),(4097,38)] [vL 4 38 eRt (((a0.take (Int.toNat x1))++[a1])++(a0.drop (Int.toNat x1)))] [(3,{fix:=some (dL 37 eRt (a0.take (Int.toNat x1)))}),(6,{pre:=some (0,.u),fix:=some (dL 40 eRt ([a1]))}),(7,{fix:=some (vL 41 38 eRt ((a0.take (Int.toNat x1))++[a1]))}),(10,{fix:=some (dL 44 eRt (a0.drop (Int.toNat x1)))}),(11,{fix:=some (vL 45 38 eRt (((a0.take (Int.toNat x1))++[a1])++(a0.drop (Int.toNat x1))))})] (B6 (show 0<=(Int.toNat x1) from(by have hg:=(ysa hu5);first | (simp only[List.length_map];omega) | omega)) (show(Int.toNat x1)<=(a0.map eRt).length from(by have hg:=(ysa hu5);first | (simp only[List.length_map];omega) | omega)) (show ∀ row∈(a0.map eRt),row.length=2 from(yfc fun _=>rfl)) (show(0:Int)<=x1 from(by have hg:=(ysa hu5);omega)) (show(SV.d false [.sl none (((a0.map eRt).take (Int.toNat x1)).drop 0)]:SV)=.d false [.sl none ((a0.take (Int.toNat x1)).map eRt)] from(congrArg (fun z=>SV.d false [.sl none z]) ymc2)) (show List.length ([]:List (List C))+List.length (((a0.take (Int.toNat x1)).map eRt):List (List C))<=1099511627776 from(by have hg:=(ysa hu6);simpa using hg)) (B6 (show ∀ row∈(((a0.take (Int.toNat x1)).map eRt):List (List C)),row.length=2 from(yfc fun _=>rfl)) (show(SV.d false (eraR [.sl (some 38) (([a1]).map eRt)]):SV)=.d false [.sl none (([a1]).map eRt)] from(congrArg (fun z=>SV.d false z) (yqf (yka (ywt er_I er_I)) rfl))) (lG' eRt hu7) (show ∀ row∈((([a1]).map eRt):List (List C)),row.length=2 from(yfc fun _=>rfl)) (aP' 38 eRt (a0.take (Int.toNat x1)) ([a1])) (show(Int.toNat x1)<=(a0.map eRt).length from(by have hg:=(ysa hu5);first | (simp only[List.length_map];omega) | omega)) (B6 (show(a0.map eRt).length<=(a0.map eRt).length from(Nat.le_refl _)) (show ∀ row∈(a0.map eRt),row.length=2 from(yfc fun _=>rfl)) (show(0:Int)<=x1 from(by have hg:=(ysa hu5);omega)) (show(SV.d false [.sl none (((a0.map eRt).take (a0.map eRt).length).drop (Int.toNat x1))]:SV)=.d false [.sl none ((a0.drop (Int.toNat x1)).map eRt)] from(congrArg (fun z=>SV.d false [.sl none z]) ypy1)) (lG' eRt hu8) (show ∀ row∈(((a0.drop (Int.toNat x1)).map eRt):List (List C)),row.length=2 from(yfc fun _=>rfl)) (A1 (aP' 38 eRt ((a0.take (Int.toNat x1))++[a1]) (a0.drop (Int.toNat x1)))))))) ?_
  refine ypa ?_
  obtain rfl:=oi h
  exact ebr [(.ov false [.sl (some 38) ((((a0.take (Int.toNat x1))++[a1])++(a0.drop (Int.toNat x1))).map eRt)],4)]
 refine yda ?_
 obtain⟨y10,hl_x9,hk_x9⟩:=bs h
 clear h
 refine yyb (J:=fun (x:Int)=>[vL 0 38 eRt a0,bR 3 a1,pI 5 x]) hl_x9 wkk (fun x9 o_x9 h hy_x9=>?_)
 unfold ynp at h
 refine yeb ?_
 obtain⟨w13,hw13,h⟩:=bs h
 refine ynb (l1:=[vL 0 38 eRt a0,bR 3 a1,pI 5 x9,pB 18 w13]) ?_ ?_
 ·clear h
  rcases ft (decide (x9<(a0.length:Int))) with ha0 | ha0
  ·obtain⟨v11,hv11,hw13⟩:=bs (yjh ha0 hw13)
   obtain⟨v12,hv12,hw13⟩:=bs hw13
   have hw13:=oi hw13
   subst hw13
   exact(r_dq yfa 10 [] [vL 0 38 eRt a0,bR 3 a1,pI 5 x9,pB 18 (decide (v12<0))] [hN 2 a0,(5,gT),(6,gT),(7,{g:=some true,row:=some (eRt v11)}),(8,{g:=some true,row:=some (eRt v11)}),(9,gT),(10,{g:=some true,call:=some (none,[.p (iV v12)],true)}),(11,gT),(12,bT)] (B6 (lF eRt a0) ha0 ha0 ha0 (yba hv11).1 (yca eRt (yba hv11).2) (B6 ha0 (gW 38 eRt hv11) ha0 ha0 (yde hv12) ha0 (A1 ha0))))
  replace hw13:=ykh ha0 hw13
  have hw13:=oi hw13
  subst hw13
  exact(r_dq yfa 10 [] [vL 0 38 eRt a0,bR 3 a1,pI 5 x9,pB 18 false] [hN 2 a0,(5,gF),(6,gF),(7,gF),(8,gF),(9,gF),(10,gF),(11,gF),(12,bF)] (B6 (lF eRt a0) ha0 ha0 ha0 ha0 ha0 (A3 ha0 ha0 ha0)))
 refine kI h (fun hc5_13 h=>?_) (fun hc5_13 h=>?_)
 ·refine yga (q_n (yda (yhc (r_gq [vL 0 38 eRt a0,bR 3 a1,pI 5 (w64 (x9+1))] [] trivial) ?_)))
  refine b_n ?_
  exact lqn (w64 (x9+1)) h
 refine yrb (q_x (lq_x (b_x ?_)))
 have hyy:=hy_x9 _ (oi h).symm
 subst hyy
 have h:=hk_x9
 refine q_n ?_
 exact jx x9 h
theorem yqw {a0:Cu} {a1:Int}  {r:((List Qp)×Cu)} (h:yci a0 a1=some r):MeetsB Tryz.prog 186 (.box (eCu a0)) [wI a1] [.ov false (oP 96 r.1)] (.box (eCu r.2)):=by
 refine mob Tryz.func186 [bC 0 a0,pI 1 a1] ?_
 unfold yci at h
 refine kG [bC 0 a0,pI 1 a1] [] trivial ?_
 obtain⟨v1,hv1,h⟩:=bs h
 refine kG [bC 0 v1.2,pI 1 a1,pI 5 v1.1] [(2,{lend:=some (some [.d false [.sl none (([0,1,1,2,3]).map eI)]],[.p (iV v1.1)],.box (eCu v1.2),false),fix:=some (dL 12 eI ([0,1,1,2,3]))})] (A3 (show([.d false [.sl none (eraL (([0,1,1,2,3]).map eI))]]:List Arg)=[.d false [.sl none (([0,1,1,2,3]).map eI)]] from(by simp only[yka (h:=eI) er_I])) (yna hv1) (show(SV.d false (eraR [.sl (some 3) (([0,1,1,2,3]).map eI)]):SV)=.d false [.sl none (([0,1,1,2,3]).map eI)] from(congrArg (fun z=>SV.d false z) (yqf (yka er_I) rfl)))) ?_
 refine yjb (J:=fun (x:((List Int)×Int×Int×Int))=>[bC 0 (x.1,x.2.1,x.2.2.1),pI 1 a1,pI 5 x.2.2.2]) (K:=fun x=>yod a1 x=some r) (fun x2 h=>?_) ?_
 ·unfold yod at h
  obtain⟨v3,hv3,h⟩:=bs h
  obtain⟨v4,hv4,h⟩:=bs h
  refine kG [bC 0 (x2.1,x2.2.1,x2.2.2.1),pI 1 a1,pI 5 x2.2.2.2,vL 6 38 eRt ([v3,v4])] [hC 0 [.p (vRt v3)],hC 1 [.p (vRt v4)]] (A2 (yhb hv3) (yhb hv4)) ?_
  refine yjb (J:=fun (x:((List Int)×Int×Int×(List Qr)))=>[bC 0 (x.1,x.2.1,x.2.2.1),pI 1 a1,vL 6 38 eRt x.2.2.2]) (K:=fun x=>yth a1 x=some r) (fun x5 h=>?_) ?_
  ·unfold yth at h
   refine kG [bC 0 (x5.1,x5.2.1,x5.2.2.1),pI 1 a1,vL 6 38 eRt x5.2.2.2,vN 8 96] [] trivial ?_
   refine yjb (J:=fun (x:((List Int)×Int×Int×(List Qp)))=>[bC 0 (x.1,x.2.1,x.2.2.1),vP 8 96 x.2.2.2]) (K:=fun x=>ysl x=some r) (fun x6 h=>?_) ?_
   ·unfold ysl at h
    refine kG [bC 0 (x6.1,x6.2.1,x6.2.2.1),vP 4 96 x6.2.2.2] [] trivial ?_
    refine ypa ?_
    obtain rfl:=oi h
    exact ebr [(.ov false (oP 96 x6.2.2.2),4)]
   refine kG [bC 0 (x5.1,x5.2.1,x5.2.2.1),pI 1 a1,vL 6 38 eRt x5.2.2.2,vN 8 96,rF 35 6,pL 36 x5.2.2.2,pI 37 0] [hN 1 x5.2.2.2] (A1 (lF eRt x5.2.2.2)) ?_
   refine yda ?_
   obtain⟨y8,hl_x7,hk_x7⟩:=bs h
   clear h
   refine yyb (J:=fun (x:((List Int)×Int×Int×(List Qp)×Int))=>[bC 0 (x.1,x.2.1,x.2.2.1),pI 1 a1,vL 6 38 eRt x5.2.2.2,vP 8 96 x.2.2.2.1,rF 35 6,pL 36 x5.2.2.2,pI 37 x.2.2.2.2]) hl_x7 wkk (fun x7 o_x7 h hy_x7=>?_)
   unfold ytl at h
   refine kG [bC 0 (x7.1,x7.2.1,x7.2.2.1),pI 1 a1,vL 6 38 eRt x5.2.2.2,vP 8 96 x7.2.2.2.1,rF 35 6,pL 36 x5.2.2.2,pI 37 x7.2.2.2.2,pB 38 (decide (x7.2.2.2.2<(x5.2.2.2.length:Int)))] [] trivial ?_
   refine yeb (kI h (fun hc5_8 h=>?_) (fun hc5_8 h=>?_))
   ·refine yga (q_n (yeb (yda ?_)))
    obtain⟨v10,hv10,h⟩:=bs h
    refine kG [bC 0 (x7.1,x7.2.1,x7.2.2.1),pI 1 a1,vL 6 38 eRt x5.2.2.2,vP 8 96 x7.2.2.2.1,bR 10 v10,rF 35 6,pL 36 x5.2.2.2,pI 37 x7.2.2.2.2] [hR 0 (eRt v10),hR 1 (eRt v10)] (A3 (yba hv10).1 (yca eRt (yba hv10).2) (gW 38 eRt hv10)) ?_
    obtain⟨v11,hv11,h⟩:=bs h
    obtain⟨u12,hu12,h⟩:=bs h
    refine yhc (r_dq yfa 7 [(4,0)] [bC 0 v11.2,pI 1 a1,vL 6 38 eRt x5.2.2.2,vP 8 96 (x7.2.2.2.1++[(v10,v11.1)]),rF 35 6,pL 36 x5.2.2.2,pI 37 x7.2.2.2.2] [hF 4 [.p (vRt v11.1)] (.box (eCu v11.2)),(7,{fix:=some (vP 48 96 (x7.2.2.2.1++[(v10,v11.1)]))})] (A4 (yjc hv11) (lG' ePt hu12) (show ∀ row∈((([(v10,v11.1)]).map ePt):List (List C)),row.length=4 from(yfc fun _=>rfl)) (aP' 96 ePt x7.2.2.2.1 ([(v10,v11.1)])))) ?_
    refine b_n (q_n (yhc (r_gq [bC 0 v11.2,pI 1 a1,vL 6 38 eRt x5.2.2.2,vP 8 96 (x7.2.2.2.1++[(v10,v11.1)]),rF 35 6,pL 36 x5.2.2.2,pI 37 (w64 (x7.2.2.2.2+1))] [] trivial) ?_))
    exact lqn (v11.2.1,v11.2.2.1,v11.2.2.2,(x7.2.2.2.1++[(v10,v11.1)]),(w64 (x7.2.2.2.2+1))) h
   refine yrb (q_x (lq_x (b_x ?_)))
   have hyy:=hy_x7 _ (oi h).symm
   subst hyy
   have h:=hk_x7
   refine q_n ?_
   exact jx (x7.1,x7.2.1,x7.2.2.1,x7.2.2.2.1) h
  refine kG [bC 0 (x2.1,x2.2.1,x2.2.2.1),pI 1 a1,pI 5 x2.2.2.2,vL 6 38 eRt ([v3,v4]),pI 7 0] [] trivial ?_
  refine yda ?_
  obtain⟨y14,hl_x13,hk_x13⟩:=bs h
  clear h
  refine yyb (J:=fun (x:((List Int)×Int×Int×(List Qr)×Int))=>[bC 0 (x.1,x.2.1,x.2.2.1),pI 1 a1,pI 5 x2.2.2.2,vL 6 38 eRt x.2.2.2.1,pI 7 x.2.2.2.2]) hl_x13 wkk (fun x13 o_x13 h hy_x13=>?_)
  unfold yul at h
  refine yeb (ynb (l1:=[bC 0 (x13.1,x13.2.1,x13.2.2.1),pI 1 a1,pI 5 x2.2.2.2,vL 6 38 eRt x13.2.2.2.1,pI 7 x13.2.2.2.2,pB 27 ((decide ((x13.2.2.2.1.length:Int)<(w64 (x2.2.2.2+2))))&&(decide (x13.2.2.2.2<60)))]) ?_ ?_)
  ·rcases ft (decide ((x13.2.2.2.1.length:Int)<(w64 (x2.2.2.2+2)))) with ha0 | ha0
   ·exact RegOk.of_eq (r_gq [bC 0 (x13.1,x13.2.1,x13.2.2.1),pI 1 a1,pI 5 x2.2.2.2,vL 6 38 eRt x13.2.2.2.1,pI 7 x13.2.2.2.2,pB 27 (decide (x13.2.2.2.2<60))] [hN 1 x13.2.2.2.1,(6,gT),(7,gT),(8,bT)] (A4 (lF eRt x13.2.2.2.1) ha0 ha0 ha0)) (by simp[ha0])
   exact RegOk.of_eq (r_gq [bC 0 (x13.1,x13.2.1,x13.2.2.1),pI 1 a1,pI 5 x2.2.2.2,vL 6 38 eRt x13.2.2.2.1,pI 7 x13.2.2.2.2,pB 27 false] [hN 1 x13.2.2.2.1,(6,gF),(7,gF),(8,bF)] (A4 (lF eRt x13.2.2.2.1) ha0 ha0 ha0)) (by simp[ha0])
  refine kI h (fun hc5_14 h=>?_) (fun hc5_14 h=>?_)
  ·refine yga (q_n (yeb (yda ?_)))
   obtain⟨v16,hv16,h⟩:=bs h
   obtain⟨v17,hv17,h⟩:=bs h
   refine yhc (r_gq [bC 0 v16.2,pI 1 a1,pI 5 x2.2.2.2,vL 6 38 eRt v17,pI 7 x13.2.2.2.2] [hF 3 [.p (vRt v16.1)] (.box (eCu v16.2)),(4,{lend:=some (none,[rO 38 eRt v17],.u,true)})] (A3 (yjc hv16) (yyl hv17) (sR' 38 v17))) ?_
   refine b_n (q_n (yhc (r_gq [bC 0 v16.2,pI 1 a1,pI 5 x2.2.2.2,vL 6 38 eRt v17,pI 7 (w64 (x13.2.2.2.2+1))] [] trivial) ?_))
   exact lqn (v16.2.1,v16.2.2.1,v16.2.2.2,v17,(w64 (x13.2.2.2.2+1))) h
  refine yrb (q_x (lq_x (b_x ?_)))
  have hyy:=hy_x13 _ (oi h).symm
  subst hyy
  have h:=hk_x13
  refine q_n ?_
  exact jx (x13.1,x13.2.1,x13.2.2.1,x13.2.2.2.1) h
 obtain⟨v18,hv18,h⟩:=bs h
 refine kG [bC 0 v18.2,pI 1 a1,pI 5 v1.1,pB 15 v18.1] [hF 1 [.p (.bool v18.1)] (.box (eCu v18.2))] (A1 (ytb hv18)) ?_
 refine kI h (fun hc2_18 h=>?_) (fun hc2_18 h=>?_)
 ·refine yhc (r_gq [bC 0 v18.2,pI 1 a1,pI 5 10] [] trivial) ?_
  refine q_n ?_
  exact jx (v18.2.1,v18.2.2.1,v18.2.2.2,10) h
 refine yga (q_n ?_)
 exact jx (v18.2.1,v18.2.2.1,v18.2.2.2,v1.1) h
theorem yfc1 {a0:Cu}  {r:((List Qp)×Cu)} (h:yop a0=some r):MeetsB Tryz.prog 139 (.box (eCu a0)) [] [.ov false (oP 96 r.1)] (.box (eCu r.2)):=by
 refine mob Tryz.func139 [bC 0 a0] ?_
 unfold yop at h
 refine kG [bC 0 a0] [] trivial ?_
 obtain⟨v1,hv1,h⟩:=bs h
 refine kG [bC 0 v1.2,pI 3 v1.1] [(2,{lend:=some (some [.d false [.sl none (([1,2,2,3,4,4,6,12,100]).map eI)]],[.p (iV v1.1)],.box (eCu v1.2),false),fix:=some (dL 10 eI ([1,2,2,3,4,4,6,12,100]))})] (A3 (show([.d false [.sl none (eraL (([1,2,2,3,4,4,6,12,100]).map eI))]]:List Arg)=[.d false [.sl none (([1,2,2,3,4,4,6,12,100]).map eI)]] from(by simp only[yka (h:=eI) er_I])) (yna hv1) (show(SV.d false (eraR [.sl (some 3) (([1,2,2,3,4,4,6,12,100]).map eI)]):SV)=.d false [.sl none (([1,2,2,3,4,4,6,12,100]).map eI)] from(congrArg (fun z=>SV.d false z) (yqf (yka er_I) rfl)))) ?_
 obtain⟨v2,hv2,h⟩:=bs h
 refine kG [bC 0 v2.2,pI 3 v1.1,vP 4 96 v2.1] [hF 2 [.ov false (oP 96 v2.1)] (.box (eCu v2.2))] (A1 (yqw hv2)) ?_
 refine yjb (J:=fun (x:((List Int)×Int×Int×(List Qp)))=>[bC 0 (x.1,x.2.1,x.2.2.1),vP 4 96 x.2.2.2]) (K:=fun x=>yte x=some r) (fun x3 h=>?_) ?_
 ·unfold yte at h
  refine kG [bC 0 (x3.1,x3.2.1,x3.2.2.1),vP 2 96 x3.2.2.2] [] trivial ?_
  refine ypa ?_
  obtain rfl:=oi h
  exact ebr [(.ov false (oP 96 x3.2.2.2),2)]
 obtain⟨v4,hv4,h⟩:=bs h
 refine kG [bC 0 v4.2,pI 3 v1.1,vP 4 96 v2.1,pB 16 v4.1] [hF 1 [.p (.bool v4.1)] (.box (eCu v4.2))] (A1 (ytb hv4)) ?_
 refine kI h (fun hc2_4 h=>?_) (fun hc2_4 h=>?_)
 ·obtain⟨v6,hv6,h⟩:=bs h
  refine kG [bC 0 v6.2,pI 3 v1.1,pI 5 v6.1] [(2,{lend:=some (some [.d false [.sl none (([2,2,3,4]).map eI)]],[.p (iV v6.1)],.box (eCu v6.2),false),fix:=some (dL 18 eI ([2,2,3,4]))})] (A3 (show([.d false [.sl none (eraL (([2,2,3,4]).map eI))]]:List Arg)=[.d false [.sl none (([2,2,3,4]).map eI)]] from(by simp only[yka (h:=eI) er_I])) (yna hv6) (show(SV.d false (eraR [.sl (some 3) (([2,2,3,4]).map eI)]):SV)=.d false [.sl none (([2,2,3,4]).map eI)] from(congrArg (fun z=>SV.d false z) (yqf (yka er_I) rfl)))) ?_
  refine kG [bC 0 v6.2,pI 3 v1.1,vN 4 96,pI 5 v6.1] [] trivial ?_
  refine yjb (J:=fun (x:(List Qp))=>[bC 0 v6.2,pI 3 v1.1,vP 4 96 x]) (K:=fun x=>ydn v1 v6 x=some r) (fun x7 h=>?_) ?_
  ·unfold ydn at h
   obtain⟨v8,hv8,h⟩:=bs h
   refine kG [bC 0 v8.2,pI 3 v1.1,vP 4 96 x7,pB 40 v8.1] [hF 1 [.p (.bool v8.1)] (.box (eCu v8.2))] (A1 (ytb hv8)) ?_
   refine kI h (fun hc2_8 h=>?_) (fun hc2_8 h=>?_)
   ·obtain⟨v10,hv10,h⟩:=bs h
    obtain⟨v11,hv11,h⟩:=bs h
    refine yhc (r_gq [bC 0 v10.2,vP 4 96 (x7.set (Int.toNat 1) (v11.1,v10.1))] [hF 3 [.p (vRt v10.1)] (.box (eCu v10.2)),hR 4 (ePt v11),(6,{row:=some (eRt v11.2),fix:=some (vP 4 96 (x7.set (Int.toNat 1) (v11.1,v10.1)))})] (A5 (yjc hv10) (yba hv11).1 (yca ePt (yba hv11).2) (show getRow [(oP 96 x7)] [(0,0),((Int.toNat 1),2)]=some (eRt v11.2) from((gr0 rfl).trans (gre (yca ePt (yba hv11).2)))) (show(SV.ov false [.sl (some 96) (setL (x7.map ePt) [((Int.toNat 1),2)] (eRt v10.1))]:SV)=.ov false (oP 96 (x7.set (Int.toNat 1) (v11.1,v10.1))) from(congrArg (fun z=>SV.ov false [.sl (some 96) z]) (set1 (f:=ePt) (y:=(v11.1,v10.1)) (yba hv11).2 rfl))))) ?_
    refine q_n ?_
    exact jx (v10.2.1,v10.2.2.1,v10.2.2.2,(x7.set (Int.toNat 1) (v11.1,v10.1))) h
   refine yga (q_n ?_)
   exact jx (v8.2.1,v8.2.2.1,v8.2.2.2,x7) h
  refine kG [bC 0 v6.2,pI 3 v1.1,vN 4 96,pI 5 v6.1,pI 6 0] [] trivial ?_
  refine yda ?_
  obtain⟨y13,hl_x12,hk_x12⟩:=bs h
  clear h
  refine yyb (J:=fun (x:((List Qp)×Int))=>[bC 0 v6.2,pI 3 v1.1,vP 4 96 x.1,pI 5 v6.1,pI 6 x.2]) hl_x12 wkk (fun x12 o_x12 h hy_x12=>?_)
  unfold yfr at h
  refine yeb (kG [bC 0 v6.2,pI 3 v1.1,vP 4 96 x12.1,pI 5 v6.1,pI 6 x12.2,pB 22 (decide (x12.2<=v6.1))] [] trivial ?_)
  refine kI h (fun hc6_13 h=>?_) (fun hc6_13 h=>?_)
  ·refine yga (q_n (yeb (yda ?_)))
   obtain⟨v15,hv15,h⟩:=bs h
   refine kG [bC 0 v6.2,pI 3 v1.1,vP 4 96 x12.1,pI 5 v6.1,pI 6 x12.2,bR 7 v15.1] [hC 2 [.p (vRt v15.1),.p (.bool v15.2)]] (A1 (ycc hv15)) ?_
   obtain⟨v16,hv16,h⟩:=bs h
   obtain⟨u17,hu17,h⟩:=bs h
   refine yhc (r_dq yfa 7 [] [bC 0 v6.2,pI 3 v1.1,vP 4 96 (x12.1++[(v15.1,v16)]),pI 5 v6.1,pI 6 x12.2] [hC 4 [.p (vRt v16)],(7,{fix:=some (vP 38 96 (x12.1++[(v15.1,v16)]))})] (A5 (show 2≠(0:Int) from(by decide)) (yhb hv16) (lG' ePt hu17) (show ∀ row∈((([(v15.1,v16)]).map ePt):List (List C)),row.length=4 from(yfc fun _=>rfl)) (aP' 96 ePt x12.1 ([(v15.1,v16)])))) ?_
   refine b_n (q_n (yhc (r_gq [bC 0 v6.2,pI 3 v1.1,vP 4 96 (x12.1++[(v15.1,v16)]),pI 5 v6.1,pI 6 (w64 (x12.2+1))] [] trivial) ?_))
   exact lqn ((x12.1++[(v15.1,v16)]),(w64 (x12.2+1))) h
  refine yrb (q_x (lq_x (b_x ?_)))
  have hyy:=hy_x12 _ (oi h).symm
  subst hyy
  have h:=hk_x12
  refine q_n ?_
  exact jx x12.1 h
 refine yga (q_n ?_)
 exact jx (v4.2.1,v4.2.2.1,v4.2.2.2,v2.1) h
theorem yva1 {a0:Cu}  {r:(Qr×Cu)} (h:yen a0=some r):MeetsB Tryz.prog 187 (.box (eCu a0)) [] [.p (vRt r.1)] (.box (eCu r.2)):=by
 refine mob Tryz.func187 [bC 0 a0] ?_
 unfold yen at h
 refine kG [bC 0 a0,bX 2 zR] [] trivial ?_
 obtain⟨v1,hv1,h⟩:=bs h
 obtain⟨v2,hv2,h⟩:=bs h
 obtain⟨v3,hv3,h⟩:=bs h
 obtain⟨v4,hv4,h⟩:=bs h
 obtain⟨v5,hv5,h⟩:=bs h
 obtain⟨v6,hv6,h⟩:=bs h
 obtain⟨v7,hv7,h⟩:=bs h
 refine kG [bC 0 v6.2,bX 2 zR,bR 3 v7.1,pB 4 v7.2] [hF 2 [.p (iV v1.1)] (.box (eCu v1.2)),hF 5 [.p (iV v2.1)] (.box (eCu v2.2)),(8,{lend:=some (some [.d false [.sl none (([0,1,2,3,(-1),(-5),(w64 (v1.1-20)),(w64 (v2.1-1000)),1000000000,(-1000000000)]).map eI)]],[.p (iV v3.1)],.box (eCu v3.2),false),fix:=some (dL 13 eI ([0,1,2,3,(-1),(-5),(w64 (v1.1-20)),(w64 (v2.1-1000)),1000000000,(-1000000000)]))}),hF 11 [.p (iV v4.1)] (.box (eCu v4.2)),hF 14 [.p (iV v5.1)] (.box (eCu v5.2)),(17,{lend:=some (some [.d false [.sl none (([1,2,3,4,8,7,(w64 (1+v4.1)),(w64 (1+v5.1)),1000000000,999999999]).map eI)]],[.p (iV v6.1)],.box (eCu v6.2),false),fix:=some (dL 22 eI ([1,2,3,4,8,7,(w64 (1+v4.1)),(w64 (1+v5.1)),1000000000,999999999]))}),hC 18 [.p (vRt v7.1),.p (.bool v7.2)]] (B6 (yja hv1) (yja hv2) (show([.d false [.sl none (eraL (([0,1,2,3,(-1),(-5),(w64 (v1.1-20)),(w64 (v2.1-1000)),1000000000,(-1000000000)]).map eI))]]:List Arg)=[.d false [.sl none (([0,1,2,3,(-1),(-5),(w64 (v1.1-20)),(w64 (v2.1-1000)),1000000000,(-1000000000)]).map eI)]] from(by simp only[yka (h:=eI) er_I])) (yna hv3) (show(SV.d false (eraR [.sl (some 3) (([0,1,2,3,(-1),(-5),(w64 (v1.1-20)),(w64 (v2.1-1000)),1000000000,(-1000000000)]).map eI)]):SV)=.d false [.sl none (([0,1,2,3,(-1),(-5),(w64 (v1.1-20)),(w64 (v2.1-1000)),1000000000,(-1000000000)]).map eI)] from(congrArg (fun z=>SV.d false z) (yqf (yka er_I) rfl))) (yja hv4) (A5 (yja hv5) (show([.d false [.sl none (eraL (([1,2,3,4,8,7,(w64 (1+v4.1)),(w64 (1+v5.1)),1000000000,999999999]).map eI))]]:List Arg)=[.d false [.sl none (([1,2,3,4,8,7,(w64 (1+v4.1)),(w64 (1+v5.1)),1000000000,999999999]).map eI)]] from(by simp only[yka (h:=eI) er_I])) (yna hv6) (show(SV.d false (eraR [.sl (some 3) (([1,2,3,4,8,7,(w64 (1+v4.1)),(w64 (1+v5.1)),1000000000,999999999]).map eI)]):SV)=.d false [.sl none (([1,2,3,4,8,7,(w64 (1+v4.1)),(w64 (1+v5.1)),1000000000,999999999]).map eI)] from(congrArg (fun z=>SV.d false z) (yqf (yka er_I) rfl))) (ycc hv7))) ?_
 refine yeb (kG [bC 0 v6.2,bX 2 zR,bR 3 v7.1,pB 28 (!v7.2)] [] trivial ?_)
 refine kI h (fun hc2_7 h=>?_) (fun hc2_7 h=>?_)
 ·obtain⟨v9,hv9,h⟩:=bs h
  refine kG [bC 0 v6.2,bR 2 v9] [hC 0 [.p (vRt v9)]] (A1 (yhb hv9)) ?_
  refine ypa (q_r ?_)
  obtain rfl:=oi h
  exact ebr [(.p (vRt v9),2)]
 refine yga (q_n (kG [bC 0 v6.2,bR 2 v7.1] [] trivial ?_))
 refine ypa ?_
 obtain rfl:=oi h
 exact ebr [(.p (vRt v7.1),2)]
theorem yzc {a0:Cu}  {r:(Qr×Cu)} (h:yub a0=some r):MeetsB Tryz.prog 140 (.box (eCu a0)) [] [.p (vRt r.1)] (.box (eCu r.2)):=by
 refine mob Tryz.func140 [bC 0 a0] ?_
 unfold yub at h
 refine kG [bC 0 a0,bX 2 zR] [] trivial ?_
 obtain⟨v1,hv1,h⟩:=bs h
 refine kG [bC 0 v1.2,bX 2 zR,bR 3 v1.1] [hF 1 [.p (vRt v1.1)] (.box (eCu v1.2))] (A1 (yva1 hv1)) ?_
 refine yeb ?_
 obtain⟨v2,hv2,h⟩:=bs h
 refine kG [bC 0 v2.2,bX 2 zR,bR 3 v1.1,pI 7 v2.1] [hF 1 [.p (iV v2.1)] (.box (eCu v2.2))] (A1 (yja hv2)) ?_
 refine yda (kG [bC 0 v2.2,bX 2 zR,bR 3 v1.1,pI 7 v2.1,pB 8 (v2.1==0)] [] trivial ?_)
 refine kI h (fun hc3_2 h=>?_) (fun hc3_2 h=>?_)
 ·obtain⟨v4,hv4,h⟩:=bs h
  refine yhc (r_gq [bC 0 v4.2,bX 2 zR,bX 3 [rI v1.1.1,rI v4.1]] [(2,{lend:=some (some [.d false [.sl none (([0,(-1),1000000001]).map eI)]],[.p (iV v4.1)],.box (eCu v4.2),false),fix:=some (dL 11 eI ([0,(-1),1000000001]))})] (A3 (show([.d false [.sl none (eraL (([0,(-1),1000000001]).map eI))]]:List Arg)=[.d false [.sl none (([0,(-1),1000000001]).map eI)]] from(by simp only[yka (h:=eI) er_I])) (yna hv4) (show(SV.d false (eraR [.sl (some 3) (([0,(-1),1000000001]).map eI)]):SV)=.d false [.sl none (([0,(-1),1000000001]).map eI)] from(congrArg (fun z=>SV.d false z) (yqf (yka er_I) rfl))))) ?_
  refine b_n (q_n (kG [bC 0 v4.2,bX 2 [rI v1.1.1,rI v4.1]] [] trivial ?_))
  refine ypa ?_
  obtain rfl:=oi h
  exact ebr [(.p (.agg #[.int .i64 v1.1.1,.int .i64 v4.1]),2)]
 refine kG [bC 0 v2.2,bX 2 zR,bR 3 v1.1,pI 7 v2.1,pB 14 (v2.1==1)] [] trivial ?_
 refine kI h (fun hc3_4 h=>?_) (fun hc3_4 h=>?_)
 ·obtain⟨v6,hv6,h⟩:=bs h
  refine yhc (r_gq [bC 0 v6.2,bX 2 zR,bX 3 [rI v6.1,rI v1.1.2]] [(2,{lend:=some (some [.d false [.sl none (([1000000001,(-1000000001),(-9223372036854775808)]).map eI)]],[.p (iV v6.1)],.box (eCu v6.2),false),fix:=some (dL 17 eI ([1000000001,(-1000000001),(-9223372036854775808)]))})] (A3 (show([.d false [.sl none (eraL (([1000000001,(-1000000001),(-9223372036854775808)]).map eI))]]:List Arg)=[.d false [.sl none (([1000000001,(-1000000001),(-9223372036854775808)]).map eI)]] from(by simp only[yka (h:=eI) er_I])) (yna hv6) (show(SV.d false (eraR [.sl (some 3) (([1000000001,(-1000000001),(-9223372036854775808)]).map eI)]):SV)=.d false [.sl none (([1000000001,(-1000000001),(-9223372036854775808)]).map eI)] from(congrArg (fun z=>SV.d false z) (yqf (yka er_I) rfl))))) ?_
  refine b_n (q_n (kG [bC 0 v6.2,bX 2 [rI v6.1,rI v1.1.2]] [] trivial ?_))
  refine ypa ?_
  obtain rfl:=oi h
  exact ebr [(.p (.agg #[.int .i64 v6.1,.int .i64 v1.1.2]),2)]
 refine kG [bC 0 v2.2,bX 2 zR,bR 3 v1.1,pB 20 (v2.1==2)] [] trivial ?_
 refine kI h (fun hc3_6 h=>?_) (fun hc3_6 h=>?_)
 ·obtain⟨v8,hv8,h⟩:=bs h
  obtain⟨v9,hv9,h⟩:=bs h
  refine yhc (r_gq [bC 0 v9.2,bX 2 zR,bX 3 [rI v8.1,rI v9.1]] [(2,{lend:=some (some [.d false [.sl none (([2,0,(-4)]).map eI)]],[.p (iV v8.1)],.box (eCu v8.2),false),fix:=some (dL 23 eI ([2,0,(-4)]))}),(5,{lend:=some (some [.d false [.sl none (([2,4,6]).map eI)]],[.p (iV v9.1)],.box (eCu v9.2),false),fix:=some (dL 26 eI ([2,4,6]))})] (A6 (show([.d false [.sl none (eraL (([2,0,(-4)]).map eI))]]:List Arg)=[.d false [.sl none (([2,0,(-4)]).map eI)]] from(by simp only[yka (h:=eI) er_I])) (yna hv8) (show(SV.d false (eraR [.sl (some 3) (([2,0,(-4)]).map eI)]):SV)=.d false [.sl none (([2,0,(-4)]).map eI)] from(congrArg (fun z=>SV.d false z) (yqf (yka er_I) rfl))) (show([.d false [.sl none (eraL (([2,4,6]).map eI))]]:List Arg)=[.d false [.sl none (([2,4,6]).map eI)]] from(by simp only[yka (h:=eI) er_I])) (yna hv9) (show(SV.d false (eraR [.sl (some 3) (([2,4,6]).map eI)]):SV)=.d false [.sl none (([2,4,6]).map eI)] from(congrArg (fun z=>SV.d false z) (yqf (yka er_I) rfl))))) ?_
  refine b_n (q_n (kG [bC 0 v9.2,bX 2 [rI v8.1,rI v9.1]] [] trivial ?_))
  refine ypa ?_
  obtain rfl:=oi h
  exact ebr [(.p (.agg #[.int .i64 v8.1,.int .i64 v9.1]),2)]
 refine yga (b_n (q_n (kG [bC 0 v2.2,bR 2 v1.1] [] trivial ?_)))
 refine ypa ?_
 obtain rfl:=oi h
 exact ebr [(.p (vRt v1.1),2)]
theorem ysx {a0:Cu}  {r:((List Qp)×Cu)} (h:ylj a0=some r):MeetsB Tryz.prog 71 (.box (eCu a0)) [] [.ov false (oP 96 r.1)] (.box (eCu r.2)):=by
 refine mob Tryz.func71 [bC 0 a0] ?_
 unfold ylj at h
 refine kG [bC 0 a0] [] trivial ?_
 obtain⟨v1,hv1,h⟩:=bs h
 refine kG [bC 0 v1.2,vP 3 96 v1.1] [hF 1 [.ov false (oP 96 v1.1)] (.box (eCu v1.2))] (A1 (yfc1 hv1)) ?_
 obtain⟨v2,hv2,h⟩:=bs h
 obtain⟨v3,hv3,h⟩:=bs h
 refine kG [bC 0 v2.2,vP 3 96 v1.1,(4,.addr 3 [(0,0),((Int.toNat v2.1),0)])] [hN 3 v1.1,hF 4 [.p (iV v2.1)] (.box (eCu v2.2)),hR 5 (ePt v3)] (A4 (lnP v1.1) (yja hv2) (yba hv3).1 (yca ePt (yba hv3).2)) ?_
 refine yjb (J:=fun (x:((List Int)×Int×Int×(List Qp)))=>[bC 0 (x.1,x.2.1,x.2.2.1),vP 3 96 x.2.2.2]) (K:=fun x=>ylc x=some r) (fun x4 h=>?_) ?_
 ·unfold ylc at h
  refine kG [bC 0 (x4.1,x4.2.1,x4.2.2.1),vP 2 96 x4.2.2.2] [] trivial ?_
  refine ypa ?_
  obtain rfl:=oi h
  exact ebr [(.ov false (oP 96 x4.2.2.2),2)]
 obtain⟨v5,hv5,h⟩:=bs h
 refine kG [bC 0 v5.2,vP 3 96 v1.1,(4,.addr 3 [(0,0),((Int.toNat v2.1),0)]),pI 16 v5.1] [hF 1 [.p (iV v5.1)] (.box (eCu v5.2))] (A1 (yja hv5)) ?_
 refine yda (kG [bC 0 v5.2,vP 3 96 v1.1,(4,.addr 3 [(0,0),((Int.toNat v2.1),0)]),pI 16 v5.1,pB 17 (v5.1==0)] [] trivial ?_)
 refine kI h (fun hc3_5 h=>?_) (fun hc3_5 h=>?_)
 ·obtain⟨v7,hv7,h⟩:=bs h
  refine yhc (r_gq [bC 0 v7.2,vP 3 96 (v1.1.set (Int.toNat v2.1) (v7.1,v3.2))] [hF 2 [.p (vRt v7.1)] (.box (eCu v7.2)),(5,{row:=some (ePt v3),fix:=some (vP 3 96 (v1.1.set (Int.toNat v2.1) (v7.1,v3.2)))})] (A3 (yzc hv7) (gW 96 ePt hv3) (show(SV.ov false [.sl (some 96) (setL (v1.1.map ePt) [((Int.toNat v2.1),0)] (eRt v7.1))]:SV)=.ov false (oP 96 (v1.1.set (Int.toNat v2.1) (v7.1,v3.2))) from(congrArg (fun z=>SV.ov false [.sl (some 96) z]) (set1 (f:=ePt) (y:=(v7.1,v3.2)) (yba hv3).2 rfl))))) ?_
  refine b_n (q_n ?_)
  exact jx (v7.2.1,v7.2.2.1,v7.2.2.2,(v1.1.set (Int.toNat v2.1) (v7.1,v3.2))) h
 refine kG [bC 0 v5.2,vP 3 96 v1.1,(4,.addr 3 [(0,0),((Int.toNat v2.1),0)]),pI 16 v5.1,pB 24 (v5.1==1)] [] trivial ?_
 refine kI h (fun hc3_7 h=>?_) (fun hc3_7 h=>?_)
 ·obtain⟨v9,hv9,h⟩:=bs h
  refine yhc (r_gq [bC 0 v9.2,vP 3 96 (v1.1.set (Int.toNat v2.1) (v3.1,v9.1))] [hF 2 [.p (vRt v9.1)] (.box (eCu v9.2)),(5,{row:=some (eRt v3.2),fix:=some (vP 3 96 (v1.1.set (Int.toNat v2.1) (v3.1,v9.1)))})] (A3 (yzc hv9) (show getRow [(oP 96 v1.1)] [(0,0),((Int.toNat v2.1),2)]=some (eRt v3.2) from((gr0 rfl).trans (gre (yca ePt (yba hv3).2)))) (show(SV.ov false [.sl (some 96) (setL (v1.1.map ePt) [((Int.toNat v2.1),2)] (eRt v9.1))]:SV)=.ov false (oP 96 (v1.1.set (Int.toNat v2.1) (v3.1,v9.1))) from(congrArg (fun z=>SV.ov false [.sl (some 96) z]) (set1 (f:=ePt) (y:=(v3.1,v9.1)) (yba hv3).2 rfl))))) ?_
  refine b_n (q_n ?_)
  exact jx (v9.2.1,v9.2.2.1,v9.2.2.2,(v1.1.set (Int.toNat v2.1) (v3.1,v9.1))) h
 refine kG [bC 0 v5.2,vP 3 96 v1.1,(4,.addr 3 [(0,0),((Int.toNat v2.1),0)]),pI 16 v5.1,pB 31 (v5.1==2)] [] trivial ?_
 refine kI h (fun hc3_9 h=>?_) (fun hc3_9 h=>?_)
 ·obtain⟨v11,hv11,h⟩:=bs h
  obtain⟨v12,hv12,h⟩:=bs h
  refine yhc (r_gq [bC 0 v11.2,vP 3 96 (v1.1.set (Int.toNat v2.1) (v3.1,v12.1))] [hF 2 [.p (iV v11.1)] (.box (eCu v11.2)),hC 3 [.p (vRt v12.1),.p (.bool v12.2)],(9,{row:=some (eRt v3.2),fix:=some (vP 3 96 (v1.1.set (Int.toNat v2.1) (v3.1,v12.1)))})] (A4 (yja hv11) (ycc hv12) (show getRow [(oP 96 v1.1)] [(0,0),((Int.toNat v2.1),2)]=some (eRt v3.2) from((gr0 rfl).trans (gre (yca ePt (yba hv3).2)))) (show(SV.ov false [.sl (some 96) (setL (v1.1.map ePt) [((Int.toNat v2.1),2)] (eRt v12.1))]:SV)=.ov false (oP 96 (v1.1.set (Int.toNat v2.1) (v3.1,v12.1))) from(congrArg (fun z=>SV.ov false [.sl (some 96) z]) (set1 (f:=ePt) (y:=(v3.1,v12.1)) (yba hv3).2 rfl))))) ?_
  refine b_n (q_n ?_)
  exact jx (v11.2.1,v11.2.2.1,v11.2.2.2,(v1.1.set (Int.toNat v2.1) (v3.1,v12.1))) h
 refine kG [bC 0 v5.2,vP 3 96 v1.1,pI 16 v5.1,pB 42 (v5.1==3)] [] trivial ?_
 refine kI h (fun hc3_12 h=>?_) (fun hc3_12 h=>?_)
 ·obtain⟨u14,hu14,h⟩:=bs h
  refine yhc (r_gq [bC 0 v5.2,vL 3 96 ePt (v1.1.take (Int.toNat (w64 ((v1.1.length:Int)-1))))] [hN 2 v1.1,(4,{fix:=some (vL 48 96 ePt (v1.1.take (Int.toNat (w64 ((v1.1.length:Int)-1)))))})] (A4 (lnP v1.1) (ysa hu14).1 (show(w64 ((v1.1.length:Int)-1))<=(List.length (v1.1.map ePt):Int) from(by have hg:=(ysa hu14).2;simpa using hg)) (show(SV.ov false [.sl (some 96) ((v1.1.map ePt).take (Int.toNat (w64 ((v1.1.length:Int)-1))))]:SV)=.ov false [.sl (some 96) ((v1.1.take (Int.toNat (w64 ((v1.1.length:Int)-1)))).map ePt)] from(congrArg (fun z=>SV.ov false [.sl (some 96) z]) (List.map_take ..).symm)))) ?_
  refine b_n (q_n ?_)
  exact jx (v5.2.1,v5.2.2.1,v5.2.2.2,(v1.1.take (Int.toNat (w64 ((v1.1.length:Int)-1))))) h
 refine kG [bC 0 v5.2,vP 3 96 v1.1,pB 49 (v5.1==4)] [] trivial ?_
 refine kI h (fun hc3_14 h=>?_) (fun hc3_14 h=>?_)
 ·refine kG [bC 0 v5.2,vN 3 96] [] trivial ?_
  refine yda ?_
  obtain⟨y17,hl_x16,hk_x16⟩:=bs h
  clear h
  refine yyb (J:=fun (x:(List Qp))=>[bC 0 v5.2,vP 3 96 x]) hl_x16 wkk (fun x16 o_x16 h hy_x16=>?_)
  unfold yfn at h
  refine yeb (kG [bC 0 v5.2,vP 3 96 x16,pB 53 (decide ((x16.length:Int)<13))] [hN 1 x16] (A1 (lnP x16)) ?_)
  refine kI h (fun hc6_17 h=>?_) (fun hc6_17 h=>?_)
  ·refine yga (q_n (yda ?_))
   obtain⟨v19,hv19,h⟩:=bs h
   refine kG [bC 0 v5.2,vP 3 96 x16,bR 5 v19.1] [hN 1 x16,hC 2 [.p (vRt v19.1),.p (.bool v19.2)]] (A2 (lnP x16) (ycc hv19)) ?_
   obtain⟨v20,hv20,h⟩:=bs h
   obtain⟨u21,hu21,h⟩:=bs h
   refine yhc (r_dq yfa 5 [] [bC 0 v5.2,vP 3 96 (x16++[(v19.1,v20)])] [hC 2 [.p (vRt v20)],(5,{fix:=some (vP 65 96 (x16++[(v19.1,v20)]))})] (A4 (yhb hv20) (lG' ePt hu21) (show ∀ row∈((([(v19.1,v20)]).map ePt):List (List C)),row.length=4 from(yfc fun _=>rfl)) (aP' 96 ePt x16 ([(v19.1,v20)])))) ?_
   refine b_n ?_
   exact lqn (x16++[(v19.1,v20)]) h
  refine yrb (q_x (lq_x (b_x (b_n ?_))))
  have hyy:=hy_x16 _ (oi h).symm
  subst hyy
  have h:=hk_x16
  refine q_n ?_
  exact jx (v5.2.1,v5.2.2.1,v5.2.2.2,x16) h
 refine yga (b_n (q_n ?_))
 exact jx (v5.2.1,v5.2.2.1,v5.2.2.2,v1.1) h
theorem ygc1 {a0:Qr}  {r:Qr} (h:yzr a0=some r):Meets Tryz.prog 147 [.v (vRt a0)] { vals:=[.p (vRt r)] }:=by
 refine mo Tryz.func147 [(0,.p (vRt a0))] ?_
 unfold yzr at h
 refine kG [bR 1 a0,bX 2 zR] [] trivial ?_
 refine kG [bX 2 [rI (w64 (a0.2-a0.1)),rI a0.2]] [] trivial ?_
 refine ypa ?_
 obtain rfl:=oi h
 exact er [(.p (.agg #[.int .i64 (w64 (a0.2-a0.1)),.int .i64 a0.2]),2)]
theorem ysn {a0:Cu}  {r:((List Qp)×Cu)} (h:ypd a0=some r):MeetsB Tryz.prog 78 (.box (eCu a0)) [] [.ov false (oP 96 r.1)] (.box (eCu r.2)):=by
 refine mob Tryz.func78 [bC 0 a0] ?_
 unfold ypd at h
 refine kG [bC 0 a0] [] trivial ?_
 refine yeb ?_
 obtain⟨v1,hv1,h⟩:=bs h
 refine kG [bC 0 v1.2,pB 17 v1.1] [hF 1 [.p (.bool v1.1)] (.box (eCu v1.2))] (A1 (ytb hv1)) ?_
 refine kI h (fun hc2_1 h=>?_) (fun hc2_1 h=>?_)
 ·obtain⟨v3,hv3,h⟩:=bs h
  refine kG [bC 0 v3.2,vP 2 96 v3.1] [hF 1 [.ov false (oP 96 v3.1)] (.box (eCu v3.2))] (A1 (ysx hv3)) ?_
  refine ypa (q_r ?_)
  obtain rfl:=oi h
  exact ebr [(.ov false (oP 96 v3.1),2)]
 refine yga (q_n ?_)
 obtain⟨v4,hv4,h⟩:=bs h
 refine kG [bC 0 v4.2,pI 3 v4.1] [(2,{lend:=some (some [.d false [.sl none (([2,3,4,4,6]).map eI)]],[.p (iV v4.1)],.box (eCu v4.2),false),fix:=some (dL 21 eI ([2,3,4,4,6]))})] (A3 (show([.d false [.sl none (eraL (([2,3,4,4,6]).map eI))]]:List Arg)=[.d false [.sl none (([2,3,4,4,6]).map eI)]] from(by simp only[yka (h:=eI) er_I])) (yna hv4) (show(SV.d false (eraR [.sl (some 3) (([2,3,4,4,6]).map eI)]):SV)=.d false [.sl none (([2,3,4,4,6]).map eI)] from(congrArg (fun z=>SV.d false z) (yqf (yka er_I) rfl)))) ?_
 refine kG [bC 0 v4.2,pI 3 v4.1,vN 4 96] [] trivial ?_
 refine yjb (J:=fun (x:((List Int)×Int×Int×(List Qp)))=>[bC 0 (x.1,x.2.1,x.2.2.1),vP 4 96 x.2.2.2]) (K:=fun x=>ywe x=some r) (fun x5 h=>?_) ?_
 ·unfold ywe at h
  refine yjb (J:=fun (x:((List Int)×Int×Int×(List Qp)))=>[bC 0 (x.1,x.2.1,x.2.2.1),vP 4 96 x.2.2.2]) (K:=fun x=>yuc x=some r) (fun x6 h=>?_) ?_
  ·unfold yuc at h
   refine yeb ?_
   obtain⟨v7,hv7,h⟩:=bs h
   refine kG [bC 0 v7.2,vP 4 96 x6.2.2.2,pB 96 v7.1] [hF 1 [.p (.bool v7.1)] (.box (eCu v7.2))] (A1 (ytb hv7)) ?_
   refine kI h (fun hc2_7 h=>?_) (fun hc2_7 h=>?_)
   ·obtain⟨v9,hv9,h⟩:=bs h
    obtain⟨v10,hv10,h⟩:=bs h
    refine kG [bC 0 v9.2,bR 12 v10.1] [hF 1 [.p (iV v9.1)] (.box (eCu v9.2)),hC 3 [.p (vRt v10.1),.p (.bool v10.2)]] (A2 (yja hv9) (ycc hv10)) ?_
    obtain⟨v11,hv11,h⟩:=bs h
    obtain⟨v12,hv12,h⟩:=bs h
    refine kG [bC 0 v11.2,bR 12 v10.1,bR 14 v12.1] [hF 1 [.p (iV v11.1)] (.box (eCu v11.2)),hC 3 [.p (vRt v12.1),.p (.bool v12.2)]] (A2 (yja hv11) (ycc hv12)) ?_
    obtain⟨v13,hv13,h⟩:=bs h
    obtain⟨v14,hv14,h⟩:=bs h
    obtain⟨v15,hv15,h⟩:=bs h
    obtain⟨v16,hv16,h⟩:=bs h
    refine yhc (r_dq yfa 9 [] [bC 0 v11.2,vP 4 96 ([(v13,v14),(v10.1,v12.1),(v15,v16)])] [hC 0 [.p (vRt v13)],hC 1 [.p (vRt v14)],hC 6 [.p (vRt v15)],hC 7 [.p (vRt v16)]] (A4 (yhb hv13) (yhb hv14) (yhb hv15) (yhb hv16))) ?_
    refine q_n (kG [bC 0 v11.2,vP 2 96 ([(v13,v14),(v10.1,v12.1),(v15,v16)])] [] trivial ?_)
    refine ypa ?_
    obtain rfl:=oi h
    exact ebr [(.ov false (oP 96 ([(v13,v14),(v10.1,v12.1),(v15,v16)])),2)]
   refine yga (q_n (kG [bC 0 v7.2,vP 2 96 x6.2.2.2] [] trivial ?_))
   refine ypa ?_
   obtain rfl:=oi h
   exact ebr [(.ov false (oP 96 x6.2.2.2),2)]
  obtain⟨v17,hv17,h⟩:=bs h
  refine kG [bC 0 v17.2,vP 4 96 x5.2.2.2,pB 77 v17.1] [hF 1 [.p (.bool v17.1)] (.box (eCu v17.2))] (A1 (ytb hv17)) ?_
  refine kI h (fun hc2_17 h=>?_) (fun hc2_17 h=>?_)
  ·refine kG [bC 0 v17.2,vN 4 96] [] trivial ?_
   refine kG [bC 0 v17.2,vN 4 96,pI 9 0] [] trivial ?_
   refine yda ?_
   obtain⟨y20,hl_x19,hk_x19⟩:=bs h
   clear h
   refine yyb (J:=fun (x:((List Qp)×Int))=>[bC 0 v17.2,vP 4 96 x.1,pI 9 x.2]) hl_x19 wkk (fun x19 o_x19 h hy_x19=>?_)
   unfold yqi at h
   refine yeb (kG [bC 0 v17.2,vP 4 96 x19.1,pI 9 x19.2,pB 79 (decide (x19.2<12))] [] trivial ?_)
   refine kI h (fun hc5_20 h=>?_) (fun hc5_20 h=>?_)
   ·refine yga (q_n (yeb (yda ?_)))
    obtain⟨v22,hv22,h⟩:=bs h
    refine kG [bC 0 v17.2,vP 4 96 x19.1,pI 9 x19.2,bR 10 v22.1] [hC 1 [.p (vRt v22.1),.p (.bool v22.2)]] (A1 (ycc hv22)) ?_
    obtain⟨v23,hv23,h⟩:=bs h
    obtain⟨u24,hu24,h⟩:=bs h
    refine yhc (r_dq yfa 7 [] [bC 0 v17.2,vP 4 96 (x19.1++[(v22.1,v23)]),pI 9 x19.2] [hC 4 [.p (vRt v23)],(7,{fix:=some (vP 94 96 (x19.1++[(v22.1,v23)]))})] (A5 (show 2≠(0:Int) from(by decide)) (yhb hv23) (lG' ePt hu24) (show ∀ row∈((([(v22.1,v23)]).map ePt):List (List C)),row.length=4 from(yfc fun _=>rfl)) (aP' 96 ePt x19.1 ([(v22.1,v23)])))) ?_
    refine b_n (q_n (yhc (r_gq [bC 0 v17.2,vP 4 96 (x19.1++[(v22.1,v23)]),pI 9 (w64 (x19.2+1))] [] trivial) ?_))
    exact lqn ((x19.1++[(v22.1,v23)]),(w64 (x19.2+1))) h
   refine yrb (q_x (lq_x (b_x ?_)))
   have hyy:=hy_x19 _ (oi h).symm
   subst hyy
   have h:=hk_x19
   refine q_n ?_
   exact jx (v17.2.1,v17.2.2.1,v17.2.2.2,x19.1) h
  refine yga (q_n ?_)
  exact jx (v17.2.1,v17.2.2.1,v17.2.2.2,x5.2.2.2) h
 refine kG [bC 0 v4.2,pI 3 v4.1,vN 4 96,pI 5 0] [] trivial ?_
 refine yda ?_
 obtain⟨y26,hl_x25,hk_x25⟩:=bs h
 clear h
 refine yyb (J:=fun (x:((List Int)×Int×Int×(List Qp)×Int))=>[bC 0 (x.1,x.2.1,x.2.2.1),pI 3 v4.1,vP 4 96 x.2.2.2.1,pI 5 x.2.2.2.2]) hl_x25 wkk (fun x25 o_x25 h hy_x25=>?_)
 unfold yri at h
 refine yeb (kG [bC 0 (x25.1,x25.2.1,x25.2.2.1),pI 3 v4.1,vP 4 96 x25.2.2.2.1,pI 5 x25.2.2.2.2,pB 25 (decide (x25.2.2.2.2<=v4.1))] [] trivial ?_)
 refine kI h (fun hc5_26 h=>?_) (fun hc5_26 h=>?_)
 ·refine yga (q_n (yeb (yda ?_)))
  obtain⟨v28,hv28,h⟩:=bs h
  refine kG [bC 0 (x25.1,x25.2.1,x25.2.2.1),pI 3 v4.1,vP 4 96 x25.2.2.2.1,pI 5 x25.2.2.2.2,bR 6 v28.1] [hC 2 [.p (vRt v28.1),.p (.bool v28.2)]] (A1 (ycc hv28)) ?_
  obtain⟨v29,hv29,h⟩:=bs h
  refine kG [bC 0 v29.2,pI 3 v4.1,vP 4 96 x25.2.2.2.1,pI 5 x25.2.2.2.2,bR 6 v28.1,bR 8 v29.1] [hF 2 [.p (vRt v29.1)] (.box (eCu v29.2))] (A1 (yjc hv29)) ?_
  refine yjb (J:=fun (x:((List Int)×Int×Int×Int×Int))=>[bC 0 (x.1,x.2.1,x.2.2.1),pI 3 v4.1,vP 4 96 x25.2.2.2.1,pI 5 x25.2.2.2.2,bR 6 v28.1,bR 8 x.2.2.2]) (K:=fun x=>ykc x25 v28 x=some o_x25) (fun x30 h=>?_) ?_
  ·unfold ykc at h
   obtain⟨u31,hu31,h⟩:=bs h
   refine yhc (r_gq [bC 0 (x30.1,x30.2.1,x30.2.2.1),pI 3 v4.1,vP 4 96 (x25.2.2.2.1++[(v28.1,x30.2.2.2)]),pI 5 x25.2.2.2.2] [(5,{fix:=some (vP 75 96 (x25.2.2.2.1++[(v28.1,x30.2.2.2)]))})] (A3 (lG' ePt hu31) (show ∀ row∈((([(v28.1,x30.2.2.2)]).map ePt):List (List C)),row.length=4 from(yfc fun _=>rfl)) (aP' 96 ePt x25.2.2.2.1 ([(v28.1,x30.2.2.2)])))) ?_
   refine b_n (q_n (yhc (r_gq [bC 0 (x30.1,x30.2.1,x30.2.2.1),pI 3 v4.1,vP 4 96 (x25.2.2.2.1++[(v28.1,x30.2.2.2)]),pI 5 (w64 (x25.2.2.2.2+1))] [] trivial) ?_))
   exact lqn (x30.1,x30.2.1,x30.2.2.1,(x25.2.2.2.1++[(v28.1,x30.2.2.2)]),(w64 (x25.2.2.2.2+1))) h
  obtain⟨w34,hw34,h⟩:=bs h
  refine ynb (l1:=[bC 0 (w34.1,w34.2.1,w34.2.2.1),pI 3 v4.1,vP 4 96 x25.2.2.2.1,pI 5 x25.2.2.2.2,bR 6 v28.1,bR 8 v29.1,pB 55 w34.2.2.2]) ?_ ?_
  ·clear h
   rcases ft (decide ((x25.2.2.2.1.length:Int)>0)) with ha2 | ha2
   ·obtain⟨v32,hv32,hw34⟩:=bs (yjh ha2 hw34)
    rcases ft ((v29.1.1==v32.2.1)&&(v29.1.2==v32.2.2)) with ha3 | ha3
    ·obtain⟨v33,hv33,hw34⟩:=bs (yjh ha3 hw34)
     have hw34:=oi hw34
     subst hw34
     exact(r_dq yfa 12 [] [bC 0 v33.2,pI 3 v4.1,vP 4 96 x25.2.2.2.1,pI 5 x25.2.2.2.2,bR 6 v28.1,bR 8 v29.1,pB 55 (!v33.1)] [hN 1 x25.2.2.2.1,(4,gT),(5,gT),(6,gT),(7,{g:=some true,n:=some x25.2.2.2.1.length}),(8,gT),(9,{g:=some true,row:=some (ePt v32)}),(10,gT),(11,{g:=some true,row:=some (eRt v32.2)}),(12,{g:=some true,pv:=some (.bool ((v29.1.1==v32.2.1)&&(v29.1.2==v32.2.2)))}),(13,bT),(15,gT),(16,{g:=some true,lend:=some (none,[.p (.bool v33.1)],.box (eCu v33.2),false)}),(17,gT),(18,bT)] (B6 (lnP x25.2.2.2.1) ha2 ha2 ha2 ha2 (lnP x25.2.2.2.1) (B6 ha2 ha2 (yba hv32).1 (yca ePt (yba hv32).2) ha2 ha2 (B6 (show getRow [(oP 96 x25.2.2.2.1)] [(0,0),((Int.toNat (w64 ((x25.2.2.2.1.length:Int)-1))),2)]=some (eRt v32.2) from((gr0 rfl).trans (gre (yca ePt (yba hv32).2)))) ha2 (show PureAt Tryz.prog (.binOp .eql 38 (.tmp 41) (.tmp 48) 38) [vRt v29.1,vRt v32.2] (.bool ((v29.1.1==v32.2.1)&&(v29.1.2==v32.2.2))) from(yrf (by kernel_rfl))) ha2 ha3 ha3 (A3 (ytb hv33) ha3 ha3)))))
    replace hw34:=ykh ha3 hw34
    have hw34:=oi hw34
    subst hw34
    exact(r_dq yfa 12 [] [bC 0 v29.2,pI 3 v4.1,vP 4 96 x25.2.2.2.1,pI 5 x25.2.2.2.2,bR 6 v28.1,bR 8 v29.1,pB 55 false] [hN 1 x25.2.2.2.1,(4,gT),(5,gT),(6,gT),(7,{g:=some true,n:=some x25.2.2.2.1.length}),(8,gT),(9,{g:=some true,row:=some (ePt v32)}),(10,gT),(11,{g:=some true,row:=some (eRt v32.2)}),(12,{g:=some true,pv:=some (.bool ((v29.1.1==v32.2.1)&&(v29.1.2==v32.2.2)))}),(13,bT),(15,gF),(16,gF),(17,gF),(18,bF)] (B6 (lnP x25.2.2.2.1) ha2 ha2 ha2 ha2 (lnP x25.2.2.2.1) (B6 ha2 ha2 (yba hv32).1 (yca ePt (yba hv32).2) ha2 ha2 (B6 (show getRow [(oP 96 x25.2.2.2.1)] [(0,0),((Int.toNat (w64 ((x25.2.2.2.1.length:Int)-1))),2)]=some (eRt v32.2) from((gr0 rfl).trans (gre (yca ePt (yba hv32).2)))) ha2 (show PureAt Tryz.prog (.binOp .eql 38 (.tmp 41) (.tmp 48) 38) [vRt v29.1,vRt v32.2] (.bool ((v29.1.1==v32.2.1)&&(v29.1.2==v32.2.2))) from(yrf (by kernel_rfl))) ha2 ha3 ha3 (A2 ha3 ha3)))))
   replace hw34:=ykh ha2 hw34
   have hw34:=oi hw34
   subst hw34
   exact(r_dq yfa 12 [] [bC 0 v29.2,pI 3 v4.1,vP 4 96 x25.2.2.2.1,pI 5 x25.2.2.2.2,bR 6 v28.1,bR 8 v29.1,pB 55 false] [hN 1 x25.2.2.2.1,(4,gF),(5,gF),(6,gF),(7,gF),(8,gF),(9,gF),(10,gF),(11,gF),(12,gF),(13,bF),(15,gF),(16,gF),(17,gF),(18,bF)] (B6 (lnP x25.2.2.2.1) ha2 ha2 ha2 ha2 ha2 (B6 ha2 ha2 ha2 ha2 ha2 fF (A3 fF fF fF))))
  refine kI h (fun hc7_34 h=>?_) (fun hc7_34 h=>?_)
  ·obtain⟨v36,hv36,h⟩:=bs h
   refine kG [bC 0 (w34.1,w34.2.1,w34.2.2.1),pI 3 v4.1,vP 4 96 x25.2.2.2.1,pI 5 x25.2.2.2.2,bR 6 v28.1,bR 8 v36] [hC 1 [.p (vRt v36)]] (A1 (ygc1 hv36)) ?_
   obtain⟨v37,hv37,h⟩:=bs h
   refine ynb (r_dq yfa 8 [] [bC 0 (w34.1,w34.2.1,w34.2.2.1),pI 3 v4.1,vP 4 96 x25.2.2.2.1,pI 5 x25.2.2.2.2,bR 6 v28.1,bR 8 v36,pB 66 ((v36.1==v37.2.1)&&(v36.2==v37.2.2))] [hN 3 x25.2.2.2.1,hR 5 (ePt v37),hR 7 (eRt v37.2),(8,{pv:=some (.bool ((v36.1==v37.2.1)&&(v36.2==v37.2.2)))})] (A5 (lnP x25.2.2.2.1) (yba hv37).1 (yca ePt (yba hv37).2) (show getRow [(oP 96 x25.2.2.2.1)] [(0,0),((Int.toNat (w64 ((x25.2.2.2.1.length:Int)-1))),2)]=some (eRt v37.2) from((gr0 rfl).trans (gre (yca ePt (yba hv37).2)))) (show PureAt Tryz.prog (.binOp .eql 38 (.tmp 58) (.tmp 65) 38) [vRt v36,vRt v37.2] (.bool ((v36.1==v37.2.1)&&(v36.2==v37.2.2))) from(yrf (by kernel_rfl))))) ?_
   refine kI h (fun hc7_37 h=>?_) (fun hc7_37 h=>?_)
   ·obtain⟨v39,hv39,h⟩:=bs h
    refine yhc (r_gq [bC 0 (w34.1,w34.2.1,w34.2.2.1),pI 3 v4.1,vP 4 96 x25.2.2.2.1,pI 5 x25.2.2.2.2,bR 6 v28.1,bR 8 v39] [hC 2 [.p (vRt v39)]] (A2 (show 2≠(0:Int) from(by decide)) (yhb hv39))) ?_
    refine q_n ?_
    exact jx (w34.1,w34.2.1,w34.2.2.1,v39.1,v39.2) h
   refine yga (q_n ?_)
   exact jx (w34.1,w34.2.1,w34.2.2.1,v36.1,v36.2) h
  refine yga (q_n ?_)
  exact jx (w34.1,w34.2.1,w34.2.2.1,v29.1.1,v29.1.2) h
 refine yrb (q_x (lq_x (b_x ?_)))
 have hyy:=hy_x25 _ (oi h).symm
 subst hyy
 have h:=hk_x25
 refine q_n ?_
 exact jx (x25.1,x25.2.1,x25.2.2.1,x25.2.2.2.1) h
theorem ygs {a0:(List Int)}  {r:((List Qp)×Bool)} (h:ymd a0=some r):Meets Tryz.prog 25 [.d false [.sl none (a0.map (eU .u8))]] { vals:=[.ov false (oP 96 r.1),.p (.bool r.2)] }:=by
 refine mo Tryz.func25 [dL 0 (eU .u8) a0] ?_
 unfold ymd at h
 refine kG [dL 0 (eU .u8) a0] [] trivial ?_
 refine kG [(4,.addr 7 [(0,0)]),bC 7 (a0,0,0)] [] trivial ?_
 obtain⟨v1,hv1,h⟩:=bs h
 obtain⟨v2,hv2,h⟩:=bs h
 refine kG [vP 2 96 v1.1,pB 3 v2.1] [hF 1 [.ov false (oP 96 v1.1)] (.box (eCu v1.2)),hF 3 [.p (.bool v2.1)] (.box (eCu v2.2))] (A2 (ysn hv1) (ytb hv2)) ?_
 refine ypa ?_
 obtain rfl:=oi h
 exact er [(.ov false (oP 96 v1.1),2),(.p (.bool v2.1),3)]
theorem ygb {a0:Int} {a1:Int} {a2:Int}  {r:Bool} (h:ybf a0 a1 a2=some r):Meets Tryz.prog 62 [wI a0,wI a1,wI a2] { vals:=[.p (.bool r)] }:=by
 refine mo Tryz.func62 [pI 0 a0,pI 1 a1,pI 2 a2] ?_
 unfold ybf at h
 refine kG [pI 0 a0,pI 1 a1,pI 2 a2] [] trivial ?_
 refine ynb (l1:=[pB 6 ((decide (a1<=a0))&&(decide (a0<=a2)))]) ?_ ?_
 ·rcases ft (decide (a1<=a0)) with ha0 | ha0
  ·exact RegOk.of_eq (r_gq [pB 6 (decide (a0<=a2))] [(4,gT),(5,gT),(6,gT),(7,bT)] (A4 ha0 ha0 ha0 ha0)) (by simp[ha0])
  exact RegOk.of_eq (r_gq [pB 6 false] [(4,gF),(5,gF),(6,gF),(7,bF)] (A4 ha0 ha0 ha0 ha0)) (by simp[ha0])
 refine ypa ?_
 obtain rfl:=oi h
 exact er [(.p (.bool ((decide (a1<=a0))&&(decide (a0<=a2)))),6)]
theorem ymh {a0:(List Qp)} {a1:(Qp->Option Bool)} {F1:FuncId} (hp1:∀ x0 y,a1 x0=some y->Meets Tryz.prog F1 ([.v (vPt x0)]++[]) { vals:=[.p (.bool y)] }) {r:Int} (h:yha a0 a1=some r):Meets Tryz.prog 178 [.d false (sP a0),.v (.func (.func F1) #[] #[])] { vals:=[.p (iV r)] }:=by
 refine mo Tryz.func178 [dP 0 a0,(1,.p (.func (.func F1) #[] #[]))] ?_
 unfold yha at h
 refine kG [dP 0 a0,(1,.p (.func (.func F1) #[] #[]))] [] trivial ?_
 refine yjb (J:=fun (x:Unit)=>[]) (K:=fun x=>ycb x=some r) (fun x1 h=>?_) ?_
 ·unfold ycb at h
  refine kG [pI 4 (-1)] [] trivial ?_
  refine ypa ?_
  obtain rfl:=oi h
  exact er [(.p (iV (-1)),4)]
 refine kG [dP 0 a0,(1,.p (.func (.func F1) #[] #[])),pL 7 a0,pI 8 0] [hN 1 a0] (A1 (lnP a0)) ?_
 refine yda ?_
 obtain⟨y3,hl_x2,hk_x2⟩:=bs h
 clear h
 refine yyb (J:=fun (x:Int)=>[dP 0 a0,(1,.p (.func (.func F1) #[] #[])),pL 7 a0,pI 8 x]) hl_x2 wkk (fun x2 o_x2 h hy_x2=>?_)
 unfold yia at h
 refine kG [dP 0 a0,(1,.p (.func (.func F1) #[] #[])),pL 7 a0,pI 8 x2,pB 9 (decide (x2<(a0.length:Int)))] [] trivial ?_
 refine yeb (kI h (fun hc5_3 h=>?_) (fun hc5_3 h=>?_))
 ·refine yga (q_n (yeb (yda (kG [dP 0 a0,(1,.p (.func (.func F1) #[] #[])),pI 5 x2,pL 7 a0,pI 8 x2] [] trivial ?_))))
  obtain⟨v5,hv5,h⟩:=bs h
  obtain⟨v6,hv6,h⟩:=bs h
  refine kG [dP 0 a0,(1,.p (.func (.func F1) #[] #[])),pI 5 x2,pL 7 a0,pI 8 x2,pB 16 v6] [hR 3 (ePt v5),hC 5 [.p (.bool v6)]] (A3 (yba hv5).1 (yca ePt (yba hv5).2) (hp1 _ _ hv6)) ?_
  refine kI h (fun hc6_6 h=>?_) (fun hc6_6 h=>?_)
  ·refine kG [pI 4 x2] [] trivial ?_
   refine ypa (b_r (q_r (lq_r ?_)))
   refine b_r (q_r ?_)
   have hyy:=hy_x2 _ (oi h).symm
   subst hyy
   have h:=hk_x2
   dsimp only[Sum.elim] at h
   obtain rfl:=oi h
   exact er [(.p (iV x2),4)]
  refine yga (b_n (q_n (yhc (r_gq [dP 0 a0,(1,.p (.func (.func F1) #[] #[])),pL 7 a0,pI 8 (w64 (x2+1))] [] trivial) ?_)))
  exact lqn (w64 (x2+1)) h
 refine yrb (q_x (lq_x (b_x ?_)))
 have hyy:=hy_x2 _ (oi h).symm
 subst hyy
 have h:=hk_x2
 dsimp only[Sum.elim] at h
 refine q_n ?_
 exact jx () h
theorem yqg {a0:(List Qp)} {a1:(Qp->Option Bool)} {F1:FuncId} (hp1:∀ x0 y,a1 x0=some y->Meets Tryz.prog F1 ([.v (vPt x0)]++[]) { vals:=[.p (.bool y)] }) {r:Bool} (h:ydb a0 a1=some r):Meets Tryz.prog 122 [.d false (sP a0),.v (.func (.func F1) #[] #[])] { vals:=[.p (.bool r)] }:=by
 refine mo Tryz.func122 [dP 0 a0,(1,.p (.func (.func F1) #[] #[]))] ?_
 unfold ydb at h
 refine kG [dP 0 a0,(1,.p (.func (.func F1) #[] #[]))] [] trivial ?_
 obtain⟨v1,hv1,h⟩:=bs h
 refine kG [pB 4 (decide (v1>=0))] [hC 2 [.p (iV v1)]] (A1 (show Meets Tryz.prog 178 ([.d false (sP a0),.v (.func (.func F1) #[] #[])]++[]) { vals:=[.p (iV v1)] } from(ymh hp1 hv1))) ?_
 refine ypa ?_
 obtain rfl:=oi h
 exact er [(.p (.bool (decide (v1>=0))),4)]
theorem yxe1 {a0:Int}  {r:Int} (h:yha1 a0=some r):Meets Tryz.prog 225 [wI a0] { vals:=[.p (iV r)] }:=by
 refine mo Tryz.func225 [pI 0 a0] ?_
 unfold yha1 at h
 refine kG [pI 0 a0] [] trivial ?_
 refine yeb (kG [pI 0 a0,pB 4 (decide (a0<0))] [] trivial ?_)
 refine kI h (fun hc2_0 h=>?_) (fun hc2_0 h=>?_)
 ·refine kG [pI 2 (w64 (0-a0))] [] trivial ?_
  refine ypa (q_r ?_)
  obtain rfl:=oi h
  exact er [(.p (iV (w64 (0-a0))),2)]
 refine yga (q_n (kG [pI 2 a0] [] trivial ?_))
 refine ypa ?_
 obtain rfl:=oi h
 exact er [(.p (iV a0),2)]
theorem ytn {a0:Int} {a1:Int}  {r:Int} (h:ynd a0 a1=some r):Meets Tryz.prog 202 [wI a0,wI a1] { vals:=[.p (iV r)] }:=by
 refine mo Tryz.func202 [pI 0 a0,pI 1 a1] ?_
 unfold ynd at h
 refine kG [pI 0 a0,pI 1 a1] [] trivial ?_
 obtain⟨v1,hv1,h⟩:=bs h
 obtain⟨v2,hv2,h⟩:=bs h
 refine kG [pI 0 v1,pI 1 v2] [hC 1 [.p (iV v1)],hC 3 [.p (iV v2)]] (A2 (yxe1 hv1) (yxe1 hv2)) ?_
 refine yjb (J:=fun (x:Int)=>[pI 0 x]) (K:=fun x=>yve x=some r) (fun x3 h=>?_) ?_
 ·unfold yve at h
  refine kG [pI 4 x3] [] trivial ?_
  refine ypa ?_
  obtain rfl:=oi h
  exact er [(.p (iV x3),4)]
 refine yda ?_
 obtain⟨y5,hl_x4,hk_x4⟩:=bs h
 clear h
 refine yyb (J:=fun (x:Qr)=>[pI 0 x.1,pI 1 x.2]) hl_x4 wkk (fun x4 o_x4 h hy_x4=>?_)
 unfold yld at h
 refine yeb (kG [pI 0 x4.1,pI 1 x4.2,pB 10 (x4.2 != 0)] [] trivial ?_)
 refine kI h (fun hc5_5 h=>?_) (fun hc5_5 h=>?_)
 ·refine yga (q_n (yda ?_))
  obtain⟨u7,hu7,h⟩:=bs h
  refine yhc (r_dq yfa 5 [] [pI 0 x4.2,pI 1 (Int.tmod x4.1 x4.2)] [] (A1 (ysa hu7))) ?_
  refine b_n ?_
  exact lqn (x4.2,(Int.tmod x4.1 x4.2)) h
 refine yrb (q_x (lq_x (b_x ?_)))
 have hyy:=hy_x4 _ (oi h).symm
 subst hyy
 have h:=hk_x4
 refine q_n ?_
 exact jx x4.1 h
theorem yfp {a0:Qr}  {r:Bool} (h:yxq a0=some r):Meets Tryz.prog 165 [.v (vRt a0)] { vals:=[.p (.bool r)] }:=by
 refine mo Tryz.func165 [(0,.p (vRt a0))] ?_
 unfold yxq at h
 refine kG [bR 1 a0] [] trivial ?_
 obtain⟨v1,hv1,h⟩:=bs h
 obtain⟨w4,hw4,h⟩:=bs h
 refine ynb (l1:=[pB 2 w4]) ?_ ?_
 ·clear h
  rcases ft v1 with ha0 | ha0
  ·obtain⟨v2,hv2,hw4⟩:=bs (yjh ha0 hw4)
   rcases ft v2 with ha1 | ha1
   ·obtain⟨v3,hv3,hw4⟩:=bs (yjh ha1 hw4)
    have hw4:=oi hw4
    subst hw4
    exact(r_gq [pB 2 (v3==1)] [hC 2 [.p (.bool v1)],(4,gT),(5,gT),(6,{g:=some true,call:=some (none,[.p (.bool v2)],true)}),(7,bT),(9,gT),(10,gT),(11,gT),(12,gT),(13,{g:=some true,call:=some (none,[.p (iV v3)],true)}),(14,gT),(15,bT)] (B6 (ygb hv1) ha0 ha0 ha0 (ygb hv2) ha0 (B6 ha1 ha1 ha1 ha1 ha1 (ytn hv3) (A2 ha1 ha1))))
   replace hw4:=ykh ha1 hw4
   have hw4:=oi hw4
   subst hw4
   exact(r_gq [pB 2 false] [hC 2 [.p (.bool v1)],(4,gT),(5,gT),(6,{g:=some true,call:=some (none,[.p (.bool v2)],true)}),(7,bT),(9,gF),(10,gF),(11,gF),(12,gF),(13,gF),(14,gF),(15,bF)] (B6 (ygb hv1) ha0 ha0 ha0 (ygb hv2) ha0 (B6 ha1 ha1 ha1 ha1 ha1 ha1 (A1 ha1))))
  replace hw4:=ykh ha0 hw4
  have hw4:=oi hw4
  subst hw4
  exact(r_gq [pB 2 false] [hC 2 [.p (.bool v1)],(4,gF),(5,gF),(6,gF),(7,bF),(9,gF),(10,gF),(11,gF),(12,gF),(13,gF),(14,gF),(15,bF)] (B6 (ygb hv1) ha0 ha0 ha0 ha0 fF (A6 fF fF fF fF fF fF)))
 refine ypa ?_
 obtain rfl:=oi h
 exact er [(.p (.bool w4),2)]
theorem yuj {a0:Qr}  {r:Bool} (h:yfm a0=some r):Meets Tryz.prog 99 [.v (vRt a0)] { vals:=[.p (.bool r)] }:=by
 refine mo Tryz.func99 [(0,.p (vRt a0))] ?_
 unfold yfm at h
 refine kG [bR 1 a0] [] trivial ?_
 obtain⟨v1,hv1,h⟩:=bs h
 refine ynb (l1:=[pB 2 (v1&&((decide (a0.1>=0))&&(decide (a0.1<=a0.2))))]) ?_ ?_
 ·rcases ft v1 with ha0 | ha0
  ·rcases ft (decide (a0.1>=0)) with ha1 | ha1
   ·exact RegOk.of_eq (r_gq [pB 2 (decide (a0.1<=a0.2))] [hC 1 [.p (.bool v1)],(3,gT),(4,gT),(5,gT),(6,bT),(8,gT),(9,gT),(10,gT),(11,gT),(12,gT),(13,bT)] (B6 (yfp hv1) ha0 ha0 ha0 ha0 ha1 (A5 ha1 ha1 ha1 ha1 ha1))) (by simp[ha0,ha1])
   exact RegOk.of_eq (r_gq [pB 2 false] [hC 1 [.p (.bool v1)],(3,gT),(4,gT),(5,gT),(6,bT),(8,gF),(9,gF),(10,gF),(11,gF),(12,gF),(13,bF)] (B6 (yfp hv1) ha0 ha0 ha0 ha0 ha1 (A5 ha1 ha1 ha1 ha1 ha1))) (by simp[ha0,ha1])
  exact RegOk.of_eq (r_gq [pB 2 false] [hC 1 [.p (.bool v1)],(3,gF),(4,gF),(5,gF),(6,bF),(8,gF),(9,gF),(10,gF),(11,gF),(12,gF),(13,bF)] (B6 (yfp hv1) ha0 ha0 ha0 ha0 fF (A5 fF fF fF fF fF))) (by simp[ha0])
 refine ypa ?_
 obtain rfl:=oi h
 exact er [(.p (.bool (v1&&((decide (a0.1>=0))&&(decide (a0.1<=a0.2))))),2)]
theorem yhs {a0:Qr}  {r:Bool} (h:yho a0=some r):Meets Tryz.prog 124 [.v (vRt a0)] { vals:=[.p (.bool r)] }:=by
 refine mo Tryz.func124 [(0,.p (vRt a0))] ?_
 unfold yho at h
 refine kG [bR 1 a0] [] trivial ?_
 obtain⟨v1,hv1,h⟩:=bs h
 refine ynb (l1:=[pB 2 (v1&&(decide (a0.2<=100)))]) ?_ ?_
 ·rcases ft v1 with ha0 | ha0
  ·exact RegOk.of_eq (r_gq [pB 2 (decide (a0.2<=100))] [hC 1 [.p (.bool v1)],(3,gT),(4,gT),(5,gT),(6,bT)] (A5 (yuj hv1) ha0 ha0 ha0 ha0)) (by simp[ha0])
  exact RegOk.of_eq (r_gq [pB 2 false] [hC 1 [.p (.bool v1)],(3,gF),(4,gF),(5,gF),(6,bF)] (A5 (yuj hv1) ha0 ha0 ha0 ha0)) (by simp[ha0])
 refine ypa ?_
 obtain rfl:=oi h
 exact er [(.p (.bool (v1&&(decide (a0.2<=100)))),2)]
theorem yrd1 {a0:Qp}  {r:Bool} (h:yio a0=some r):Meets Tryz.prog 123 [.v (vPt a0)] { vals:=[.p (.bool r)] }:=by
 refine mo Tryz.func123 [(0,.p (vPt a0))] ?_
 unfold yio at h
 refine kG [bP 1 a0] [] trivial ?_
 obtain⟨v1,hv1,h⟩:=bs h
 obtain⟨w3,hw3,h⟩:=bs h
 refine ynb (l1:=[pB 2 w3]) ?_ ?_
 ·clear h
  rcases ft (!v1) with ha0 | ha0
  ·replace hw3:=yjh ha0 hw3
   have hw3:=oi hw3
   subst hw3
   exact(r_gq [pB 2 true] [hC 2 [.p (.bool v1)],(5,gT),(6,gT),(7,gT),(8,gT),(9,bT)] (A6 (yhs hv1) ha0 ha0 ha0 ha0 ha0))
  obtain⟨v2,hv2,hw3⟩:=bs (ykh ha0 hw3)
  have hw3:=oi hw3
  subst hw3
  exact(r_gq [pB 2 (!v2)] [hC 2 [.p (.bool v1)],(5,gF),(6,gF),(7,(gN [.p (.bool v2)])),(8,gF),(9,bF)] (B6 (yhs hv1) ha0 ha0 ha0 (yhs hv2) ha0 (A1 ha0)))
 refine ypa ?_
 obtain rfl:=oi h
 exact er [(.p (.bool w3),2)]
theorem yzi   {r:Qr} (h:yil =some r):Meets Tryz.prog 79 [] { vals:=[.p (vRt r)] }:=by
 refine mo Tryz.func79 [] ?_
 unfold yil at h
 refine kG [bX 0 zR] [] trivial ?_
 refine kG [bX 0 [rI 0,rI 1]] [] trivial ?_
 refine ypa ?_
 obtain rfl:=oi h
 exact er [(.p (.agg #[.int .i64 0,.int .i64 1]),0)]
theorem yzp   {r:Qr} (h:yem =some r):Meets Tryz.prog 80 [] { vals:=[.p (vRt r)] }:=by
 refine mo Tryz.func80 [] ?_
 unfold yem at h
 refine kG [bX 0 zR] [] trivial ?_
 refine kG [bX 0 [rI 1,rI 1]] [] trivial ?_
 refine ypa ?_
 obtain rfl:=oi h
 exact er [(.p (.agg #[.int .i64 1,.int .i64 1]),0)]
theorem yrw {a0:(List Qp)}  {r:(List Qr)} (h:ydq a0=some r):Meets Tryz.prog 82 [.d false (sP a0)] { vals:=[rO 38 eRt r] }:=by
 refine mo Tryz.func82 [dP 0 a0] ?_
 unfold ydq at h
 refine kG [dP 0 a0] [] trivial ?_
 refine kG [dP 0 a0,vN 3 38] [] trivial ?_
 refine yjb (J:=fun (x:(List Qr))=>[vL 3 38 eRt x]) (K:=fun x=>yyw x=some r) (fun x1 h=>?_) ?_
 ·unfold yyw at h
  refine kG [vL 2 38 eRt x1] [] trivial ?_
  refine ypa ?_
  obtain rfl:=oi h
  exact er [(.ov false [.sl (some 38) (x1.map eRt)],2)]
 refine kG [vN 3 38,dP 6 a0,pL 7 a0,pI 8 0] [hN 1 a0] (A1 (lnP a0)) ?_
 refine yda ?_
 obtain⟨y3,hl_x2,hk_x2⟩:=bs h
 clear h
 refine yyb (J:=fun (x:((List Qr)×Int))=>[vL 3 38 eRt x.1,dP 6 a0,pL 7 a0,pI 8 x.2]) hl_x2 wkk (fun x2 o_x2 h hy_x2=>?_)
 unfold ysh at h
 refine kG [vL 3 38 eRt x2.1,dP 6 a0,pL 7 a0,pI 8 x2.2,pB 9 (decide (x2.2<(a0.length:Int)))] [] trivial ?_
 refine yeb (kI h (fun hc5_3 h=>?_) (fun hc5_3 h=>?_))
 ·refine yga (q_n (yeb (yda ?_)))
  obtain⟨v5,hv5,h⟩:=bs h
  refine kG [vL 3 38 eRt x2.1,bP 5 v5,dP 6 a0,pL 7 a0,pI 8 x2.2] [hR 0 (ePt v5)] (A2 (yba hv5).1 (yca ePt (yba hv5).2)) ?_
  obtain⟨u6,hu6,h⟩:=bs h
  refine yhc (r_gq [vL 3 38 eRt (x2.1++[v5.1]),dP 6 a0,pL 7 a0,pI 8 x2.2] [(4,{fix:=some (vL 16 38 eRt (x2.1++[v5.1]))})] (A3 (lG' eRt hu6) (show ∀ row∈((([v5.1]).map eRt):List (List C)),row.length=2 from(yfc fun _=>rfl)) (aP' 38 eRt x2.1 ([v5.1])))) ?_
  refine b_n (q_n (yhc (r_gq [vL 3 38 eRt (x2.1++[v5.1]),dP 6 a0,pL 7 a0,pI 8 (w64 (x2.2+1))] [] trivial) ?_))
  exact lqn ((x2.1++[v5.1]),(w64 (x2.2+1))) h
 refine yrb (q_x (lq_x (b_x ?_)))
 have hyy:=hy_x2 _ (oi h).symm
 subst hyy
 have h:=hk_x2
 refine q_n ?_
 exact jx x2.1 h
theorem ybw {a0:Qr} {a1:Qr}  {r:Int} (h:ygj a0 a1=some r):Meets Tryz.prog 151 [.v (vRt a0),.v (vRt a1)] { vals:=[.p (iV r)] }:=by
 refine mo Tryz.func151 [(0,.p (vRt a0)),(1,.p (vRt a1))] ?_
 unfold ygj at h
 refine kG [bR 2 a0,bR 3 a1] [] trivial ?_
 refine yeb (ynb (r_dq yfa 11 [] [pI 5 (w64 (a0.1*a1.2)),pI 6 (w64 (a1.1*a0.2))] [] trivial) ?_)
 refine yda (kG [pI 5 (w64 (a0.1*a1.2)),pI 6 (w64 (a1.1*a0.2)),pB 17 (decide ((w64 (a0.1*a1.2))<(w64 (a1.1*a0.2))))] [] trivial ?_)
 refine kI h (fun hc3_0 h=>?_) (fun hc3_0 h=>?_)
 ·refine kG [pI 4 (-1)] [] trivial ?_
  refine ypa (b_r (q_r ?_))
  obtain rfl:=oi h
  exact er [(.p (iV (-1)),4)]
 refine kG [pB 21 (decide ((w64 (a0.1*a1.2))>(w64 (a1.1*a0.2))))] [] trivial ?_
 refine kI h (fun hc3_1 h=>?_) (fun hc3_1 h=>?_)
 ·refine kG [pI 4 1] [] trivial ?_
  refine ypa (b_r (q_r ?_))
  obtain rfl:=oi h
  exact er [(.p (iV 1),4)]
 refine yga (b_n (q_n (kG [pI 4 0] [] trivial ?_)))
 refine ypa ?_
 obtain rfl:=oi h
 exact er [(.p (iV 0),4)]
theorem ygd {a0:Qr} {a1:Qr}  {r:Bool} (h:yvf a0 a1=some r):Meets Tryz.prog 115 [.v (vRt a0),.v (vRt a1)] { vals:=[.p (.bool r)] }:=by
 refine mo Tryz.func115 [(0,.p (vRt a0)),(1,.p (vRt a1))] ?_
 unfold yvf at h
 refine kG [bR 2 a0,bR 3 a1] [] trivial ?_
 obtain⟨v1,hv1,h⟩:=bs h
 refine kG [pB 4 (decide (v1<0))] [hC 2 [.p (iV v1)]] (A1 (ybw hv1)) ?_
 refine ypa ?_
 obtain rfl:=oi h
 exact er [(.p (.bool (decide (v1<0))),4)]
theorem ysm {a0:(List Qr)}  {r:Bool} (h:ykj a0=some r):Meets Tryz.prog 125 [.d false [.sl none (a0.map eRt)]] { vals:=[.p (.bool r)] }:=by
 refine mo Tryz.func125 [dL 0 eRt a0] ?_
 unfold ykj at h
 refine kG [dL 0 eRt a0] [] trivial ?_
 refine yjb (J:=fun (x:Unit)=>[]) (K:=fun x=>ycn x=some r) (fun x1 h=>?_) ?_
 ·unfold ycn at h
  refine kG [pB 2 true] [] trivial ?_
  refine ypa ?_
  obtain rfl:=oi h
  exact er [(.p (.bool true),2)]
 refine kG [dL 0 eRt a0,pI 3 1] [] trivial ?_
 refine yda ?_
 obtain⟨y3,hl_x2,hk_x2⟩:=bs h
 clear h
 refine yyb (J:=fun (x:Int)=>[dL 0 eRt a0,pI 3 x]) hl_x2 wkk (fun x2 o_x2 h hy_x2=>?_)
 unfold yjj at h
 refine yeb (kG [dL 0 eRt a0,pI 3 x2,pB 7 (decide (x2<(a0.length:Int)))] [hN 2 a0] (A1 (lF eRt a0)) ?_)
 refine kI h (fun hc5_3 h=>?_) (fun hc5_3 h=>?_)
 ·refine yga (q_n (yeb (yda ?_)))
  obtain⟨v5,hv5,h⟩:=bs h
  obtain⟨v6,hv6,h⟩:=bs h
  obtain⟨v7,hv7,h⟩:=bs h
  refine ynb (r_dq yfa 9 [] [dL 0 eRt a0,pI 3 x2,pB 20 (!v7)] [hR 3 (eRt v5),hR 7 (eRt v6),hC 9 [.p (.bool v7)]] (A5 (yba hv5).1 (yca eRt (yba hv5).2) (yba hv6).1 (yca eRt (yba hv6).2) (ygd hv7))) ?_
  refine kI h (fun hc6_7 h=>?_) (fun hc6_7 h=>?_)
  ·refine kG [pB 2 false] [] trivial ?_
   refine ypa (b_r (q_r (lq_r ?_)))
   refine b_r (q_r ?_)
   have hyy:=hy_x2 _ (oi h).symm
   subst hyy
   have h:=hk_x2
   dsimp only[Sum.elim] at h
   obtain rfl:=oi h
   exact er [(.p (.bool false),2)]
  refine yga (b_n (q_n (yhc (r_gq [dL 0 eRt a0,pI 3 (w64 (x2+1))] [] trivial) ?_)))
  exact lqn (w64 (x2+1)) h
 refine yrb (q_x (lq_x (b_x ?_)))
 have hyy:=hy_x2 _ (oi h).symm
 subst hyy
 have h:=hk_x2
 dsimp only[Sum.elim] at h
 refine q_n ?_
 exact jx () h
theorem ysf {a0:(List Qp)}  {r:Bool} (h:yae a0=some r):Meets Tryz.prog 56 [.d false (sP a0)] { vals:=[.p (.bool r)] }:=by
 refine mo Tryz.func56 [dP 0 a0] ?_
 unfold yae at h
 refine kG [dP 0 a0] [] trivial ?_
 refine yeb ?_
 obtain⟨v1,hv1,h⟩:=bs h
 obtain⟨w3,hw3,h⟩:=bs h
 refine ynb (l1:=[dP 0 a0,pB 10 w3]) ?_ ?_
 ·clear h
  rcases ft (!v1) with ha0 | ha0
  ·replace hw3:=yjh ha0 hw3
   have hw3:=oi hw3
   subst hw3
   exact(r_gq [dP 0 a0,pB 10 true] [hN 1 a0,hC 2 [.p (.bool v1)],(5,gT),(6,gT),(7,bT)] (A5 (lnP a0) (ygb hv1) ha0 ha0 ha0))
  obtain⟨v2,hv2,hw3⟩:=bs (ykh ha0 hw3)
  have hw3:=oi hw3
  subst hw3
  exact(r_gq [dP 0 a0,pB 10 v2] [hN 1 a0,hC 2 [.p (.bool v1)],(5,gF),(6,(gN [.p (.bool v2)])),(7,bF)] (A6 (lnP a0) (ygb hv1) ha0 ha0 (show Meets Tryz.prog 122 ([.d false (sP a0),.v (.func (.func 123) #[] #[])]++[]) { vals:=[.p (.bool v2)] } from(yqg (fun x0 y hy=>yrd1 hy) hv2)) ha0))
 refine kI h (fun hc2_3 h=>?_) (fun hc2_3 h=>?_)
 ·refine kG [pB 2 false] [] trivial ?_
  refine ypa (q_r ?_)
  obtain rfl:=oi h
  exact er [(.p (.bool false),2)]
 refine yga (q_n ?_)
 obtain⟨v5,hv5,h⟩:=bs h
 obtain⟨v6,hv6,h⟩:=bs h
 obtain⟨w11,hw11,h⟩:=bs h
 refine ynb (l1:=[pB 2 w11]) ?_ ?_
 ·clear h
  rcases ft ((v5.1.1==v6.1)&&(v5.1.2==v6.2)) with ha1 | ha1
  ·obtain⟨v7,hv7,hw11⟩:=bs (yjh ha1 hw11)
   obtain⟨v8,hv8,hw11⟩:=bs hw11
   rcases ft ((v7.1.1==v8.1)&&(v7.1.2==v8.2)) with ha2 | ha2
   ·obtain⟨v9,hv9,hw11⟩:=bs (yjh ha2 hw11)
    obtain⟨v10,hv10,hw11⟩:=bs hw11
    have hw11:=oi hw11
    subst hw11
    exact(r_dq yfa 15 [] [pB 2 v10] [hR 1 (ePt v5),hC 4 [.p (vRt v6)],(5,{pv:=some (.bool ((v5.1.1==v6.1)&&(v5.1.2==v6.2)))}),(7,gT),(8,gT),(9,{g:=some true,n:=some a0.length}),(10,gT),(11,{g:=some true,row:=some (ePt v7)}),(12,gT),(13,gT),(14,{g:=some true,call:=some (none,[.p (vRt v8)],true)}),(15,{g:=some true,pv:=some (.bool ((v7.1.1==v8.1)&&(v7.1.2==v8.2)))}),(16,bT),(18,gT),(19,{g:=some true,call:=some (none,[rO 38 eRt v9],true)}),(20,{g:=some true,call:=some (some [.d false [.sl none (v9.map eRt)]],[.p (.bool v10)],true)}),(21,bT)] (B6 (yba hv5).1 (yca ePt (yba hv5).2) (yzi hv6) (show PureAt Tryz.prog (.binOp .eql 38 (.tmp 14) (.tmp 15) 38) [vRt v5.1,vRt v6] (.bool ((v5.1.1==v6.1)&&(v5.1.2==v6.2))) from(yrf (by kernel_rfl))) ha1 ha1 (B6 ha1 (lnP a0) ha1 ha1 (yba hv7).1 (yca ePt (yba hv7).2) (B6 ha1 ha1 ha1 (yzp hv8) ha1 (show PureAt Tryz.prog (.binOp .eql 38 (.tmp 24) (.tmp 25) 38) [vRt v7.1,vRt v8] (.bool ((v7.1.1==v8.1)&&(v7.1.2==v8.2))) from(yrf (by kernel_rfl))) (B6 ha1 ha2 ha2 (yrw hv9) (sR' 38 v9) ha2 (A3 (show([.d false [.sl none (eraL (v9.map eRt))]]:List Arg)=[.d false [.sl none (v9.map eRt)]] from(by simp only[yka (h:=eRt) (ywt er_I er_I)])) (ysm hv10) ha2))))))
   replace hw11:=ykh ha2 hw11
   have hw11:=oi hw11
   subst hw11
   exact(r_dq yfa 15 [] [pB 2 false] [hR 1 (ePt v5),hC 4 [.p (vRt v6)],(5,{pv:=some (.bool ((v5.1.1==v6.1)&&(v5.1.2==v6.2)))}),(7,gT),(8,gT),(9,{g:=some true,n:=some a0.length}),(10,gT),(11,{g:=some true,row:=some (ePt v7)}),(12,gT),(13,gT),(14,{g:=some true,call:=some (none,[.p (vRt v8)],true)}),(15,{g:=some true,pv:=some (.bool ((v7.1.1==v8.1)&&(v7.1.2==v8.2)))}),(16,bT),(18,gF),(19,gF),(20,gF),(21,bF)] (B6 (yba hv5).1 (yca ePt (yba hv5).2) (yzi hv6) (show PureAt Tryz.prog (.binOp .eql 38 (.tmp 14) (.tmp 15) 38) [vRt v5.1,vRt v6] (.bool ((v5.1.1==v6.1)&&(v5.1.2==v6.2))) from(yrf (by kernel_rfl))) ha1 ha1 (B6 ha1 (lnP a0) ha1 ha1 (yba hv7).1 (yca ePt (yba hv7).2) (B6 ha1 ha1 ha1 (yzp hv8) ha1 (show PureAt Tryz.prog (.binOp .eql 38 (.tmp 24) (.tmp 25) 38) [vRt v7.1,vRt v8] (.bool ((v7.1.1==v8.1)&&(v7.1.2==v8.2))) from(yrf (by kernel_rfl))) (A5 ha1 ha2 ha2 ha2 ha2)))))
  replace hw11:=ykh ha1 hw11
  have hw11:=oi hw11
  subst hw11
  exact(r_dq yfa 15 [] [pB 2 false] [hR 1 (ePt v5),hC 4 [.p (vRt v6)],(5,{pv:=some (.bool ((v5.1.1==v6.1)&&(v5.1.2==v6.2)))}),(7,gF),(8,gF),(9,gF),(10,gF),(11,gF),(12,gF),(13,gF),(14,gF),(15,gF),(16,bF),(18,gF),(19,gF),(20,gF),(21,bF)] (B6 (yba hv5).1 (yca ePt (yba hv5).2) (yzi hv6) (show PureAt Tryz.prog (.binOp .eql 38 (.tmp 14) (.tmp 15) 38) [vRt v5.1,vRt v6] (.bool ((v5.1.1==v6.1)&&(v5.1.2==v6.2))) from(yrf (by kernel_rfl))) ha1 ha1 (B6 ha1 ha1 ha1 ha1 ha1 ha1 (A6 ha1 ha1 fF fF fF fF))))
 refine ypa ?_
 obtain rfl:=oi h
 exact er [(.p (.bool w11),2)]
theorem ysd1 {a0:Qr}  {r:Qr} (h:yot a0=some r):Meets Tryz.prog 240 [.v (vRt a0)] { vals:=[.p (vRt r)] }:=by
 refine mo Tryz.func240 [(0,.p (vRt a0))] ?_
 unfold yot at h
 refine kG [bR 1 a0,bX 2 zR] [] trivial ?_
 refine kG [bX 2 [rI (w64 (0-a0.1)),rI a0.2]] [] trivial ?_
 refine ypa ?_
 obtain rfl:=oi h
 exact er [(.p (.agg #[.int .i64 (w64 (0-a0.1)),.int .i64 a0.2]),2)]
theorem yso {a0:(List Qr)}  {r:Bool} (h:yol a0=some r):Meets Tryz.prog 238 [.d false [.sl none (a0.map eRt)]] { vals:=[.p (.bool r)] }:=by
 refine mo Tryz.func238 [dL 0 eRt a0] ?_
 unfold yol at h
 refine kG [dL 0 eRt a0] [] trivial ?_
 refine yjb (J:=fun (x:Unit)=>[]) (K:=fun x=>yms x=some r) (fun x1 h=>?_) ?_
 ·unfold yms at h
  refine kG [pB 2 true] [] trivial ?_
  refine ypa ?_
  obtain rfl:=oi h
  exact er [(.p (.bool true),2)]
 refine kG [dL 5 eRt a0,pL 6 a0,pI 7 0] [hN 1 a0] (A1 (lF eRt a0)) ?_
 refine yda ?_
 obtain⟨y3,hl_x2,hk_x2⟩:=bs h
 clear h
 refine yyb (J:=fun (x:Int)=>[dL 5 eRt a0,pL 6 a0,pI 7 x]) hl_x2 wkk (fun x2 o_x2 h hy_x2=>?_)
 unfold yrk at h
 refine kG [dL 5 eRt a0,pL 6 a0,pI 7 x2,pB 8 (decide (x2<(a0.length:Int)))] [] trivial ?_
 refine yeb (kI h (fun hc5_3 h=>?_) (fun hc5_3 h=>?_))
 ·refine yga (q_n (yeb (yda ?_)))
  obtain⟨v5,hv5,h⟩:=bs h
  refine kG [bR 4 v5,dL 5 eRt a0,pL 6 a0,pI 7 x2] [hR 0 (eRt v5)] (A2 (yba hv5).1 (yca eRt (yba hv5).2)) ?_
  obtain⟨v6,hv6,h⟩:=bs h
  refine kG [dL 5 eRt a0,pL 6 a0,pI 7 x2,pB 13 (!v6)] [hC 1 [.p (.bool v6)]] (A1 (yfp hv6)) ?_
  refine kI h (fun hc6_6 h=>?_) (fun hc6_6 h=>?_)
  ·refine kG [pB 2 false] [] trivial ?_
   refine ypa (b_r (q_r (lq_r ?_)))
   refine b_r (q_r ?_)
   have hyy:=hy_x2 _ (oi h).symm
   subst hyy
   have h:=hk_x2
   dsimp only[Sum.elim] at h
   obtain rfl:=oi h
   exact er [(.p (.bool false),2)]
  refine yga (b_n (q_n (yhc (r_gq [dL 5 eRt a0,pL 6 a0,pI 7 (w64 (x2+1))] [] trivial) ?_)))
  exact lqn (w64 (x2+1)) h
 refine yrb (q_x (lq_x (b_x ?_)))
 have hyy:=hy_x2 _ (oi h).symm
 subst hyy
 have h:=hk_x2
 dsimp only[Sum.elim] at h
 refine q_n ?_
 exact jx () h
theorem yit {a0:Int} {a1:Int}  {r:(Qr×Bool)} (h:ydo a0 a1=some r):Meets Tryz.prog 239 [wI a0,wI a1] { vals:=[.p (vRt r.1),.p (.bool r.2)] }:=by
 refine mo Tryz.func239 [pI 0 a0,pI 1 a1] ?_
 unfold ydo at h
 refine kG [pI 0 a0,pI 1 a1,bX 4 zR] [] trivial ?_
 obtain⟨v1,hv1,h⟩:=bs h
 refine kG [pI 0 a0,pI 1 a1,bX 4 zR,pI 6 v1] [hC 2 [.p (iV v1)]] (A1 (ytn hv1)) ?_
 refine yjb (J:=fun (x:Int)=>[pI 0 a0,pI 1 a1,bX 4 zR,pI 6 x]) (K:=fun x=>yyj a0 a1 x=some r) (fun x2 h=>?_) ?_
 ·unfold yyj at h
  obtain⟨u3,hu3,h⟩:=bs h
  refine ynb (r_dq yfa 8 [] [bX 4 zR,bX 7 [rI (w64 (Int.tdiv a0 x2)),rI (w64 (Int.tdiv a1 x2))]] [] (A2 (ysa hu3) (ysa hu3))) ?_
  refine yeb ?_
  obtain⟨v4,hv4,h⟩:=bs h
  refine kG [bX 4 zR,bX 7 [rI (w64 (Int.tdiv a0 x2)),rI (w64 (Int.tdiv a1 x2))],pB 24 (!v4)] [hC 1 [.p (.bool v4)]] (A1 (yfp hv4)) ?_
  refine kI h (fun hc2_4 h=>?_) (fun hc2_4 h=>?_)
  ·refine kG [bX 4 zR,pB 5 false] [] trivial ?_
   refine ypa (q_r ?_)
   obtain rfl:=oi h
   exact er [(.p (.agg #[.int .i64 0,.int .i64 0]),4),(.p (.bool false),5)]
  refine yga (q_n (kG [bX 4 [rI (w64 (Int.tdiv a0 x2)),rI (w64 (Int.tdiv a1 x2))],pB 5 true] [] trivial ?_))
  refine ypa ?_
  obtain rfl:=oi h
  exact er [(.p (.agg #[.int .i64 (w64 (Int.tdiv a0 x2)),.int .i64 (w64 (Int.tdiv a1 x2))]),4),(.p (.bool true),5)]
 refine kG [pI 0 a0,pI 1 a1,bX 4 zR,pI 6 v1,pB 12 (decide (a1<0))] [] trivial ?_
 refine kI h (fun hc2_5 h=>?_) (fun hc2_5 h=>?_)
 ·refine yhc (r_gq [pI 0 a0,pI 1 a1,bX 4 zR,pI 6 (w64 (0-v1))] [] trivial) ?_
  refine q_n ?_
  exact jx (w64 (0-v1)) h
 refine yga (q_n ?_)
 exact jx v1 h
theorem ycw {a0:Qr} {a1:Qr}  {r:(Qr×Bool)} (h:ypl a0 a1=some r):Meets Tryz.prog 228 [.v (vRt a0),.v (vRt a1)] { vals:=[.p (vRt r.1),.p (.bool r.2)] }:=by
 refine mo Tryz.func228 [(0,.p (vRt a0)),(1,.p (vRt a1))] ?_
 unfold ypl at h
 refine kG [bR 2 a0,bR 3 a1,bX 4 zR] [] trivial ?_
 refine yeb ?_
 obtain⟨v1,hv1,h⟩:=bs h
 refine kG [bR 2 a0,bR 3 a1,bX 4 zR,pB 10 (!v1)] [(3,(cS [.d false [.sl none (([a0,a1]).map eRt)]] [.p (.bool v1)]))] (A2 (show([.d false [.sl none (eraL (([a0,a1]).map eRt))]]:List Arg)=[.d false [.sl none (([a0,a1]).map eRt)]] from(by simp only[yka (h:=eRt) (ywt er_I er_I)])) (yso hv1)) ?_
 refine kI h (fun hc2_1 h=>?_) (fun hc2_1 h=>?_)
 ·refine kG [bX 4 zR,pB 5 false] [] trivial ?_
  refine ypa (q_r ?_)
  obtain rfl:=oi h
  exact er [(.p (.agg #[.int .i64 0,.int .i64 0]),4),(.p (.bool false),5)]
 refine yga (q_n ?_)
 obtain⟨v3,hv3,h⟩:=bs h
 refine kG [bR 4 v3.1,pB 5 v3.2] [hC 16 [.p (vRt v3.1),.p (.bool v3.2)]] (A1 (yit hv3)) ?_
 refine ypa ?_
 obtain rfl:=oi h
 exact er [(.p (vRt v3.1),4),(.p (.bool v3.2),5)]
theorem ysw {a0:Qr} {a1:Qr}  {r:(Qr×Bool)} (h:yzh a0 a1=some r):Meets Tryz.prog 230 [.v (vRt a0),.v (vRt a1)] { vals:=[.p (vRt r.1),.p (.bool r.2)] }:=by
 refine mo Tryz.func230 [(0,.p (vRt a0)),(1,.p (vRt a1))] ?_
 unfold yzh at h
 refine kG [bR 2 a0,bR 3 a1,bX 4 zR] [] trivial ?_
 obtain⟨v1,hv1,h⟩:=bs h
 obtain⟨v2,hv2,h⟩:=bs h
 refine ynb (r_dq yfa 3 [] [bR 4 v2.1,pB 5 v2.2] [hC 2 [.p (vRt v1)],hC 3 [.p (vRt v2.1),.p (.bool v2.2)]] (A2 (ysd1 hv1) (ycw hv2))) ?_
 refine ypa ?_
 obtain rfl:=oi h
 exact er [(.p (vRt v2.1),4),(.p (.bool v2.2),5)]
theorem ycl {a0:Bool} {a1:Qr} {a2:Bool}  {r:(Qr×Bool)} (h:ywf a0 a1 a2=some r):MeetsB Tryz.prog 227 (.box [.raw (.bool a0)]) [.v (vRt a1),.v (.bool a2)] [.p (vRt r.1)] (.box [.raw (.bool r.2)]):=by
 refine mob Tryz.func227 [bX 0 [.raw (.bool a0)],(1,.p (vRt a1)),pB 2 a2] ?_
 unfold ywf at h
 refine kG [bX 0 [.raw (.bool a0)],pB 2 a2,bR 4 a1,bX 6 zR] [] trivial ?_
 refine yeb (kG [bX 0 [.raw (.bool a0)],bR 4 a1,bX 6 zR,pB 8 (!a2)] [] trivial ?_)
 refine kI h (fun hc2_0 h=>?_) (fun hc2_0 h=>?_)
 ·refine kG [bX 0 [.raw (.bool true)],bX 6 zR] [] trivial ?_
  obtain⟨v2,hv2,h⟩:=bs h
  refine kG [bX 0 [.raw (.bool true)],bR 6 v2] [hC 0 [.p (vRt v2)]] (A1 (yzi hv2)) ?_
  refine ypa (q_r ?_)
  obtain rfl:=oi h
  exact ebr [(.p (vRt v2),6)]
 refine yga (q_n (kG [bX 0 [.raw (.bool a0)],bR 6 a1] [] trivial ?_))
 refine ypa ?_
 obtain rfl:=oi h
 exact ebr [(.p (vRt a1),6)]
theorem ylq {a0:Bool} {a1:Qr} {a2:Qr}  {r:(Qr×Bool)} (h:ylh a0 a1 a2=some r):MeetsB Tryz.prog 209 (.box [.raw (.bool a0)]) [.v (vRt a1),.v (vRt a2)] [.p (vRt r.1)] (.box [.raw (.bool r.2)]):=by
 refine mob Tryz.func209 [bX 0 [.raw (.bool a0)],(1,.p (vRt a1)),(2,.p (vRt a2))] ?_
 unfold ylh at h
 refine kG [bX 0 [.raw (.bool a0)],bR 4 a1,bR 5 a2,bX 6 zR] [] trivial ?_
 obtain⟨v1,hv1,h⟩:=bs h
 obtain⟨v2,hv2,h⟩:=bs h
 refine kG [bX 0 [.raw (.bool v2.2)],bR 6 v2.1] [hC 3 [.p (vRt v1.1),.p (.bool v1.2)],hT 6 [.p (vRt v2.1)] (.box [.raw (.bool v2.2)])] (A2 (ysw hv1) (ycl hv2)) ?_
 refine ypa ?_
 obtain rfl:=oi h
 exact ebr [(.p (vRt v2.1),6)]
theorem ylz {a0:Qr} {a1:Qr}  {r:(Qr×Bool)} (h:yuk a0 a1=some r):Meets Tryz.prog 229 [.v (vRt a0),.v (vRt a1)] { vals:=[.p (vRt r.1),.p (.bool r.2)] }:=by
 refine mo Tryz.func229 [(0,.p (vRt a0)),(1,.p (vRt a1))] ?_
 unfold yuk at h
 refine kG [bR 2 a0,bR 3 a1,bX 4 zR] [] trivial ?_
 refine yeb ?_
 obtain⟨v1,hv1,h⟩:=bs h
 refine ynb (l1:=[bR 2 a0,bR 3 a1,bX 4 zR,pB 15 ((!v1)||(a1.1==0))]) ?_ ?_
 ·rcases ft (!v1) with ha0 | ha0
  ·exact RegOk.of_eq (r_gq [bR 2 a0,bR 3 a1,bX 4 zR,pB 15 true] [(3,(cS [.d false [.sl none (([a0,a1]).map eRt)]] [.p (.bool v1)])),(6,gT),(7,gT),(8,gT),(9,bT)] (A6 (show([.d false [.sl none (eraL (([a0,a1]).map eRt))]]:List Arg)=[.d false [.sl none (([a0,a1]).map eRt)]] from(by simp only[yka (h:=eRt) (ywt er_I er_I)])) (yso hv1) ha0 ha0 ha0 ha0)) (by simp[ha0])
  exact RegOk.of_eq (r_gq [bR 2 a0,bR 3 a1,bX 4 zR,pB 15 (a1.1==0)] [(3,(cS [.d false [.sl none (([a0,a1]).map eRt)]] [.p (.bool v1)])),(6,gF),(7,gF),(8,gF),(9,bF)] (A6 (show([.d false [.sl none (eraL (([a0,a1]).map eRt))]]:List Arg)=[.d false [.sl none (([a0,a1]).map eRt)]] from(by simp only[yka (h:=eRt) (ywt er_I er_I)])) (yso hv1) ha0 ha0 ha0 ha0)) (by simp[ha0])
 refine kI h (fun hc2_1 h=>?_) (fun hc2_1 h=>?_)
 ·refine kG [bX 4 zR,pB 5 false] [] trivial ?_
  refine ypa (q_r ?_)
  obtain rfl:=oi h
  exact er [(.p (.agg #[.int .i64 0,.int .i64 0]),4),(.p (.bool false),5)]
 refine yga (q_n ?_)
 obtain⟨v3,hv3,h⟩:=bs h
 refine kG [bR 4 v3.1,pB 5 v3.2] [hC 10 [.p (vRt v3.1),.p (.bool v3.2)]] (A1 (yit hv3)) ?_
 refine ypa ?_
 obtain rfl:=oi h
 exact er [(.p (vRt v3.1),4),(.p (.bool v3.2),5)]
theorem yhc1 {a0:Bool} {a1:Qr} {a2:Qr}  {r:(Qr×Bool)} (h:ygm a0 a1 a2=some r):MeetsB Tryz.prog 208 (.box [.raw (.bool a0)]) [.v (vRt a1),.v (vRt a2)] [.p (vRt r.1)] (.box [.raw (.bool r.2)]):=by
 refine mob Tryz.func208 [bX 0 [.raw (.bool a0)],(1,.p (vRt a1)),(2,.p (vRt a2))] ?_
 unfold ygm at h
 refine kG [bX 0 [.raw (.bool a0)],bR 4 a1,bR 5 a2,bX 6 zR] [] trivial ?_
 obtain⟨v1,hv1,h⟩:=bs h
 obtain⟨v2,hv2,h⟩:=bs h
 refine kG [bX 0 [.raw (.bool v2.2)],bR 6 v2.1] [hC 3 [.p (vRt v1.1),.p (.bool v1.2)],hT 6 [.p (vRt v2.1)] (.box [.raw (.bool v2.2)])] (A2 (ylz hv1) (ycl hv2)) ?_
 refine ypa ?_
 obtain rfl:=oi h
 exact ebr [(.p (vRt v2.1),6)]
theorem yxs {a0:Bool} {a1:Qp} {a2:Qp}  {r:(Qr×Bool)} (h:ymg a0 a1 a2=some r):MeetsB Tryz.prog 175 (.box [.raw (.bool a0)]) [.v (vPt a1),.v (vPt a2)] [.p (vRt r.1)] (.box [.raw (.bool r.2)]):=by
 refine mob Tryz.func175 [bX 0 [.raw (.bool a0)],(1,.p (vPt a1)),(2,.p (vPt a2))] ?_
 unfold ymg at h
 refine kG [bX 0 [.raw (.bool a0)],bP 4 a1,bP 5 a2,bX 6 zR] [] trivial ?_
 obtain⟨v1,hv1,h⟩:=bs h
 obtain⟨v2,hv2,h⟩:=bs h
 obtain⟨v3,hv3,h⟩:=bs h
 refine ynb (r_dq yfa 13 [(6,0),(12,0)] [bX 0 [.raw (.bool v3.2)],bR 6 v3.1] [hT 6 [.p (vRt v1.1)] (.box [.raw (.bool v1.2)]),hT 12 [.p (vRt v2.1)] (.box [.raw (.bool v2.2)]),hT 13 [.p (vRt v3.1)] (.box [.raw (.bool v3.2)])] (A3 (ylq hv1) (ylq hv2) (yhc1 hv3))) ?_
 refine ypa ?_
 obtain rfl:=oi h
 exact ebr [(.p (vRt v3.1),6)]
theorem ytx {a0:(List Qp)}  {r:(List Qr)} (h:yim a0=some r):Meets Tryz.prog 149 [.d false (sP a0)] { vals:=[rO 38 eRt r] }:=by
 refine mo Tryz.func149 [dP 0 a0] ?_
 unfold yim at h
 refine kG [dP 0 a0] [] trivial ?_
 refine kG [dP 0 a0,bX 3 [.raw (.bool false)]] [] trivial ?_
 refine kG [dP 0 a0,bX 3 [.raw (.bool false)],vN 4 38] [] trivial ?_
 refine yjb (J:=fun (x:(List Qr))=>[vL 4 38 eRt x]) (K:=fun x=>yqt x=some r) (fun x1 h=>?_) ?_
 ·unfold yqt at h
  refine kG [vL 2 38 eRt x1] [] trivial ?_
  refine ypa ?_
  obtain rfl:=oi h
  exact er [(.ov false [.sl (some 38) (x1.map eRt)],2)]
 refine kG [dP 0 a0,bX 3 [.raw (.bool false)],vN 4 38,pI 5 1] [] trivial ?_
 refine yda ?_
 obtain⟨y3,hl_x2,hk_x2⟩:=bs h
 clear h
 refine yyb (J:=fun (x:(Bool×(List Qr)×Int))=>[dP 0 a0,bX 3 [.raw (.bool x.1)],vL 4 38 eRt x.2.1,pI 5 x.2.2]) hl_x2 wkk (fun x2 o_x2 h hy_x2=>?_)
 unfold yxf at h
 refine yeb (kG [dP 0 a0,bX 3 [.raw (.bool x2.1)],vL 4 38 eRt x2.2.1,pI 5 x2.2.2,pB 9 (decide (x2.2.2<(a0.length:Int)))] [hN 2 a0] (A1 (lnP a0)) ?_)
 refine kI h (fun hc5_3 h=>?_) (fun hc5_3 h=>?_)
 ·refine yga (q_n (yeb (yda ?_)))
  obtain⟨v5,hv5,h⟩:=bs h
  obtain⟨v6,hv6,h⟩:=bs h
  obtain⟨v7,hv7,h⟩:=bs h
  obtain⟨u8,hu8,h⟩:=bs h
  refine yhc (r_dq yfa 12 [(10,3)] [dP 0 a0,bX 3 [.raw (.bool v7.2)],vL 4 38 eRt (x2.2.1++[v7.1]),pI 5 x2.2.2] [hR 4 (ePt v5),hR 8 (ePt v6),hT 10 [.p (vRt v7.1)] (.box [.raw (.bool v7.2)]),(12,{fix:=some (vL 24 38 eRt (x2.2.1++[v7.1]))})] (B6 (yba hv5).1 (yca ePt (yba hv5).2) (yba hv6).1 (yca ePt (yba hv6).2) (yxs hv7) (lG' eRt hu8) (A2 (show ∀ row∈((([v7.1]).map eRt):List (List C)),row.length=2 from(yfc fun _=>rfl)) (aP' 38 eRt x2.2.1 ([v7.1]))))) ?_
  refine b_n (q_n (yhc (r_gq [dP 0 a0,bX 3 [.raw (.bool v7.2)],vL 4 38 eRt (x2.2.1++[v7.1]),pI 5 (w64 (x2.2.2+1))] [] trivial) ?_))
  exact lqn (v7.2,(x2.2.1++[v7.1]),(w64 (x2.2.2+1))) h
 refine yrb (q_x (lq_x (b_x ?_)))
 have hyy:=hy_x2 _ (oi h).symm
 subst hyy
 have h:=hk_x2
 refine q_n ?_
 exact jx x2.2.1 h
theorem yic1 {a0:Qr}  {r:Int} (h:yvv a0=some r):Meets Tryz.prog 189 [.v (vRt a0)] { vals:=[.p (iV r)] }:=by
 refine mo Tryz.func189 [(0,.p (vRt a0))] ?_
 unfold yvv at h
 refine kG [bR 1 a0] [] trivial ?_
 obtain⟨v1,hv1,h⟩:=bs h
 obtain⟨v2,hv2,h⟩:=bs h
 refine ynb (r_dq yfa 2 [] [pI 2 v2] [hC 1 [.p (vRt v1)],hC 2 [.p (iV v2)]] (A2 (yzi hv1) (ybw hv2))) ?_
 refine ypa ?_
 obtain rfl:=oi h
 exact er [(.p (iV v2),2)]
theorem yzj1 {a0:(List Qp)}  {r:(List (List Int))} (h:ymy a0=some r):Meets Tryz.prog 148 [.d false (sP a0)] { vals:=[rO 32 (eO 3 eI) r] }:=by
 refine mo Tryz.func148 [dP 0 a0] ?_
 unfold ymy at h
 refine kG [dP 0 a0] [] trivial ?_
 refine kG [dP 0 a0,vN 3 32] [] trivial ?_
 refine yjb (J:=fun (x:(List (List Int)))=>[vL 3 32 (eO 3 eI) x]) (K:=fun x=>yzw x=some r) (fun x1 h=>?_) ?_
 ·unfold yzw at h
  refine kG [vL 2 32 (eO 3 eI) x1] [] trivial ?_
  refine ypa ?_
  obtain rfl:=oi h
  exact er [(.ov false [.sl (some 32) (x1.map (eO 3 eI))],2)]
 obtain⟨v2,hv2,h⟩:=bs h
 refine kG [vN 3 32,vL 8 38 eRt v2,pL 9 v2,pI 10 0] [hC 1 [rO 38 eRt v2],hN 2 v2] (A3 (ytx hv2) (sR' 38 v2) (lF eRt v2)) ?_
 refine yda ?_
 obtain⟨y4,hl_x3,hk_x3⟩:=bs h
 clear h
 refine yyb (J:=fun (x:((List (List Int))×Int))=>[vL 3 32 (eO 3 eI) x.1,vL 8 38 eRt v2,pL 9 v2,pI 10 x.2]) hl_x3 wkk (fun x3 o_x3 h hy_x3=>?_)
 unfold yjo at h
 refine kG [vL 3 32 (eO 3 eI) x3.1,vL 8 38 eRt v2,pL 9 v2,pI 10 x3.2,pB 11 (decide (x3.2<(v2.length:Int)))] [] trivial ?_
 refine yeb (kI h (fun hc5_4 h=>?_) (fun hc5_4 h=>?_))
 ·refine yga (q_n (yeb (yda ?_)))
  obtain⟨v6,hv6,h⟩:=bs h
  refine kG [vL 3 32 (eO 3 eI) x3.1,pI 4 x3.2,bR 5 v6,vL 8 38 eRt v2,pL 9 v2,pI 10 x3.2] [hR 1 (eRt v6),hR 2 (eRt v6)] (A3 (yba hv6).1 (yca eRt (yba hv6).2) (gW 38 eRt hv6)) ?_
  refine kG [vL 3 32 (eO 3 eI) x3.1,pI 4 x3.2,bR 5 v6,pI 6 (w64 ((x3.1.length:Int)-1)),vL 8 38 eRt v2,pL 9 v2,pI 10 x3.2] [hN 1 x3.1] (A1 (lF (eO 3 eI) x3.1)) ?_
  obtain⟨w10,hw10,h⟩:=bs h
  refine ynb (l1:=[vL 3 32 (eO 3 eI) x3.1,pI 4 x3.2,bR 5 v6,pI 6 (w64 ((x3.1.length:Int)-1)),vL 8 38 eRt v2,pL 9 v2,pI 10 x3.2,pB 30 w10]) ?_ ?_
  ·clear h
   rcases ft (decide ((w64 ((x3.1.length:Int)-1))>=0)) with ha1 | ha1
   ·obtain⟨v7,hv7,hw10⟩:=bs (yjh ha1 hw10)
    obtain⟨v8,hv8,hw10⟩:=bs hw10
    obtain⟨v9,hv9,hw10⟩:=bs hw10
    have hw10:=oi hw10
    subst hw10
    exact(r_dq yfa 11 [] [vL 3 32 (eO 3 eI) x3.1,pI 4 x3.2,bR 5 v6,pI 6 (w64 ((x3.1.length:Int)-1)),vL 8 38 eRt v2,pL 9 v2,pI 10 x3.2,pB 30 (v8==v9)] [(3,gT),(4,gT),(5,{g:=some true,row:=some [.sl (some 3) (v7.map eI)]}),(6,{g:=some true,row:=some [.sl (some 3) (v7.map eI)]}),(7,{g:=some true,deep:=some [.sl (some 3) (v7.map eI)],row:=some (eI v8)}),(8,{g:=some true,row:=some (eI v8)}),(9,gT),(10,{g:=some true,call:=some (none,[.p (iV v9)],true)}),(11,gT),(12,bT)] (B6 ha1 ha1 ha1 (yba hv7).1 (yca (eO 3 eI) (yba hv7).2) ha1 (B6 (show frR [.sl (some 3) (v7.map eI)]=false from rfl) (gW 32 (eO 3 eI) hv7) ha1 (yba hv8).1 (yca eI (yba hv8).2) (gW 32 (eO 3 eI) hv7) (B6 ha1 (show getRow [[.sl (some 32) (x3.1.map (eO 3 eI))]] [(0,0),((Int.toNat (w64 ((x3.1.length:Int)-1))),0),((Int.toNat 2),0)]=some (eI v8) from((gr0 rfl).trans ((grs (yca (eO 3 eI) (yba hv7).2) rfl).trans (gre (yca eI (yba hv8).2))))) ha1 ha1 (yic1 hv9) ha1 (A1 ha1)))))
   replace hw10:=ykh ha1 hw10
   have hw10:=oi hw10
   subst hw10
   exact(r_dq yfa 11 [] [vL 3 32 (eO 3 eI) x3.1,pI 4 x3.2,bR 5 v6,pI 6 (w64 ((x3.1.length:Int)-1)),vL 8 38 eRt v2,pL 9 v2,pI 10 x3.2,pB 30 false] [(3,gF),(4,gF),(5,gF),(6,gF),(7,gF),(8,gF),(9,gF),(10,gF),(11,gF),(12,bF)] (B6 ha1 ha1 ha1 ha1 ha1 ha1 (A4 ha1 ha1 ha1 ha1)))
  refine kI h (fun hc6_10 h=>?_) (fun hc6_10 h=>?_)
  ·obtain⟨v12,hv12,h⟩:=bs h
   obtain⟨v13,hv13,h⟩:=bs h
   refine yhc (r_gq [vL 3 32 (eO 3 eI) (x3.1.set (Int.toNat (w64 ((x3.1.length:Int)-1))) (v12.set (Int.toNat 1) (w64 (x3.2+1)))),vL 8 38 eRt v2,pL 9 v2,pI 10 x3.2] [hR 2 [.sl (some 3) (v12.map eI)],hR 3 [.sl (some 3) (v12.map eI)],(6,{deep:=some [.sl (some 3) (v12.map eI)],row:=some (eI v13)}),(7,{row:=some (eI v13),fix:=some (vL 3 32 (eO 3 eI) (x3.1.set (Int.toNat (w64 ((x3.1.length:Int)-1))) (v12.set (Int.toNat 1) (w64 (x3.2+1)))))})] (B6 (yba hv12).1 (yca (eO 3 eI) (yba hv12).2) (show frR [.sl (some 3) (v12.map eI)]=false from rfl) (gW 32 (eO 3 eI) hv12) (yba hv13).1 (yca eI (yba hv13).2) (A3 (gW 32 (eO 3 eI) hv12) (show getRow [[.sl (some 32) (x3.1.map (eO 3 eI))]] [(0,0),((Int.toNat (w64 ((x3.1.length:Int)-1))),0),((Int.toNat 1),0)]=some (eI v13) from((gr0 rfl).trans ((grs (yca (eO 3 eI) (yba hv12).2) rfl).trans (gre (yca eI (yba hv13).2))))) (show(SV.ov false [.sl (some 32) (setL (x3.1.map (eO 3 eI)) [((Int.toNat (w64 ((x3.1.length:Int)-1))),0),((Int.toNat 1),0)] [rI (w64 (x3.2+1))])]:SV)=.ov false [.sl (some 32) ((x3.1.set (Int.toNat (w64 ((x3.1.length:Int)-1))) (v12.set (Int.toNat 1) (w64 (x3.2+1)))).map (eO 3 eI))] from(congrArg (fun z=>SV.ov false [.sl (some 32) z]) (set2 (f:=(eO 3 eI)) (y:=(v12.set (Int.toNat 1) (w64 (x3.2+1)))) (yba hv12).2 rfl (set1 (f:=eI) (y:=(w64 (x3.2+1))) (yba hv13).2 rfl) rfl)))))) ?_
   refine b_n (q_n (yhc (r_gq [vL 3 32 (eO 3 eI) (x3.1.set (Int.toNat (w64 ((x3.1.length:Int)-1))) (v12.set (Int.toNat 1) (w64 (x3.2+1)))),vL 8 38 eRt v2,pL 9 v2,pI 10 (w64 (x3.2+1))] [] trivial) ?_))
   exact lqn ((x3.1.set (Int.toNat (w64 ((x3.1.length:Int)-1))) (v12.set (Int.toNat 1) (w64 (x3.2+1)))),(w64 (x3.2+1))) h
  obtain⟨v14,hv14,h⟩:=bs h
  obtain⟨u15,hu15,h⟩:=bs h
  refine yhc (r_gq [vL 3 32 (eO 3 eI) (x3.1++[[x3.2,(w64 (x3.2+1)),v14]]),vL 8 38 eRt v2,pL 9 v2,pI 10 x3.2] [hC 5 [.p (iV v14)],(8,{fix:=some (vL 46 32 (eO 3 eI) (x3.1++[[x3.2,(w64 (x3.2+1)),v14]]))})] (A4 (yic1 hv14) (lG' (eO 3 eI) hu15) (show ∀ row∈((([[x3.2,(w64 (x3.2+1)),v14]]).map (eO 3 eI)):List (List C)),row.length=1 from(yfc fun _=>rfl)) (aP' 32 (eO 3 eI) x3.1 ([[x3.2,(w64 (x3.2+1)),v14]])))) ?_
  refine b_n (q_n (yhc (r_gq [vL 3 32 (eO 3 eI) (x3.1++[[x3.2,(w64 (x3.2+1)),v14]]),vL 8 38 eRt v2,pL 9 v2,pI 10 (w64 (x3.2+1))] [] trivial) ?_))
  exact lqn ((x3.1++[[x3.2,(w64 (x3.2+1)),v14]]),(w64 (x3.2+1))) h
 refine yrb (q_x (lq_x (b_x ?_)))
 have hyy:=hy_x3 _ (oi h).symm
 subst hyy
 have h:=hk_x3
 refine q_n ?_
 exact jx x3.1 h
theorem yoa1 {a0:(List Qp)}  {r:(List Qr)} (h:yer a0=some r):Meets Tryz.prog 81 [.d false (sP a0)] { vals:=[rO 38 eRt r] }:=by
 refine mo Tryz.func81 [dP 0 a0] ?_
 unfold yer at h
 refine kG [dP 0 a0] [] trivial ?_
 refine kG [dP 0 a0,vN 3 38] [] trivial ?_
 refine yjb (J:=fun (x:(List Qr))=>[vL 3 38 eRt x]) (K:=fun x=>ydv x=some r) (fun x1 h=>?_) ?_
 ·unfold ydv at h
  refine kG [vL 2 38 eRt x1] [] trivial ?_
  refine ypa ?_
  obtain rfl:=oi h
  exact er [(.ov false [.sl (some 38) (x1.map eRt)],2)]
 obtain⟨v2,hv2,h⟩:=bs h
 obtain⟨u3,hu3,h⟩:=bs h
 refine kG [dP 0 a0,vN 3 38,dL 8 (eF eI) (v2.drop (Int.toNat 1)),pL 9 (v2.drop (Int.toNat 1)),pI 10 0] [hC 1 [rO 32 (eO 3 eI) v2],(2,{pre:=some (dL 7 (eF eI) v2),fix:=some (dL 8 (eF eI) (v2.drop (Int.toNat 1)))}),hN 3 (v2.drop (Int.toNat 1))] (B6 (yzj1 hv2) (show List.all [rO 32 (eO 3 eI) v2] simpleR=true from(sa_o (wnR1 (yvc (wn_O wn_I)) rfl) rfl)) (show(SV.d false (eraR [.sl (some 32) (v2.map (eO 3 eI))]):SV)=.d false [.sl none (v2.map (eF eI))] from(congrArg (fun z=>SV.d false z) (yqf (yka (yxr1 er_I)) rfl))) (show(Int.toNat 1)<=(v2.map (eF eI)).length from(by have hg:=(ysa hu3);first | (simp only[List.length_map];omega) | omega)) (show(v2.map (eF eI)).length<=(v2.map (eF eI)).length from(Nat.le_refl _)) (show ∀ row∈(v2.map (eF eI)),row.length=1 from(yfc fun _=>rfl)) (A3 (show(0:Int)<=1 from(by have hg:=(ysa hu3);omega)) (show(SV.d false [.sl none (((v2.map (eF eI)).take (v2.map (eF eI)).length).drop (Int.toNat 1))]:SV)=.d false [.sl none ((v2.drop (Int.toNat 1)).map (eF eI))] from(congrArg (fun z=>SV.d false [.sl none z]) ypy1)) (lF (eF eI) (v2.drop (Int.toNat 1))))) ?_
 refine yda ?_
 obtain⟨y5,hl_x4,hk_x4⟩:=bs h
 clear h
 refine yyb (J:=fun (x:((List Qr)×Int))=>[dP 0 a0,vL 3 38 eRt x.1,dL 8 (eF eI) (v2.drop (Int.toNat 1)),pL 9 (v2.drop (Int.toNat 1)),pI 10 x.2]) hl_x4 wkk (fun x4 o_x4 h hy_x4=>?_)
 unfold yjm at h
 refine kG [dP 0 a0,vL 3 38 eRt x4.1,dL 8 (eF eI) (v2.drop (Int.toNat 1)),pL 9 (v2.drop (Int.toNat 1)),pI 10 x4.2,pB 11 (decide (x4.2<((v2.drop (Int.toNat 1)).length:Int)))] [] trivial ?_
 refine yeb (kI h (fun hc5_5 h=>?_) (fun hc5_5 h=>?_))
 ·refine yga (q_n (yeb (yda ?_)))
  obtain⟨v7,hv7,h⟩:=bs h
  refine kG [dP 0 a0,vL 3 38 eRt x4.1,dL 5 eI v7,dL 8 (eF eI) (v2.drop (Int.toNat 1)),pL 9 (v2.drop (Int.toNat 1)),pI 10 x4.2] [hR 0 [.sl none (v7.map eI)]] (A2 (yba hv7).1 (yca (eF eI) (yba hv7).2)) ?_
  obtain⟨v8,hv8,h⟩:=bs h
  obtain⟨v9,hv9,h⟩:=bs h
  obtain⟨u10,hu10,h⟩:=bs h
  refine yhc (r_gq [dP 0 a0,vL 3 38 eRt (x4.1++[v9.1]),dL 8 (eF eI) (v2.drop (Int.toNat 1)),pL 9 (v2.drop (Int.toNat 1)),pI 10 x4.2] [hR 3 (eI v8),hR 5 (ePt v9),(9,{fix:=some (vL 23 38 eRt (x4.1++[v9.1]))})] (B6 (yba hv8).1 (yca eI (yba hv8).2) (yba hv9).1 (yca ePt (yba hv9).2) (lG' eRt hu10) (show ∀ row∈((([v9.1]).map eRt):List (List C)),row.length=2 from(yfc fun _=>rfl)) (A1 (aP' 38 eRt x4.1 ([v9.1]))))) ?_
  refine b_n (q_n (yhc (r_gq [dP 0 a0,vL 3 38 eRt (x4.1++[v9.1]),dL 8 (eF eI) (v2.drop (Int.toNat 1)),pL 9 (v2.drop (Int.toNat 1)),pI 10 (w64 (x4.2+1))] [] trivial) ?_))
  exact lqn ((x4.1++[v9.1]),(w64 (x4.2+1))) h
 refine yrb (q_x (lq_x (b_x ?_)))
 have hyy:=hy_x4 _ (oi h).symm
 subst hyy
 have h:=hk_x4
 refine q_n ?_
 exact jx x4.1 h
theorem yux {a0:(List Qp)}  {r:(List Qp)} (h:ygq a0=some r):Meets Tryz.prog 83 [.d false (sP a0)] { vals:=[.ov false (oP 96 r)] }:=by
 refine mo Tryz.func83 [dP 0 a0] ?_
 unfold ygq at h
 refine kG [dP 0 a0] [] trivial ?_
 obtain⟨v1,hv1,h⟩:=bs h
 refine kG [dP 0 a0,vL 3 38 eRt v1] [hC 1 [rO 38 eRt v1]] (A2 (ytx hv1) (sR' 38 v1)) ?_
 obtain⟨v2,hv2,h⟩:=bs h
 refine kG [dP 0 a0,vL 3 38 eRt v1,vP 4 96 ([v2])] [hR 1 (ePt v2)] (A2 (yba hv2).1 (yca ePt (yba hv2).2)) ?_
 refine yjb (J:=fun (x:(List Qp))=>[dP 0 a0,vP 4 96 x]) (K:=fun x=>yeq a0 x=some r) (fun x3 h=>?_) ?_
 ·unfold yeq at h
  obtain⟨v4,hv4,h⟩:=bs h
  obtain⟨u5,hu5,h⟩:=bs h
  refine kG [vP 2 96 (x3++[v4])] [hN 3 a0,hR 5 (ePt v4),(8,{fix:=some (vP 44 96 (x3++[v4]))})] (A6 (lnP a0) (yba hv4).1 (yca ePt (yba hv4).2) (lG' ePt hu5) (show ∀ row∈((([v4]).map ePt):List (List C)),row.length=4 from(yfc fun _=>rfl)) (aP' 96 ePt x3 ([v4]))) ?_
  refine ypa ?_
  obtain rfl:=oi h
  exact er [(.ov false (oP 96 (x3++[v4])),2)]
 refine kG [dP 0 a0,vL 3 38 eRt v1,vP 4 96 ([v2]),pI 5 1] [] trivial ?_
 refine yda ?_
 obtain⟨y7,hl_x6,hk_x6⟩:=bs h
 clear h
 refine yyb (J:=fun (x:((List Qp)×Int))=>[dP 0 a0,vL 3 38 eRt v1,vP 4 96 x.1,pI 5 x.2]) hl_x6 wkk (fun x6 o_x6 h hy_x6=>?_)
 unfold ygk at h
 refine yeb (kG [dP 0 a0,vL 3 38 eRt v1,vP 4 96 x6.1,pI 5 x6.2,pB 16 (decide (x6.2<(w64 ((a0.length:Int)-1))))] [hN 2 a0] (A1 (lnP a0)) ?_)
 refine kI h (fun hc5_7 h=>?_) (fun hc5_7 h=>?_)
 ·refine yga (q_n (yeb (yda ?_)))
  obtain⟨v9,hv9,h⟩:=bs h
  obtain⟨v10,hv10,h⟩:=bs h
  refine ynb (r_dq yfa 9 [] [dP 0 a0,vL 3 38 eRt v1,vP 4 96 x6.1,pI 5 x6.2,pB 28 (nR v9 v10)] [hR 3 (eRt v9),hR 4 (eRt v9),hR 7 (eRt v10),hR 8 (eRt v10),(9,{pv:=some (.bool (nR v9 v10))})] (B6 (yba hv9).1 (yca eRt (yba hv9).2) (gW 38 eRt hv9) (yba hv10).1 (yca eRt (yba hv10).2) (gW 38 eRt hv10) (A1 (show PureAt Tryz.prog (.binOp .neq 38 (.tmp 23) (.tmp 27) 38) [vRt v9,vRt v10] (.bool (nR v9 v10)) from(yrf1 (by kernel_rfl)))))) ?_
  refine kI h (fun hc6_10 h=>?_) (fun hc6_10 h=>?_)
  ·obtain⟨v12,hv12,h⟩:=bs h
   obtain⟨u13,hu13,h⟩:=bs h
   refine yhc (r_gq [dP 0 a0,vL 3 38 eRt v1,vP 4 96 (x6.1++[v12]),pI 5 x6.2] [hR 3 (ePt v12),(6,{fix:=some (vP 35 96 (x6.1++[v12]))})] (A5 (yba hv12).1 (yca ePt (yba hv12).2) (lG' ePt hu13) (show ∀ row∈((([v12]).map ePt):List (List C)),row.length=4 from(yfc fun _=>rfl)) (aP' 96 ePt x6.1 ([v12])))) ?_
   refine b_n (q_n (yhc (r_gq [dP 0 a0,vL 3 38 eRt v1,vP 4 96 (x6.1++[v12]),pI 5 (w64 (x6.2+1))] [] trivial) ?_))
   exact lqn ((x6.1++[v12]),(w64 (x6.2+1))) h
  refine yga (b_n (q_n (yhc (r_gq [dP 0 a0,vL 3 38 eRt v1,vP 4 96 x6.1,pI 5 (w64 (x6.2+1))] [] trivial) ?_)))
  exact lqn (x6.1,(w64 (x6.2+1))) h
 refine yrb (q_x (lq_x (b_x ?_)))
 have hyy:=hy_x6 _ (oi h).symm
 subst hyy
 have h:=hk_x6
 refine q_n ?_
 exact jx x6.1 h
theorem ypk {a0:List Qr} {r:List Qr} (h:ymc a0=some r):MeetsB Tryz.prog 150 (.ov false [.sl (some 38) (a0.map eRt)]) [.v (.func (.func 151) #[] #[])] [] (.ov false [.sl (some 38) (r.map eRt)]):=by
 unfold ymc at h
 obtain⟨u1,hu1,h⟩:=bind_some' h
 have hg:=ysa hu1
 obtain rfl:=Option.some.inj h
 exact meets_sortS hg.2 (Nat.lt_of_le_of_lt hg.1 (by decide))
theorem yml {a0:List Qr} {r:List Qr} (h:yoc a0=some r):MeetsB Tryz.prog 152 (.ov false [.sl (some 38) (a0.map eRt)]) [] [rO 38 eRt r] .u:=by
 unfold yoc at h
 obtain rfl:=Option.some.inj h
 exact meets_compactS
theorem yvx {a0:(List Qr)}  {r:(List Qr)} (h:ykm a0=some r):MeetsB Tryz.prog 84 (.ov false [.sl (some 38) (a0.map eRt)]) [] [rO 38 eRt r] (.u):=by
 refine mob Tryz.func84 [vL 0 38 eRt a0] ?_
 unfold ykm at h
 refine kG [vL 0 38 eRt a0] [] trivial ?_
 obtain⟨v1,hv1,h⟩:=bs h
 refine kG [vL 0 38 eRt v1] [(1,{lend:=some (none,[],.ov false [.sl (some 38) (v1.map eRt)],true)})] (A2 (ypk hv1) (show(List.all [] simpleR&&wnS (.ov false [.sl (some 38) (v1.map eRt)]))=true from(ls_t rfl (wnR1 (yvc (wn_P wn_I wn_I)) rfl)))) ?_
 obtain⟨v2,hv2,h⟩:=bs h
 refine kG [vL 2 38 eRt v2] [(1,{lend:=some (none,[rO 38 eRt v2],.u,true)})] (A2 (yml hv2) (sR' 38 v2)) ?_
 refine ypa ?_
 obtain rfl:=oi h
 exact ebr [(.ov false [.sl (some 38) (v2.map eRt)],2)]
theorem ynh {a0:(List Qp)} {a1:(Qp->Option Bool)} {F1:FuncId} {K1:List (Bool×List C)} (hp1:∀ x0 y,a1 x0=some y->Meets Tryz.prog F1 ([.v (vPt x0)]++(K1.map fun (g,cs)=>mkA g cs)) { vals:=[.p (.bool y)] }) {r:Int} (h:yha a0 a1=some r):Meets Tryz.prog 178 [.d false (sP a0),.d false [.fn F1 K1]] { vals:=[.p (iV r)] }:=by
 refine mo Tryz.func178 [dP 0 a0,(1,.d false [.fn F1 K1])] ?_
 unfold yha at h
 refine kG [dP 0 a0,(1,.d false [.fn F1 K1])] [] trivial ?_
 refine yjb (J:=fun (x:Unit)=>[]) (K:=fun x=>ycb x=some r) (fun x1 h=>?_) ?_
 ·unfold ycb at h
  refine kG [pI 4 (-1)] [] trivial ?_
  refine ypa ?_
  obtain rfl:=oi h
  exact er [(.p (iV (-1)),4)]
 refine kG [dP 0 a0,(1,.d false [.fn F1 K1]),pL 7 a0,pI 8 0] [hN 1 a0] (A1 (lnP a0)) ?_
 refine yda ?_
 obtain⟨y3,hl_x2,hk_x2⟩:=bs h
 clear h
 refine yyb (J:=fun (x:Int)=>[dP 0 a0,(1,.d false [.fn F1 K1]),pL 7 a0,pI 8 x]) hl_x2 wkk (fun x2 o_x2 h hy_x2=>?_)
 unfold yia at h
 refine kG [dP 0 a0,(1,.d false [.fn F1 K1]),pL 7 a0,pI 8 x2,pB 9 (decide (x2<(a0.length:Int)))] [] trivial ?_
 refine yeb (kI h (fun hc5_3 h=>?_) (fun hc5_3 h=>?_))
 ·refine yga (q_n (yeb (yda (kG [dP 0 a0,(1,.d false [.fn F1 K1]),pI 5 x2,pL 7 a0,pI 8 x2] [] trivial ?_))))
  obtain⟨v5,hv5,h⟩:=bs h
  obtain⟨v6,hv6,h⟩:=bs h
  refine kG [dP 0 a0,(1,.d false [.fn F1 K1]),pI 5 x2,pL 7 a0,pI 8 x2,pB 16 v6] [hR 3 (ePt v5),hC 5 [.p (.bool v6)]] (A3 (yba hv5).1 (yca ePt (yba hv5).2) (hp1 _ _ hv6)) ?_
  refine kI h (fun hc6_6 h=>?_) (fun hc6_6 h=>?_)
  ·refine kG [pI 4 x2] [] trivial ?_
   refine ypa (b_r (q_r (lq_r ?_)))
   refine b_r (q_r ?_)
   have hyy:=hy_x2 _ (oi h).symm
   subst hyy
   have h:=hk_x2
   dsimp only[Sum.elim] at h
   obtain rfl:=oi h
   exact er [(.p (iV x2),4)]
  refine yga (b_n (q_n (yhc (r_gq [dP 0 a0,(1,.d false [.fn F1 K1]),pL 7 a0,pI 8 (w64 (x2+1))] [] trivial) ?_)))
  exact lqn (w64 (x2+1)) h
 refine yrb (q_x (lq_x (b_x ?_)))
 have hyy:=hy_x2 _ (oi h).symm
 subst hyy
 have h:=hk_x2
 dsimp only[Sum.elim] at h
 refine q_n ?_
 exact jx () h
theorem ywa1 {a0:Qp} {c0:Qr}  {r:Bool} (h:yzm a0 c0=some r):Meets Tryz.prog 210 [.v (vPt a0),.d false [.pt (eRt c0)]] { vals:=[.p (.bool r)] }:=by
 refine mo Tryz.func210 [(0,.p (vPt a0)),(1,.d false [.pt (eRt c0)])] ?_
 unfold yzm at h
 refine kG [(1,.d false [.pt (eRt c0)]),bP 2 a0] [] trivial ?_
 obtain⟨v1,hv1,h⟩:=bs h
 refine kG [pB 3 (!v1)] [hC 3 [.p (.bool v1)]] (A1 (ygd hv1)) ?_
 refine ypa ?_
 obtain rfl:=oi h
 exact er [(.p (.bool (!v1)),3)]
theorem ytd1 {a0:(List Qp)} {a1:Qr}  {r:Int} (h:ycr a0 a1=some r):Meets Tryz.prog 173 [.d false (sP a0),.v (vRt a1)] { vals:=[.p (iV r)] }:=by
 refine mo Tryz.func173 [dP 0 a0,(1,.p (vRt a1))] ?_
 unfold ycr at h
 refine kG [dP 0 a0,bR 3 a1] [] trivial ?_
 refine yib2 3 (eRt a1) (eRt a1) [dP 0 a0,(3,.d false [.pt (eRt a1)])] (by kernel_rfl) (yqt1 (yqt1 rfl)) (by kernel_rfl) (by kernel_rfl) ?_
 obtain⟨v1,hv1,h⟩:=bs h
 refine kG [pI 5 v1] [hC 2 [.p (iV v1)]] (A1 (show Meets Tryz.prog 178 ([.d false (sP a0),.d false [.fn 210 [(false,[.pt (eRt a1)])]]]++[]) { vals:=[.p (iV v1)] } from(ynh (fun x0 y hy=>ywa1 hy) hv1))) ?_
 refine kG [pI 4 (if(w64 (v1-1))<0 then 0 else(w64 (v1-1)))] [] trivial ?_
 refine ypa ?_
 obtain rfl:=oi h
 exact er [(.p (iV (if(w64 (v1-1))<0 then 0 else(w64 (v1-1)))),4)]
theorem ytw {a0:Qr} {a1:Qr}  {r:(Qr×Bool)} (h:ybi a0 a1=some r):Meets Tryz.prog 231 [.v (vRt a0),.v (vRt a1)] { vals:=[.p (vRt r.1),.p (.bool r.2)] }:=by
 refine mo Tryz.func231 [(0,.p (vRt a0)),(1,.p (vRt a1))] ?_
 unfold ybi at h
 refine kG [bR 2 a0,bR 3 a1,bX 4 zR] [] trivial ?_
 refine yeb ?_
 obtain⟨v1,hv1,h⟩:=bs h
 refine kG [bR 2 a0,bR 3 a1,bX 4 zR,pB 10 (!v1)] [(3,(cS [.d false [.sl none (([a0,a1]).map eRt)]] [.p (.bool v1)]))] (A2 (show([.d false [.sl none (eraL (([a0,a1]).map eRt))]]:List Arg)=[.d false [.sl none (([a0,a1]).map eRt)]] from(by simp only[yka (h:=eRt) (ywt er_I er_I)])) (yso hv1)) ?_
 refine kI h (fun hc2_1 h=>?_) (fun hc2_1 h=>?_)
 ·refine kG [bX 4 zR,pB 5 false] [] trivial ?_
  refine ypa (q_r ?_)
  obtain rfl:=oi h
  exact er [(.p (.agg #[.int .i64 0,.int .i64 0]),4),(.p (.bool false),5)]
 refine yga (q_n ?_)
 obtain⟨v3,hv3,h⟩:=bs h
 refine kG [bR 4 v3.1,pB 5 v3.2] [hC 10 [.p (vRt v3.1),.p (.bool v3.2)]] (A1 (yit hv3)) ?_
 refine ypa ?_
 obtain rfl:=oi h
 exact er [(.p (vRt v3.1),4),(.p (.bool v3.2),5)]
theorem yjc1 {a0:Bool} {a1:Qr} {a2:Qr}  {r:(Qr×Bool)} (h:yjp a0 a1 a2=some r):MeetsB Tryz.prog 211 (.box [.raw (.bool a0)]) [.v (vRt a1),.v (vRt a2)] [.p (vRt r.1)] (.box [.raw (.bool r.2)]):=by
 refine mob Tryz.func211 [bX 0 [.raw (.bool a0)],(1,.p (vRt a1)),(2,.p (vRt a2))] ?_
 unfold yjp at h
 refine kG [bX 0 [.raw (.bool a0)],bR 4 a1,bR 5 a2,bX 6 zR] [] trivial ?_
 obtain⟨v1,hv1,h⟩:=bs h
 obtain⟨v2,hv2,h⟩:=bs h
 refine kG [bX 0 [.raw (.bool v2.2)],bR 6 v2.1] [hC 3 [.p (vRt v1.1),.p (.bool v1.2)],hT 6 [.p (vRt v2.1)] (.box [.raw (.bool v2.2)])] (A2 (ytw hv1) (ycl hv2)) ?_
 refine ypa ?_
 obtain rfl:=oi h
 exact ebr [(.p (vRt v2.1),6)]
theorem ykc1 {a0:Bool} {a1:Qr} {a2:Qr}  {r:(Qr×Bool)} (h:yhm a0 a1 a2=some r):MeetsB Tryz.prog 207 (.box [.raw (.bool a0)]) [.v (vRt a1),.v (vRt a2)] [.p (vRt r.1)] (.box [.raw (.bool r.2)]):=by
 refine mob Tryz.func207 [bX 0 [.raw (.bool a0)],(1,.p (vRt a1)),(2,.p (vRt a2))] ?_
 unfold yhm at h
 refine kG [bX 0 [.raw (.bool a0)],bR 4 a1,bR 5 a2,bX 6 zR] [] trivial ?_
 obtain⟨v1,hv1,h⟩:=bs h
 obtain⟨v2,hv2,h⟩:=bs h
 refine kG [bX 0 [.raw (.bool v2.2)],bR 6 v2.1] [hC 3 [.p (vRt v1.1),.p (.bool v1.2)],hT 6 [.p (vRt v2.1)] (.box [.raw (.bool v2.2)])] (A2 (ycw hv1) (ycl hv2)) ?_
 refine ypa ?_
 obtain rfl:=oi h
 exact ebr [(.p (vRt v2.1),6)]
theorem yxa1 {a0:Bool} {a1:Qp} {a2:Qr} {a3:Qr}  {r:(Qr×Bool)} (h:yan a0 a1 a2 a3=some r):MeetsB Tryz.prog 174 (.box [.raw (.bool a0)]) [.v (vPt a1),.v (vRt a2),.v (vRt a3)] [.p (vRt r.1)] (.box [.raw (.bool r.2)]):=by
 refine mob Tryz.func174 [bX 0 [.raw (.bool a0)],(1,.p (vPt a1)),(2,.p (vRt a2)),(3,.p (vRt a3))] ?_
 unfold yan at h
 refine kG [bX 0 [.raw (.bool a0)],bP 5 a1,bR 6 a2,bR 7 a3,bX 8 zR] [] trivial ?_
 obtain⟨v1,hv1,h⟩:=bs h
 obtain⟨v2,hv2,h⟩:=bs h
 obtain⟨v3,hv3,h⟩:=bs h
 refine ynb (r_dq yfa 11 [(9,0),(10,0)] [bX 0 [.raw (.bool v3.2)],bR 8 v3.1] [hT 9 [.p (vRt v1.1)] (.box [.raw (.bool v1.2)]),hT 10 [.p (vRt v2.1)] (.box [.raw (.bool v2.2)]),hT 11 [.p (vRt v3.1)] (.box [.raw (.bool v3.2)])] (A3 (ylq hv1) (yjc1 hv2) (ykc1 hv3))) ?_
 refine ypa ?_
 obtain rfl:=oi h
 exact ebr [(.p (vRt v3.1),8)]
theorem yvj {a0:Bool} {a1:(List Qp)} {a2:Qr}  {r:(Qr×Bool)} (h:ytc a0 a1 a2=some r):MeetsB Tryz.prog 116 (.box [.raw (.bool a0)]) [.d false (sP a1),.v (vRt a2)] [.p (vRt r.1)] (.box [.raw (.bool r.2)]):=by
 refine mob Tryz.func116 [bX 0 [.raw (.bool a0)],dP 1 a1,(2,.p (vRt a2))] ?_
 unfold ytc at h
 refine kG [bX 0 [.raw (.bool a0)],dP 1 a1,bR 5 a2,bX 6 zR] [] trivial ?_
 obtain⟨v1,hv1,h⟩:=bs h
 refine kG [bX 0 [.raw (.bool a0)],dP 1 a1,bR 5 a2,bX 6 zR,pI 7 v1] [hC 2 [.p (iV v1)]] (A1 (ytd1 hv1)) ?_
 obtain⟨v2,hv2,h⟩:=bs h
 obtain⟨v3,hv3,h⟩:=bs h
 obtain⟨v4,hv4,h⟩:=bs h
 obtain⟨v5,hv5,h⟩:=bs h
 refine ynb (r_dq yfa 17 [(15,0)] [bX 0 [.raw (.bool v5.2)],bR 6 v5.1] [hR 3 (ePt v2),hR 8 (ePt v2),hR 13 (ePt v3),hT 15 [.p (vRt v4.1)] (.box [.raw (.bool v4.2)]),hT 17 [.p (vRt v5.1)] (.box [.raw (.bool v5.2)])] (B6 (yba hv2).1 (yca ePt (yba hv2).2) (yba hv2).1 (yca ePt (yba hv2).2) (yba hv3).1 (yca ePt (yba hv3).2) (A2 (yxs hv4) (yxa1 hv5)))) ?_
 refine ypa ?_
 obtain rfl:=oi h
 exact ebr [(.p (vRt v5.1),6)]
theorem ytr {a0:Bool} {a1:(List Qp)} {a2:(List Qr)}  {r:((List Qr)×Bool)} (h:yah a0 a1 a2=some r):MeetsB Tryz.prog 86 (.box [.raw (.bool a0)]) [.d false (sP a1),.d false [.sl none (a2.map eRt)]] [rO 38 eRt r.1] (.box [.raw (.bool r.2)]):=by
 refine mob Tryz.func86 [bX 0 [.raw (.bool a0)],dP 1 a1,dL 2 eRt a2] ?_
 unfold yah at h
 refine kG [bX 0 [.raw (.bool a0)],dP 1 a1,dL 2 eRt a2] [] trivial ?_
 refine kG [bX 0 [.raw (.bool a0)],dP 1 a1,dL 2 eRt a2,vN 7 38] [] trivial ?_
 refine yjb (J:=fun (x:(Bool×(List Qr)))=>[bX 0 [.raw (.bool x.1)],vL 7 38 eRt x.2]) (K:=fun x=>ykn x=some r) (fun x1 h=>?_) ?_
 ·unfold ykn at h
  refine kG [bX 0 [.raw (.bool x1.1)],vL 6 38 eRt x1.2] [] trivial ?_
  refine ypa ?_
  obtain rfl:=oi h
  exact ebr [(.ov false [.sl (some 38) (x1.2.map eRt)],6)]
 refine kG [bX 0 [.raw (.bool a0)],dP 1 a1,vN 7 38,dL 10 eRt a2,pL 11 a2,pI 12 0] [hN 1 a2] (A1 (lF eRt a2)) ?_
 refine yda ?_
 obtain⟨y3,hl_x2,hk_x2⟩:=bs h
 clear h
 refine yyb (J:=fun (x:(Bool×(List Qr)×Int))=>[bX 0 [.raw (.bool x.1)],dP 1 a1,vL 7 38 eRt x.2.1,dL 10 eRt a2,pL 11 a2,pI 12 x.2.2]) hl_x2 wkk (fun x2 o_x2 h hy_x2=>?_)
 unfold yln at h
 refine kG [bX 0 [.raw (.bool x2.1)],dP 1 a1,vL 7 38 eRt x2.2.1,dL 10 eRt a2,pL 11 a2,pI 12 x2.2.2,pB 13 (decide (x2.2.2<(a2.length:Int)))] [] trivial ?_
 refine yeb (kI h (fun hc5_3 h=>?_) (fun hc5_3 h=>?_))
 ·refine yga (q_n (yeb (yda ?_)))
  obtain⟨v5,hv5,h⟩:=bs h
  refine kG [bX 0 [.raw (.bool x2.1)],dP 1 a1,vL 7 38 eRt x2.2.1,bR 9 v5,dL 10 eRt a2,pL 11 a2,pI 12 x2.2.2] [hR 0 (eRt v5)] (A2 (yba hv5).1 (yca eRt (yba hv5).2)) ?_
  obtain⟨v6,hv6,h⟩:=bs h
  obtain⟨u7,hu7,h⟩:=bs h
  refine yhc (r_gq [bX 0 [.raw (.bool v6.2)],dP 1 a1,vL 7 38 eRt (x2.2.1++[v6.1]),dL 10 eRt a2,pL 11 a2,pI 12 x2.2.2] [hT 4 [.p (vRt v6.1)] (.box [.raw (.bool v6.2)]),(6,{fix:=some (vL 22 38 eRt (x2.2.1++[v6.1]))})] (A4 (yvj hv6) (lG' eRt hu7) (show ∀ row∈((([v6.1]).map eRt):List (List C)),row.length=2 from(yfc fun _=>rfl)) (aP' 38 eRt x2.2.1 ([v6.1])))) ?_
  refine b_n (q_n (yhc (r_gq [bX 0 [.raw (.bool v6.2)],dP 1 a1,vL 7 38 eRt (x2.2.1++[v6.1]),dL 10 eRt a2,pL 11 a2,pI 12 (w64 (x2.2.2+1))] [] trivial) ?_))
  exact lqn (v6.2,(x2.2.1++[v6.1]),(w64 (x2.2.2+1))) h
 refine yrb (q_x (lq_x (b_x ?_)))
 have hyy:=hy_x2 _ (oi h).symm
 subst hyy
 have h:=hk_x2
 refine q_n ?_
 exact jx (x2.1,x2.2.1) h
theorem yom {a0:(List (List Qr))}  {r:(List Qr)} (h:ywb a0=some r):Meets Tryz.prog 85 [.d false [.sl none (a0.map (eF eRt))]] { vals:=[rO 38 eRt r] }:=by
 refine mo Tryz.func85 [dL 0 (eF eRt) a0] ?_
 unfold ywb at h
 refine kG [dL 0 (eF eRt) a0] [] trivial ?_
 refine kG [dL 0 (eF eRt) a0,pI 3 0] [] trivial ?_
 refine yjb (J:=fun (x:Int)=>[dL 0 (eF eRt) a0,pI 3 x]) (K:=fun x=>yic a0 x=some r) (fun x1 h=>?_) ?_
 ·unfold yic at h
  obtain⟨u2,hu2,h⟩:=bs h
  refine ynb (yoc2 (n:=1) (l3:=[dL 0 (eF eRt) a0,vN 6 38]) [dL 0 (eF eRt) a0,pI 3 x1,pI 23 x1] [dL 0 (eF eRt) a0,pI 3 x1,pI 23 x1,vN 24 38] [] [] trivial trivial (ywv1 (e:=38) growS (ysa hu2) ⟨rfl,rfl⟩) rfl rfl) ?_
  refine yjb (J:=fun (x:(List Qr))=>[vL 6 38 eRt x]) (K:=fun x=>yfd x=some r) (fun x3 h=>?_) ?_
  ·unfold yfd at h
   refine kG [vL 2 38 eRt x3] [] trivial ?_
   refine ypa ?_
   obtain rfl:=oi h
   exact er [(.ov false [.sl (some 38) (x3.map eRt)],2)]
  refine kG [vN 6 38,dL 25 (eF eRt) a0,pL 26 a0,pI 27 0] [hN 1 a0] (A1 (lF (eF eRt) a0)) ?_
  refine yda ?_
  obtain⟨y5,hl_x4,hk_x4⟩:=bs h
  clear h
  refine yyb (J:=fun (x:((List Qr)×Int))=>[vL 6 38 eRt x.1,dL 25 (eF eRt) a0,pL 26 a0,pI 27 x.2]) hl_x4 wkk (fun x4 o_x4 h hy_x4=>?_)
  unfold ywa at h
  refine kG [vL 6 38 eRt x4.1,dL 25 (eF eRt) a0,pL 26 a0,pI 27 x4.2,pB 28 (decide (x4.2<(a0.length:Int)))] [] trivial ?_
  refine yeb (kI h (fun hc5_5 h=>?_) (fun hc5_5 h=>?_))
  ·refine yga (q_n (yeb (yda ?_)))
   obtain⟨v7,hv7,h⟩:=bs h
   refine kG [vL 6 38 eRt x4.1,dL 8 eRt v7,dL 25 (eF eRt) a0,pL 26 a0,pI 27 x4.2] [hR 0 [.sl none (v7.map eRt)]] (A2 (yba hv7).1 (yca (eF eRt) (yba hv7).2)) ?_
   obtain⟨u8,hu8,h⟩:=bs h
   refine yhc (r_gq [vL 6 38 eRt (x4.1++v7),dL 25 (eF eRt) a0,pL 26 a0,pI 27 x4.2] [(2,{fix:=some (vL 33 38 eRt (x4.1++v7))})] (A3 (lG' eRt hu8) (show ∀ row∈((v7.map eRt):List (List C)),row.length=2 from(yfc fun _=>rfl)) (aP' 38 eRt x4.1 v7))) ?_
   refine b_n (q_n (yhc (r_gq [vL 6 38 eRt (x4.1++v7),dL 25 (eF eRt) a0,pL 26 a0,pI 27 (w64 (x4.2+1))] [] trivial) ?_))
   exact lqn ((x4.1++v7),(w64 (x4.2+1))) h
  refine yrb (q_x (lq_x (b_x ?_)))
  have hyy:=hy_x4 _ (oi h).symm
  subst hyy
  have h:=hk_x4
  refine q_n ?_
  exact jx x4.1 h
 refine kG [dL 0 (eF eRt) a0,pI 3 0,dL 9 (eF eRt) a0,pL 10 a0,pI 11 0] [hN 1 a0] (A1 (lF (eF eRt) a0)) ?_
 refine yda ?_
 obtain⟨y10,hl_x9,hk_x9⟩:=bs h
 clear h
 refine yyb (J:=fun (x:Qr)=>[dL 0 (eF eRt) a0,pI 3 x.1,dL 9 (eF eRt) a0,pL 10 a0,pI 11 x.2]) hl_x9 wkk (fun x9 o_x9 h hy_x9=>?_)
 unfold yxa at h
 refine kG [dL 0 (eF eRt) a0,pI 3 x9.1,dL 9 (eF eRt) a0,pL 10 a0,pI 11 x9.2,pB 12 (decide (x9.2<(a0.length:Int)))] [] trivial ?_
 refine yeb (kI h (fun hc5_10 h=>?_) (fun hc5_10 h=>?_))
 ·refine yga (q_n (yeb (yda ?_)))
  obtain⟨v12,hv12,h⟩:=bs h
  refine kG [dL 0 (eF eRt) a0,pI 3 x9.1,dL 5 eRt v12,dL 9 (eF eRt) a0,pL 10 a0,pI 11 x9.2] [hR 0 [.sl none (v12.map eRt)]] (A2 (yba hv12).1 (yca (eF eRt) (yba hv12).2)) ?_
  refine kG [dL 0 (eF eRt) a0,pI 3 (w64 (x9.1+(v12.length:Int))),dL 9 (eF eRt) a0,pL 10 a0,pI 11 x9.2] [hN 2 v12] (A1 (lF eRt v12)) ?_
  refine kG [dL 0 (eF eRt) a0,pI 3 (w64 (x9.1+(v12.length:Int))),dL 9 (eF eRt) a0,pL 10 a0,pI 11 x9.2,pB 20 (decide ((w64 (x9.1+(v12.length:Int)))<0))] [] trivial ?_
  refine kI h (fun hc6_12 h=>?_) (fun hc6_12 h=>?_)
  ·cases h
  refine yga (b_n (q_n (yhc (r_gq [dL 0 (eF eRt) a0,pI 3 (w64 (x9.1+(v12.length:Int))),dL 9 (eF eRt) a0,pL 10 a0,pI 11 (w64 (x9.2+1))] [] trivial) ?_)))
  exact lqn ((w64 (x9.1+(v12.length:Int))),(w64 (x9.2+1))) h
 refine yrb (q_x (lq_x (b_x ?_)))
 have hyy:=hy_x9 _ (oi h).symm
 subst hyy
 have h:=hk_x9
 refine q_n ?_
 exact jx x9.1 h
theorem yeu {a0:(List Qp)} {a1:Bool}  {r:((List Qr)×Bool)} (h:yid a0 a1=some r):Meets Tryz.prog 26 [.d false (sP a0),.v (.bool a1)] { vals:=[.d false [.sl none (r.1.map eRt)],.p (.bool r.2)] }:=by
 refine mo Tryz.func26 [dP 0 a0,pB 1 a1] ?_
 unfold yid at h
 refine kG [dP 0 a0,pB 1 a1] [(1,{pre:=some (4,.d false [.sl none []])})] (A1 (show(SV.d false (eraR (oN 38)):SV)=.d false [.sl none []] from(congrArg (fun z=>SV.d false z) (yqf rfl rfl)))) ?_
 refine yeb ?_
 obtain⟨v1,hv1,h⟩:=bs h
 refine kG [dP 0 a0,pB 1 a1,pB 11 (!v1)] [hC 1 [.p (.bool v1)]] (A1 (ysf hv1)) ?_
 refine kI h (fun hc2_1 h=>?_) (fun hc2_1 h=>?_)
 ·refine kG [(4,.d false [.sl none []]),pB 5 false] [(1,{pre:=some (4,.d false [.sl none []])})] (A1 (show(SV.d false (eraR (oN 38)):SV)=.d false [.sl none []] from(congrArg (fun z=>SV.d false z) (yqf rfl rfl)))) ?_
  refine ypa (q_r ?_)
  obtain rfl:=oi h
  exact er [(.d false [.sl none []],4),(.p (.bool false),5)]
 refine yga (q_n ?_)
 obtain⟨v3,hv3,h⟩:=bs h
 obtain⟨v4,hv4,h⟩:=bs h
 obtain⟨v5,hv5,h⟩:=bs h
 obtain⟨u6,hu6,h⟩:=bs h
 refine kG [dP 0 a0,pB 1 a1,vL 6 38 eRt ([v3,v4]++v5)] [hC 0 [.p (vRt v3)],hC 1 [.p (vRt v4)],hC 4 [rO 38 eRt v5],(5,{fix:=some (vL 17 38 eRt ([v3,v4]++v5))})] (B6 (yzi hv3) (yzp hv4) (yoa1 hv5) (sR' 38 v5) (lG' eRt hu6) (show ∀ row∈((v5.map eRt):List (List C)),row.length=2 from(yfc fun _=>rfl)) (A1 (aP' 38 eRt ([v3,v4]) v5))) ?_
 refine yjb (J:=fun (x:(List Qr))=>[dP 0 a0,vL 6 38 eRt x]) (K:=fun x=>yed a0 x=some r) (fun x7 h=>?_) ?_
 ·unfold yed at h
  refine kG [dP 0 a0,vL 6 38 eRt x7,bX 7 [.raw (.bool false)]] [] trivial ?_
  obtain⟨v8,hv8,h⟩:=bs h
  refine kG [dP 0 a0,vL 6 38 eRt v8,bX 7 [.raw (.bool false)]] [(1,{lend:=some (none,[rO 38 eRt v8],.u,true)})] (A2 (yvx hv8) (sR' 38 v8)) ?_
  refine yjb (J:=fun (x:Unit)=>[]) (K:=fun x=>ydg x=some r) (fun x9 h=>?_) ?_
  ·unfold ydg at h
   refine kG [(4,.d false [.sl none []]),pB 5 false] [(1,{pre:=some (4,.d false [.sl none []])})] (A1 (show(SV.d false (eraR (oN 38)):SV)=.d false [.sl none []] from(congrArg (fun z=>SV.d false z) (yqf rfl rfl)))) ?_
   refine ypa ?_
   obtain rfl:=oi h
   exact er [(.d false [.sl none []],4),(.p (.bool false),5)]
  refine yda ?_
  obtain⟨y11,hl_x10,hk_x10⟩:=bs h
  clear h
  refine yyb (J:=fun (x:((List Qr)×Bool))=>[dP 0 a0,vL 6 38 eRt x.1,bX 7 [.raw (.bool x.2)]]) hl_x10 wkk (fun x10 o_x10 h hy_x10=>?_)
  unfold yeg at h
  refine yeb (ygs1 6 (g:=false) (cs:=[.sl (some 38) (x10.1.map eRt)]) [.sl none (x10.1.map eRt)] [dP 0 a0,dL 6 eRt x10.1,bX 7 [.raw (.bool x10.2)]] (yqf (yka (ywt er_I er_I)) rfl) ?_)
  refine kG [dP 0 a0,dL 6 eRt x10.1,bX 7 [.raw (.bool x10.2)],pB 26 (decide ((x10.1.length:Int)<=9))] [hN 1 x10.1] (A1 (lF eRt x10.1)) ?_
  refine kI h (fun hc5_11 h=>?_) (fun hc5_11 h=>?_)
  ·refine yga (q_n (yda ?_))
   obtain⟨v13,hv13,h⟩:=bs h
   obtain⟨v14,hv14,h⟩:=bs h
   obtain⟨v15,hv15,h⟩:=bs h
   refine kG [dP 0 a0,dL 6 eRt x10.1,bX 7 [.raw (.bool v13.2)],vL 8 38 eRt v15] [hT 3 [rO 38 eRt v13.1] (.box [.raw (.bool v13.2)]),(4,{pre:=some (dL 30 eRt v13.1)}),(5,(cS [.d false [.sl none (([x10.1,v13.1]).map (eF eRt))]] [rO 38 eRt v14])),(6,{lend:=some (none,[rO 38 eRt v15],.u,true)})] (B6 (ytr hv13) (show(List.all [rO 38 eRt v13.1] simpleR&&wnS (.box [.raw (.bool v13.2)]))=true from(ls_t (sa_o (wnR1 (yvc (wn_P wn_I wn_I)) rfl) rfl) (wnc rfl))) (show(SV.d false (eraR [.sl (some 38) (v13.1.map eRt)]):SV)=.d false [.sl none (v13.1.map eRt)] from(congrArg (fun z=>SV.d false z) (yqf (yka (ywt er_I er_I)) rfl))) (show([.d false [.sl none (eraL (([x10.1,v13.1]).map (eF eRt)))]]:List Arg)=[.d false [.sl none (([x10.1,v13.1]).map (eF eRt))]] from(by simp only[yka (h:=(eF eRt)) (yjc2 (ywt er_I er_I))])) (yom hv14) (sR' 38 v14) (A2 (yvx hv15) (sR' 38 v15))) ?_
   refine yeb (kG [dP 0 a0,dL 6 eRt x10.1,bX 7 [.raw (.bool v13.2)],vL 8 38 eRt v15,pB 35 v13.2] [] trivial ?_)
   refine kI h (fun hc6_15 h=>?_) (fun hc6_15 h=>?_)
   ·refine kG [(4,.d false [.sl none []]),pB 5 false] [(1,{pre:=some (4,.d false [.sl none []])})] (A1 (show(SV.d false (eraR (oN 38)):SV)=.d false [.sl none []] from(congrArg (fun z=>SV.d false z) (yqf rfl rfl)))) ?_
    refine ypa (q_r (b_r (lq_r ?_)))
    refine b_r (q_r ?_)
    have hyy:=hy_x10 _ (oi h).symm
    subst hyy
    have h:=hk_x10
    dsimp only[Sum.elim] at h
    obtain rfl:=oi h
    exact er [(.d false [.sl none []],4),(.p (.bool false),5)]
   refine yga (q_n (yeb (kG [dP 0 a0,dL 6 eRt x10.1,bX 7 [.raw (.bool v13.2)],vL 8 38 eRt v15,pB 40 ((v15.length:Int)==(x10.1.length:Int))] [hN 1 v15,hN 3 x10.1] (A2 (lF eRt v15) (lF eRt x10.1)) ?_)))
   refine kI h (fun hc6_16 h=>?_) (fun hc6_16 h=>?_)
   ·refine kG [dL 4 eRt x10.1,pB 5 true] [] trivial ?_
    refine ypa (q_r (b_r (lq_r ?_)))
    refine b_r (q_r ?_)
    have hyy:=hy_x10 _ (oi h).symm
    subst hyy
    have h:=hk_x10
    dsimp only[Sum.elim] at h
    obtain rfl:=oi h
    exact er [(.d false [.sl none (x10.1.map eRt)],4),(.p (.bool true),5)]
   refine yga (q_n (yhc (r_gq [dP 0 a0,vL 6 38 eRt v15,bX 7 [.raw (.bool v13.2)]] [] trivial) ?_))
   refine b_n ?_
   exact lqn (v15,v13.2) h
  refine yrb (q_x (lq_x (b_x ?_)))
  have hyy:=hy_x10 _ (oi h).symm
  subst hyy
  have h:=hk_x10
  dsimp only[Sum.elim] at h
  refine q_n ?_
  exact jx () h
 refine kG [dP 0 a0,vL 6 38 eRt ([v3,v4]++v5),pB 18 a1] [] trivial ?_
 refine kI h (fun hc2_17 h=>?_) (fun hc2_17 h=>?_)
 ·obtain⟨v19,hv19,h⟩:=bs h
  obtain⟨v20,hv20,h⟩:=bs h
  refine yhc (r_gq [dP 0 a0,vL 6 38 eRt v20] [hC 1 [.ov false (oP 96 v19)],(2,(cS [.d false (sP v19)] [rO 38 eRt v20]))] (A5 (yux hv19) (show List.all [.ov false (oP 96 v19)] simpleR=true from(sa_o (wnR1 (yvc (wn_P (wn_P wn_I wn_I) (wn_P wn_I wn_I))) rfl) rfl)) (show([.d false [.sl none (eraL (v19.map ePt))]]:List Arg)=[.d false (sP v19)] from(by simp only[erPt])) (yrw hv20) (sR' 38 v20))) ?_
  refine q_n ?_
  exact jx v20 h
 refine yga (q_n ?_)
 exact jx ([v3,v4]++v5) h
theorem ybe {a0:Qr}  {r:Bool} (h:yvg a0=some r):Meets Tryz.prog 97 [.v (vRt a0)] { vals:=[.p (.bool r)] }:=by
 refine mo Tryz.func97 [(0,.p (vRt a0))] ?_
 unfold yvg at h
 refine kG [bR 1 a0] [] trivial ?_
 obtain⟨v1,hv1,h⟩:=bs h
 obtain⟨w3,hw3,h⟩:=bs h
 refine ynb (l1:=[pB 2 w3]) ?_ ?_
 ·clear h
  rcases ft v1 with ha0 | ha0
  ·obtain⟨v2,hv2,hw3⟩:=bs (yjh ha0 hw3)
   have hw3:=oi hw3
   subst hw3
   exact(r_gq [pB 2 v2] [hC 1 [.p (.bool v1)],(3,gT),(4,gT),(5,gT),(6,gT),(7,{g:=some true,call:=some (none,[.p (.bool v2)],true)}),(8,bT)] (B6 (ytj hv1) ha0 ha0 ha0 ha0 ha0 (A2 (yhg hv2) ha0)))
  replace hw3:=ykh ha0 hw3
  have hw3:=oi hw3
  subst hw3
  exact(r_gq [pB 2 false] [hC 1 [.p (.bool v1)],(3,gF),(4,gF),(5,gF),(6,gF),(7,gF),(8,bF)] (B6 (ytj hv1) ha0 ha0 ha0 ha0 ha0 (A1 ha0)))
 refine ypa ?_
 obtain rfl:=oi h
 exact er [(.p (.bool w3),2)]
theorem yig {a0:Qr}  {r:Bool} (h:ygo a0=some r):Meets Tryz.prog 144 [.v (vRt a0)] { vals:=[.p (.bool r)] }:=by
 refine mo Tryz.func144 [(0,.p (vRt a0))] ?_
 unfold ygo at h
 refine kG [bR 1 a0] [] trivial ?_
 obtain⟨v1,hv1,h⟩:=bs h
 refine ynb (l1:=[pB 2 (v1&&(decide (a0.2<=100)))]) ?_ ?_
 ·rcases ft v1 with ha0 | ha0
  ·exact RegOk.of_eq (r_gq [pB 2 (decide (a0.2<=100))] [hC 1 [.p (.bool v1)],(3,gT),(4,gT),(5,gT),(6,bT)] (A5 (ybe hv1) ha0 ha0 ha0 ha0)) (by simp[ha0])
  exact RegOk.of_eq (r_gq [pB 2 false] [hC 1 [.p (.bool v1)],(3,gF),(4,gF),(5,gF),(6,bF)] (A5 (ybe hv1) ha0 ha0 ha0 ha0)) (by simp[ha0])
 refine ypa ?_
 obtain rfl:=oi h
 exact er [(.p (.bool (v1&&(decide (a0.2<=100)))),2)]
end Go.PV

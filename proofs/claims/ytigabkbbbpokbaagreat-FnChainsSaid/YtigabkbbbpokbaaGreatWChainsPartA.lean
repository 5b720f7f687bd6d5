/-
  Walks through the functions that the law reaches: each answers as its plain definition does.
  Conditions: none.
-/
import Derived.KernelRfl
import Derived.Test.YtigabkbbbpokbaaGreatDf
import Derived.Test.YtigabkbbbpokbaaGreatProg
import Derived.Test.YtigabkbbbpokbaaGreatSrtYtigabkbbbpokbaaGreat
import Derived.Test.YtigabkbbbpokbaaGreatPvCx
open Go Go.PV Go.Proofs
set_option linter.all false
namespace Go.PV
attribute [local irreducible] pvC pvL pvD sOp seqQ blockQ Meets MeetsB Ok OkL RegOk agree endQ seqL blockL loopQ endL endLB OkV Takes
theorem yda:Tryz.prog.follows .mixedOrders=true:=by kernel_rfl
theorem yap1:Tryz.prog.underlying 5=some (.int .u8):=by kernel_rfl
theorem ymc1:Tryz.prog.underlying 3=some (.int .i64):=by kernel_rfl
theorem yqe1:Tryz.prog.underlying 84=some (.int .u64):=by kernel_rfl
theorem yej1 {a0:(List Int)} {a1:(List Int)}  {r:Bool} (h:yod1 a0 a1=some r):Meets Tryz.prog 5 [.d false [.sl none (a0.map (eU .u8))],.d false [.sl none (a1.map (eU .u8))]] { vals:=[.p (.bool r)] }:=by
 refine mo Tryz.func5 [dL 0 (eU .u8) a0,dL 1 (eU .u8) a1] ?_
 unfold yod1 at h
 refine kG [dL 0 (eU .u8) a0,dL 1 (eU .u8) a1] [] trivial ?_
 refine yza (l1:=[pB 4 ((decide ((a0.length:Int)>1048576))||(decide ((a1.length:Int)>(w64 (1048576-(a0.length:Int))))))]) ?_ ?_
 ·rcases ft (decide ((a0.length:Int)>1048576)) with ha0 | ha0
  ·exact RegOk.of_eq (r_gq [pB 4 true] [hN 1 a0,(4,gT),(5,gT),(6,gT),(7,gT),(8,gT),(9,gT),(10,bT)] (B6 (lF (eU .u8) a0) ha0 ha0 ha0 ha0 ha0 (A2 ha0 ha0))) (by simp[ha0])
  exact RegOk.of_eq (r_gq [pB 4 (decide ((a1.length:Int)>(w64 (1048576-(a0.length:Int)))))] [hN 1 a0,(4,gF),(5,{g:=some false,n:=some a1.length}),(6,gF),(7,{g:=some false,n:=some a0.length}),(8,gF),(9,gF),(10,bF)] (B6 (lF (eU .u8) a0) ha0 ha0 (lF (eU .u8) a1) ha0 ha0 (A4 (lF (eU .u8) a0) ha0 ha0 ha0))) (by simp[ha0])
 refine yra ?_
 obtain rfl:=oi h
 exact er [(.p (.bool ((decide ((a0.length:Int)>1048576))||(decide ((a1.length:Int)>(w64 (1048576-(a0.length:Int))))))),4)]
theorem yfr {a0:Cu}  {r:(Int×Cu)} (h:yzh a0=some r):MeetsB Tryz.prog 183 (.box (eCu a0)) [] [.p (iV r.1)] (.box (eCu r.2)):=by
 refine mob Tryz.func183 [bC 0 a0] ?_
 unfold yzh at h
 refine kG [bC 0 a0] [] trivial ?_
 refine kG [bC 0 a0,pI 3 0] [] trivial ?_
 refine yib (J:=fun (x:Int)=>[bC 0 a0,pI 3 x]) (K:=fun x=>yae a0 x=some r) (fun x1 h=>?_) ?_
 ·unfold yae at h
  refine kG [bX 0 [.sl none (a0.1.map (eU .u8)),rI (w64 (a0.2.1+1)),.raw (.int .u64 a0.2.2)],pI 3 x1] [] trivial ?_
  refine kG [bX 0 [.sl none (a0.1.map (eU .u8)),rI (w64 (a0.2.1+1)),.raw (.int .u64 (IntKind.wrap .u64 ((IntKind.wrap .u64 ((IntKind.wrap .u64 (a0.2.2*6364136223846793005))+(IntKind.wrap .u64 x1)))+1442695040888963407)))],pI 3 x1] [(7,{pv:=some (.int .u64 (IntKind.wrap .u64 x1))})] (A1 (show PureAt Tryz.prog (.convert 3 84 (.tmp 38)) [.int .i64 x1] (.int .u64 (IntKind.wrap .u64 x1)) from(yjc1 ymc1 yqe1))) ?_
  refine yab (yza (r_dq yda 9 [] [bX 0 [.sl none (a0.1.map (eU .u8)),rI (w64 (a0.2.1+1)),.raw (.int .u64 (IntKind.wrap .u64 ((IntKind.wrap .u64 ((IntKind.wrap .u64 (a0.2.2*6364136223846793005))+(IntKind.wrap .u64 x1)))+1442695040888963407)))],pI 3 x1,pB 53 (decide ((w64 (a0.2.1+1))<=(a0.1.length:Int)))] [(7,bT),hN 8 a0.1] (A2 (show frR [.sl none (a0.1.map (eU .u8))]=true from(frR1 (yrh1 (fr_U .u8)) rfl)) (lF (eU .u8) a0.1))) ?_)
  refine kI h (fun hc2_1 h=>?_) (fun hc2_1 h=>?_)
  ·refine kG [bX 0 [.sl none (a0.1.map (eU .u8)),rI (w64 (a0.2.1+1)),.raw (.int .u64 (IntKind.wrap .u64 ((IntKind.wrap .u64 ((IntKind.wrap .u64 (a0.2.2*6364136223846793005))+(IntKind.wrap .u64 x1)))+1442695040888963407)))],pI 2 x1] [] trivial ?_
   refine yra (q_r ?_)
   obtain rfl:=oi h
   exact ebr [(.p (iV x1),2)]
  refine yga (q_n (kG [bX 0 [.sl none (a0.1.map (eU .u8)),rI (w64 (a0.2.1+1)),.raw (.int .u64 (IntKind.wrap .u64 ((IntKind.wrap .u64 ((IntKind.wrap .u64 (a0.2.2*6364136223846793005))+(IntKind.wrap .u64 x1)))+1442695040888963407)))],pI 2 (IntKind.wrap .i64 (iand .u64 (ishr .u64 (IntKind.wrap .u64 ((IntKind.wrap .u64 ((IntKind.wrap .u64 (a0.2.2*6364136223846793005))+(IntKind.wrap .u64 x1)))+1442695040888963407)) 40) 255))] [(4,{pv:=some (.int .u64 (ishr .u64 (IntKind.wrap .u64 ((IntKind.wrap .u64 ((IntKind.wrap .u64 (a0.2.2*6364136223846793005))+(IntKind.wrap .u64 x1)))+1442695040888963407)) 40))}),(5,{pv:=some (.int .u64 (iand .u64 (ishr .u64 (IntKind.wrap .u64 ((IntKind.wrap .u64 ((IntKind.wrap .u64 (a0.2.2*6364136223846793005))+(IntKind.wrap .u64 x1)))+1442695040888963407)) 40) 255))}),(6,{pv:=some (iV (IntKind.wrap .i64 (iand .u64 (ishr .u64 (IntKind.wrap .u64 ((IntKind.wrap .u64 ((IntKind.wrap .u64 (a0.2.2*6364136223846793005))+(IntKind.wrap .u64 x1)))+1442695040888963407)) 40) 255)))})] (A3 (show PureAt Tryz.prog (.binOp .shr 84 (.tmp 58) (.const (.int .u64 40)) 165) [.int .u64 (IntKind.wrap .u64 ((IntKind.wrap .u64 ((IntKind.wrap .u64 (a0.2.2*6364136223846793005))+(IntKind.wrap .u64 x1)))+1442695040888963407)),.int .u64 40] (.int .u64 (ishr .u64 (IntKind.wrap .u64 ((IntKind.wrap .u64 ((IntKind.wrap .u64 (a0.2.2*6364136223846793005))+(IntKind.wrap .u64 x1)))+1442695040888963407)) 40)) from(yes1 (by decide))) (show PureAt Tryz.prog (.binOp .and 84 (.tmp 59) (.const (.int .u64 255)) 84) [.int .u64 (ishr .u64 (IntKind.wrap .u64 ((IntKind.wrap .u64 ((IntKind.wrap .u64 (a0.2.2*6364136223846793005))+(IntKind.wrap .u64 x1)))+1442695040888963407)) 40),.int .u64 255] (.int .u64 (iand .u64 (ishr .u64 (IntKind.wrap .u64 ((IntKind.wrap .u64 ((IntKind.wrap .u64 (a0.2.2*6364136223846793005))+(IntKind.wrap .u64 x1)))+1442695040888963407)) 40) 255)) from(yds1)) (show PureAt Tryz.prog (.convert 84 3 (.tmp 60)) [.int .u64 (iand .u64 (ishr .u64 (IntKind.wrap .u64 ((IntKind.wrap .u64 ((IntKind.wrap .u64 (a0.2.2*6364136223846793005))+(IntKind.wrap .u64 x1)))+1442695040888963407)) 40) 255)] (iV (IntKind.wrap .i64 (iand .u64 (ishr .u64 (IntKind.wrap .u64 ((IntKind.wrap .u64 ((IntKind.wrap .u64 (a0.2.2*6364136223846793005))+(IntKind.wrap .u64 x1)))+1442695040888963407)) 40) 255))) from(yjc1 yqe1 ymc1))) ?_))
  refine yra ?_
  obtain rfl:=oi h
  exact ebr [(.p (iV (IntKind.wrap .i64 (iand .u64 (ishr .u64 (IntKind.wrap .u64 ((IntKind.wrap .u64 ((IntKind.wrap .u64 (a0.2.2*6364136223846793005))+(IntKind.wrap .u64 x1)))+1442695040888963407)) 40) 255))),2)]
 refine yza (r_dq yda 9 [] [bC 0 a0,pI 3 0,pB 13 (decide (a0.2.1<(a0.1.length:Int)))] [(7,bT),hN 8 a0.1] (A2 (show frR [.sl none (a0.1.map (eU .u8))]=true from(frR1 (yrh1 (fr_U .u8)) rfl)) (lF (eU .u8) a0.1))) ?_
 refine kI h (fun hc2_2 h=>?_) (fun hc2_2 h=>?_)
 ·obtain⟨v4,hv4,h⟩:=bs h
  refine yub (r_dq yda 8 [] [bC 0 a0,pI 3 (IntKind.wrap .i64 v4)] [(3,bT),hR 8 [.raw (.int .u8 v4)],(10,{pv:=some (iV (IntKind.wrap .i64 v4))})] (A4 (show frR [.sl none (a0.1.map (eU .u8))]=true from(frR1 (yrh1 (fr_U .u8)) rfl)) (yba hv4).1 (yca (eU .u8) (yba hv4).2) (show PureAt Tryz.prog (.convert 5 3 (.tmp 23)) [.int .u8 v4] (iV (IntKind.wrap .i64 v4)) from(yjc1 yap1 ymc1)))) ?_
  refine q_n ?_
  exact jx (IntKind.wrap .i64 v4) h
 refine yga (q_n ?_)
 exact jx 0 h
theorem yja {a0:Cu} {a1:Int}  {r:(Int×Cu)} (h:yka a0 a1=some r):MeetsB Tryz.prog 130 (.box (eCu a0)) [wI a1] [.p (iV r.1)] (.box (eCu r.2)):=by
 refine mob Tryz.func130 [bC 0 a0,pI 1 a1] ?_
 unfold yka at h
 refine kG [bC 0 a0,pI 1 a1] [] trivial ?_
 refine yab (kG [bC 0 a0,pI 1 a1,pB 7 (decide (a1<=1))] [] trivial ?_)
 refine kI h (fun hc2_0 h=>?_) (fun hc2_0 h=>?_)
 ·refine kG [bC 0 a0,pI 4 0] [] trivial ?_
  refine yra (q_r ?_)
  obtain rfl:=oi h
  exact ebr [(.p (iV 0),4)]
 refine yga (q_n ?_)
 obtain⟨v2,hv2,h⟩:=bs h
 refine kG [bC 0 v2.2,pI 1 a1,pI 5 v2.1] [hF 1 [.p (iV v2.1)] (.box (eCu v2.2))] (A1 (yfr hv2)) ?_
 refine yib (J:=fun (x:((List Int)×Int×Int×Int))=>[bC 0 (x.1,x.2.1,x.2.2.1),pI 1 a1,pI 5 x.2.2.2]) (K:=fun x=>ybe a1 x=some r) (fun x3 h=>?_) ?_
 ·unfold ybe at h
  obtain⟨u4,hu4,h⟩:=bs h
  refine kG [bC 0 (x3.1,x3.2.1,x3.2.2.1),pI 4 (Int.tmod x3.2.2.2 a1)] [] (A1 (yla hu4)) ?_
  refine yra ?_
  obtain rfl:=oi h
  exact ebr [(.p (iV (Int.tmod x3.2.2.2 a1)),4)]
 refine kG [bC 0 v2.2,pI 1 a1,pI 5 v2.1,pB 11 (decide (a1>200))] [] trivial ?_
 refine kI h (fun hc2_4 h=>?_) (fun hc2_4 h=>?_)
 ·obtain⟨v6,hv6,h⟩:=bs h
  refine yub (r_gq [bC 0 v6.2,pI 1 a1,pI 5 (w64 ((w64 (v2.1*256))+v6.1))] [hF 3 [.p (iV v6.1)] (.box (eCu v6.2))] (A1 (yfr hv6))) ?_
  refine q_n ?_
  exact jx (v6.2.1,v6.2.2.1,v6.2.2.2,(w64 ((w64 (v2.1*256))+v6.1))) h
 refine yga (q_n ?_)
 exact jx (v2.2.1,v2.2.2.1,v2.2.2.2,v2.1) h
theorem ypa {a0:Cu} {a1:(List Int)}  {r:(Int×Cu)} (h:yqa a0 a1=some r):MeetsB Tryz.prog 68 (.box (eCu a0)) [.d false [.sl none (a1.map eI)]] [.p (iV r.1)] (.box (eCu r.2)):=by
 refine mob Tryz.func68 [bC 0 a0,dL 1 eI a1] ?_
 unfold yqa at h
 refine kG [bC 0 a0,dL 1 eI a1] [] trivial ?_
 obtain⟨v1,hv1,h⟩:=bs h
 obtain⟨v2,hv2,h⟩:=bs h
 refine kG [bC 0 v1.2,pI 4 v2] [hN 3 a1,hF 4 [.p (iV v1.1)] (.box (eCu v1.2)),hR 5 (eI v2)] (A4 (lF eI a1) (yja hv1) (yba hv2).1 (yca eI (yba hv2).2)) ?_
 refine yra ?_
 obtain rfl:=oi h
 exact ebr [(.p (iV v2),4)]
theorem yeb {a0:Cu} {a1:Int}  {r:(Bool×Cu)} (h:yfb a0 a1=some r):MeetsB Tryz.prog 67 (.box (eCu a0)) [wI a1] [.p (.bool r.1)] (.box (eCu r.2)):=by
 refine mob Tryz.func67 [bC 0 a0,pI 1 a1] ?_
 unfold yfb at h
 refine kG [bC 0 a0,pI 1 a1] [] trivial ?_
 obtain⟨v1,hv1,h⟩:=bs h
 refine kG [bC 0 v1.2,pB 4 (v1.1==0)] [hF 2 [.p (iV v1.1)] (.box (eCu v1.2))] (A1 (yja hv1)) ?_
 refine yra ?_
 obtain rfl:=oi h
 exact ebr [(.p (.bool (v1.1==0)),4)]
theorem ydb {a0:Int}  {r:Qr} (h:ypb a0=some r):Meets Tryz.prog 70 [wI a0] { vals:=[.p (vRt r)] }:=by
 refine mo Tryz.func70 [pI 0 a0] ?_
 unfold ypb at h
 refine kG [pI 0 a0,bX 2 zR] [] trivial ?_
 refine kG [bX 2 [rI a0,rI 1]] [] trivial ?_
 refine yra ?_
 obtain rfl:=oi h
 exact er [(.p (.agg #[.int .i64 a0,.int .i64 1]),2)]
theorem ync1 {a0:Int} {a1:Int}  {r:Int} (h:ygu a0 a1=some r):Meets Tryz.prog 162 [wI a0,wI a1] { vals:=[.p (iV r)] }:=by
 refine mo Tryz.func162 [pI 0 a0,pI 1 a1] ?_
 unfold ygu at h
 refine kG [pI 0 a0,pI 1 a1] [] trivial ?_
 refine yab (kG [pI 0 a0,pI 1 a1,pB 7 (decide (a0>a1))] [] trivial ?_)
 refine kI h (fun hc2_0 h=>?_) (fun hc2_0 h=>?_)
 ·refine kG [pI 4 a0] [] trivial ?_
  refine yra (q_r ?_)
  obtain rfl:=oi h
  exact er [(.p (iV a0),4)]
 refine yga (q_n (kG [pI 4 a1] [] trivial ?_))
 refine yra ?_
 obtain rfl:=oi h
 exact er [(.p (iV a1),4)]
theorem ybt {a0:Int}  {r:Int} (h:yip a0=some r):Meets Tryz.prog 137 [wI a0] { vals:=[.p (iV r)] }:=by
 refine mo Tryz.func137 [pI 0 a0] ?_
 unfold yip at h
 refine kG [pI 0 a0] [] trivial ?_
 obtain⟨v1,hv1,h⟩:=bs h
 refine kG [pI 2 v1] [hC 3 [.p (iV v1)]] (A1 (ync1 hv1)) ?_
 refine yra ?_
 obtain rfl:=oi h
 exact er [(.p (iV v1),2)]
theorem yct {a0:Int} {a1:Int}  {r:Int} (h:ydl a0 a1=some r):Meets Tryz.prog 136 [wI a0,wI a1] { vals:=[.p (iV r)] }:=by
 refine mo Tryz.func136 [pI 0 a0,pI 1 a1] ?_
 unfold ydl at h
 refine kG [pI 0 a0,pI 1 a1] [] trivial ?_
 refine yib (J:=fun (x:Int)=>[pI 0 x]) (K:=fun x=>yjp x=some r) (fun x1 h=>?_) ?_
 ·unfold yjp at h
  refine kG [pI 4 x1] [] trivial ?_
  refine yra ?_
  obtain rfl:=oi h
  exact er [(.p (iV x1),4)]
 refine yfa ?_
 obtain⟨y3,hl_x2,hk_x2⟩:=bs h
 clear h
 refine yfc (J:=fun (x:Qr)=>[pI 0 x.1,pI 1 x.2]) hl_x2 wkk (fun x2 o_x2 h hy_x2=>?_)
 unfold ywi at h
 refine yab (kG [pI 0 x2.1,pI 1 x2.2,pB 7 (decide (x2.2>0))] [] trivial ?_)
 refine kI h (fun hc5_3 h=>?_) (fun hc5_3 h=>?_)
 ·refine yga (q_n (yfa ?_))
  obtain⟨u5,hu5,h⟩:=bs h
  refine kG [pI 1 x2.2,pI 5 (Int.tmod x2.1 x2.2)] [] (A1 (yla hu5)) ?_
  refine kG [pI 0 x2.2,pI 5 (Int.tmod x2.1 x2.2)] [] trivial ?_
  refine yub (r_gq [pI 0 x2.2,pI 1 (Int.tmod x2.1 x2.2)] [] trivial) ?_
  refine b_n ?_
  exact lqn (x2.2,(Int.tmod x2.1 x2.2)) h
 refine ywb (q_x (lq_x (b_x ?_)))
 have hyy:=hy_x2 _ (oi h).symm
 subst hyy
 have h:=hk_x2
 refine q_n ?_
 exact jx x2.1 h
theorem yhh {a0:Int} {a1:Int} {a2:Int}  {r:Bool} (h:yoo a0 a1 a2=some r):Meets Tryz.prog 106 [wI a0,wI a1,wI a2] { vals:=[.p (.bool r)] }:=by
 refine mo Tryz.func106 [pI 0 a0,pI 1 a1,pI 2 a2] ?_
 unfold yoo at h
 refine kG [pI 0 a0,pI 1 a1,pI 2 a2] [] trivial ?_
 refine yza (l1:=[pB 6 ((decide (a0>=a1))&&(decide (a0<=a2)))]) ?_ ?_
 ·rcases ft (decide (a0>=a1)) with ha0 | ha0
  ·exact RegOk.of_eq (r_gq [pB 6 (decide (a0<=a2))] [(4,gT),(5,gT),(6,gT),(7,bT)] (A4 ha0 ha0 ha0 ha0)) (by simp[ha0])
  exact RegOk.of_eq (r_gq [pB 6 false] [(4,gF),(5,gF),(6,gF),(7,bF)] (A4 ha0 ha0 ha0 ha0)) (by simp[ha0])
 refine yra ?_
 obtain rfl:=oi h
 exact er [(.p (.bool ((decide (a0>=a1))&&(decide (a0<=a2)))),6)]
theorem yzr {a0:Qr}  {r:Bool} (h:yuo a0=some r):Meets Tryz.prog 138 [.v (vRt a0)] { vals:=[.p (.bool r)] }:=by
 refine mo Tryz.func138 [(0,.p (vRt a0))] ?_
 unfold yuo at h
 refine kG [bR 1 a0] [] trivial ?_
 obtain⟨v1,hv1,h⟩:=bs h
 obtain⟨w5,hw5,h⟩:=bs h
 refine yza (l1:=[pB 2 w5]) ?_ ?_
 ·clear h
  rcases ft v1 with ha0 | ha0
  ·obtain⟨v2,hv2,hw5⟩:=bs (yrh ha0 hw5)
   rcases ft v2 with ha1 | ha1
   ·obtain⟨v3,hv3,hw5⟩:=bs (yrh ha1 hw5)
    obtain⟨v4,hv4,hw5⟩:=bs hw5
    have hw5:=oi hw5
    subst hw5
    exact(r_dq yda 14 [] [pB 2 (v4==1)] [hC 2 [.p (.bool v1)],(4,gT),(5,gT),(6,{g:=some true,call:=some (none,[.p (.bool v2)],true)}),(7,bT),(9,gT),(10,gT),(11,{g:=some true,call:=some (none,[.p (iV v3)],true)}),(12,gT),(13,gT),(14,{g:=some true,call:=some (none,[.p (iV v4)],true)}),(15,gT),(16,bT)] (B6 (yhh hv1) ha0 ha0 ha0 (yhh hv2) ha0 (B6 ha1 ha1 ha1 (ybt hv3) ha1 ha1 (A4 ha1 (yct hv4) ha1 ha1))))
   replace hw5:=ysh ha1 hw5
   have hw5:=oi hw5
   subst hw5
   exact(r_dq yda 14 [] [pB 2 false] [hC 2 [.p (.bool v1)],(4,gT),(5,gT),(6,{g:=some true,call:=some (none,[.p (.bool v2)],true)}),(7,bT),(9,gF),(10,gF),(11,gF),(12,gF),(13,gF),(14,gF),(15,gF),(16,bF)] (B6 (yhh hv1) ha0 ha0 ha0 (yhh hv2) ha0 (B6 ha1 ha1 ha1 ha1 ha1 ha1 (A2 ha1 ha1))))
  replace hw5:=ysh ha0 hw5
  have hw5:=oi hw5
  subst hw5
  exact(r_dq yda 14 [] [pB 2 false] [hC 2 [.p (.bool v1)],(4,gF),(5,gF),(6,gF),(7,bF),(9,gF),(10,gF),(11,gF),(12,gF),(13,gF),(14,gF),(15,gF),(16,bF)] (B6 (yhh hv1) ha0 ha0 ha0 ha0 fF (B6 fF fF fF fF fF fF (A1 fF))))
 refine yra ?_
 obtain rfl:=oi h
 exact er [(.p (.bool w5),2)]
theorem ykb {a0:Int} {a1:Int}  {r:(Qr×Bool)} (h:yob a0 a1=some r):Meets Tryz.prog 69 [wI a0,wI a1] { vals:=[.p (vRt r.1),.p (.bool r.2)] }:=by
 refine mo Tryz.func69 [pI 0 a0,pI 1 a1] ?_
 unfold yob at h
 refine kG [pI 0 a0,pI 1 a1,bX 4 zR] [] trivial ?_
 refine yab (kG [pI 0 a0,pI 1 a1,bX 4 zR,pB 9 (a1==0)] [] trivial ?_)
 refine kI h (fun hc2_0 h=>?_) (fun hc2_0 h=>?_)
 ·refine kG [bX 4 zR,pB 5 false] [] trivial ?_
  refine yra (q_r ?_)
  obtain rfl:=oi h
  exact er [(.p (.agg #[.int .i64 0,.int .i64 0]),4),(.p (.bool false),5)]
 refine yga (q_n ?_)
 obtain⟨v2,hv2,h⟩:=bs h
 obtain⟨v3,hv3,h⟩:=bs h
 obtain⟨v4,hv4,h⟩:=bs h
 refine kG [pI 0 a0,pI 1 a1,bX 4 zR,pI 6 v4] [hC 1 [.p (iV v2)],hC 3 [.p (iV v3)],hC 4 [.p (iV v4)]] (A3 (ybt hv2) (ybt hv3) (yct hv4)) ?_
 refine yib (J:=fun (x:Int)=>[pI 0 a0,pI 1 a1,bX 4 zR,pI 6 x]) (K:=fun x=>ylj a0 a1 x=some r) (fun x5 h=>?_) ?_
 ·unfold ylj at h
  obtain⟨u6,hu6,h⟩:=bs h
  refine yza (r_dq yda 8 [] [bX 4 zR,bX 7 [rI (w64 (Int.tdiv a0 x5)),rI (w64 (Int.tdiv a1 x5))]] [] (A2 (yla hu6) (yla hu6))) ?_
  refine yab ?_
  obtain⟨v7,hv7,h⟩:=bs h
  refine kG [bX 4 zR,bX 7 [rI (w64 (Int.tdiv a0 x5)),rI (w64 (Int.tdiv a1 x5))],pB 29 (!v7)] [hC 1 [.p (.bool v7)]] (A1 (yzr hv7)) ?_
  refine kI h (fun hc2_7 h=>?_) (fun hc2_7 h=>?_)
  ·refine kG [bX 4 zR,pB 5 false] [] trivial ?_
   refine yra (q_r ?_)
   obtain rfl:=oi h
   exact er [(.p (.agg #[.int .i64 0,.int .i64 0]),4),(.p (.bool false),5)]
  refine yga (q_n (kG [bX 4 [rI (w64 (Int.tdiv a0 x5)),rI (w64 (Int.tdiv a1 x5))],pB 5 true] [] trivial ?_))
  refine yra ?_
  obtain rfl:=oi h
  exact er [(.p (.agg #[.int .i64 (w64 (Int.tdiv a0 x5)),.int .i64 (w64 (Int.tdiv a1 x5))]),4),(.p (.bool true),5)]
 refine kG [pI 0 a0,pI 1 a1,bX 4 zR,pI 6 v4,pB 17 (decide (a1<0))] [] trivial ?_
 refine kI h (fun hc2_8 h=>?_) (fun hc2_8 h=>?_)
 ·refine yub (r_gq [pI 0 a0,pI 1 a1,bX 4 zR,pI 6 (w64 (0-v4))] [] trivial) ?_
  refine q_n ?_
  exact jx (w64 (0-v4)) h
 refine yga (q_n ?_)
 exact jx v4 h
theorem yud {a0:Cu} {a1:Int}  {r:(Qr×Cu)} (h:yhc a0 a1=some r):MeetsB Tryz.prog 146 (.box (eCu a0)) [wI a1] [.p (vRt r.1)] (.box (eCu r.2)):=by
 refine mob Tryz.func146 [bC 0 a0,pI 1 a1] ?_
 unfold yhc at h
 refine kG [bC 0 a0,pI 1 a1,bX 4 zR] [] trivial ?_
 obtain⟨v1,hv1,h⟩:=bs h
 obtain⟨v2,hv2,h⟩:=bs h
 refine kG [bC 0 v1.2,bX 4 zR,bR 5 v2.1] [hF 3 [.p (iV v1.1)] (.box (eCu v1.2)),hC 5 [.p (vRt v2.1),.p (.bool v2.2)]] (A2 (yja hv1) (ykb hv2)) ?_
 refine kG [bC 0 v1.2,bR 4 v2.1] [] trivial ?_
 refine yra ?_
 obtain rfl:=oi h
 exact ebr [(.p (vRt v2.1),4)]
theorem ypv {a0:Int}  {r:Int} (h:yel a0=some r):Meets Tryz.prog 177 [wI a0] { vals:=[.p (iV r)] }:=by
 refine mo Tryz.func177 [pI 0 a0] ?_
 unfold yel at h
 refine kG [pI 0 a0] [] trivial ?_
 refine yab (yfa (kG [pI 0 a0,pB 3 (decide (a0>0))] [] trivial ?_))
 refine kI h (fun hc3_0 h=>?_) (fun hc3_0 h=>?_)
 ·refine kG [pI 2 1] [] trivial ?_
  refine yra (b_r (q_r ?_))
  obtain rfl:=oi h
  exact er [(.p (iV 1),2)]
 refine kG [pB 6 (decide (a0<0))] [] trivial ?_
 refine kI h (fun hc3_1 h=>?_) (fun hc3_1 h=>?_)
 ·refine kG [pI 2 (-1)] [] trivial ?_
  refine yra (b_r (q_r ?_))
  obtain rfl:=oi h
  exact er [(.p (iV (-1)),2)]
 refine yga (b_n (q_n (kG [pI 2 0] [] trivial ?_)))
 refine yra ?_
 obtain rfl:=oi h
 exact er [(.p (iV 0),2)]
theorem yta {a0:Qr} {a1:Qr}  {r:Int} (h:yqb a0 a1=some r):Meets Tryz.prog 119 [.v (vRt a0),.v (vRt a1)] { vals:=[.p (iV r)] }:=by
 refine mo Tryz.func119 [(0,.p (vRt a0)),(1,.p (vRt a1))] ?_
 unfold yqb at h
 refine kG [bR 2 a0,bR 3 a1] [] trivial ?_
 obtain⟨v1,hv1,h⟩:=bs h
 refine kG [pI 4 v1] [hC 11 [.p (iV v1)]] (A1 (ypv hv1)) ?_
 refine yra ?_
 obtain rfl:=oi h
 exact er [(.p (iV v1),4)]
theorem yxd {a0:(List Qr)} {a1:Qr}  {r:(List Qr)} (h:ytc a0 a1=some r):MeetsB Tryz.prog 120 (.ov false [.sl (some 38) (a0.map eRt)]) [.v (vRt a1)] [rO 38 eRt r] (.u):=by
 refine mob Tryz.func120 [vL 0 38 eRt a0,(1,.p (vRt a1))] ?_
 unfold ytc at h
 refine kG [vL 0 38 eRt a0,bR 3 a1] [] trivial ?_
 refine kG [vL 0 38 eRt a0,bR 3 a1,pI 5 0] [] trivial ?_
 refine yib (J:=fun (x:Int)=>[vL 0 38 eRt a0,bR 3 a1,pI 5 x]) (K:=fun x=>yzn a0 a1 x=some r) (fun x1 h=>?_) ?_
 ·unfold yzn at h
  refine yab ?_
  obtain⟨w3,hw3,h⟩:=bs h
  refine yza (l1:=[vL 0 38 eRt a0,bR 3 a1,pI 5 x1,pB 32 w3]) ?_ ?_
  ·clear h
   rcases ft (decide (x1<(a0.length:Int))) with ha0 | ha0
   ·obtain⟨v2,hv2,hw3⟩:=bs (yrh ha0 hw3)
    have hw3:=oi hw3
    subst hw3
    exact(r_dq yda 10 [] [vL 0 38 eRt a0,bR 3 a1,pI 5 x1,pB 32 ((v2.1==a1.1)&&(v2.2==a1.2))] [hN 2 a0,(5,gT),(6,gT),(7,{g:=some true,row:=some (eRt v2)}),(8,{g:=some true,row:=some (eRt v2)}),(9,gT),(10,{g:=some true,pv:=some (.bool ((v2.1==a1.1)&&(v2.2==a1.2)))}),(11,bT)] (B6 (lF eRt a0) ha0 ha0 ha0 (yba hv2).1 (yca eRt (yba hv2).2) (A6 ha0 (gW 38 eRt hv2) ha0 ha0 (show PureAt Tryz.prog (.binOp .eql 38 (.tmp 29) (.tmp 30) 38) [vRt v2,vRt a1] (.bool ((v2.1==a1.1)&&(v2.2==a1.2))) from(ylf (by kernel_rfl))) ha0)))
   replace hw3:=ysh ha0 hw3
   have hw3:=oi hw3
   subst hw3
   exact(r_dq yda 10 [] [vL 0 38 eRt a0,bR 3 a1,pI 5 x1,pB 32 false] [hN 2 a0,(5,gF),(6,gF),(7,gF),(8,gF),(9,gF),(10,gF),(11,bF)] (B6 (lF eRt a0) ha0 ha0 ha0 ha0 ha0 (A2 ha0 ha0)))
  refine kI h (fun hc2_3 h=>?_) (fun hc2_3 h=>?_)
  ·refine kG [vL 4 38 eRt a0] [] trivial ?_
   refine yra (q_r ?_)
   obtain rfl:=oi h
   exact ebr [(.ov false [.sl (some 38) (a0.map eRt)],4)]
  refine yga (q_n (yha2 0 (g:=false) (cs:=[.sl (some 38) (a0.map eRt)]) [.sl none (a0.map eRt)] [dL 0 eRt a0,bR 3 a1,pI 5 x1,pB 32 w3] (ycp (yua (yku er_I er_I)) rfl) ?_))
  obtain⟨u5,hu5,h⟩:=bs h
  obtain⟨u6,hu6,h⟩:=bs h
  obtain⟨u7,hu7,h⟩:=bs h
  obtain⟨u8,hu8,h⟩:=bs h
  refine yza (r_dq yda 11 [(4,34),(7,38),(4096,34),(4097,38)] [vL 4 38 eRt (((a0.take (Int.toNat x1))++[a1])++(a0.drop (Int.toNat x1)))] [(3,{fix:=some (dL 37 eRt (a0.take (Int.toNat x1)))}),(6,{pre:=some (0,.u),fix:=some (dL 40 eRt ([a1]))}),(7,{fix:=some (vL 41 38 eRt ((a0.take (Int.toNat x1))++[a1]))}),(10,{fix:=some (dL 44 eRt (a0.drop (Int.toNat x1)))}),(11,{fix:=some (vL 45 38 eRt (((a0.take (Int.toNat x1))++[a1])++(a0.drop (Int.toNat x1))))})] (B6 (show 0<=(Int.toNat x1) from(by have hg:=(yla hu5);first | (simp only[List.length_map];omega) | omega)) (show(Int.toNat x1)<=(a0.map eRt).length from(by have hg:=(yla hu5);first | (simp only[List.length_map];omega) | omega)) (show ∀ row∈(a0.map eRt),row.length=2 from(ycc fun _=>rfl)) (show(0:Int)<=x1 from(by have hg:=(yla hu5);omega)) (show(SV.d false [.sl none (((a0.map eRt).take (Int.toNat x1)).drop 0)]:SV)=.d false [.sl none ((a0.take (Int.toNat x1)).map eRt)] from(congrArg (fun z=>SV.d false [.sl none z]) yla2)) (show List.length ([]:List (List C))+List.length (((a0.take (Int.toNat x1)).map eRt):List (List C))<=1099511627776 from(by have hg:=(yla hu6);simpa using hg)) (B6 (show ∀ row∈(((a0.take (Int.toNat x1)).map eRt):List (List C)),row.length=2 from(ycc fun _=>rfl)) (show(SV.d false (eraR [.sl (some 38) (([a1]).map eRt)]):SV)=.d false [.sl none (([a1]).map eRt)] from(congrArg (fun z=>SV.d false z) (ycp (yua (yku er_I er_I)) rfl))) (lG' eRt hu7) (show ∀ row∈((([a1]).map eRt):List (List C)),row.length=2 from(ycc fun _=>rfl)) (aP' 38 eRt (a0.take (Int.toNat x1)) ([a1])) (show(Int.toNat x1)<=(a0.map eRt).length from(by have hg:=(yla hu5);first | (simp only[List.length_map];omega) | omega)) (B6 (show(a0.map eRt).length<=(a0.map eRt).length from(Nat.le_refl _)) (show ∀ row∈(a0.map eRt),row.length=2 from(ycc fun _=>rfl)) (show(0:Int)<=x1 from(by have hg:=(yla hu5);omega)) (show(SV.d false [.sl none (((a0.map eRt).take (a0.map eRt).length).drop (Int.toNat x1))]:SV)=.d false [.sl none ((a0.drop (Int.toNat x1)).map eRt)] from(congrArg (fun z=>SV.d false [.sl none z]) yfa2)) (lG' eRt hu8) (show ∀ row∈(((a0.drop (Int.toNat x1)).map eRt):List (List C)),row.length=2 from(ycc fun _=>rfl)) (A1 (aP' 38 eRt ((a0.take (Int.toNat x1))++[a1]) (a0.drop (Int.toNat x1)))))))) ?_
  refine yra ?_
  obtain rfl:=oi h
  exact ebr [(.ov false [.sl (some 38) ((((a0.take (Int.toNat x1))++[a1])++(a0.drop (Int.toNat x1))).map eRt)],4)]
 refine yfa ?_
 obtain⟨y10,hl_x9,hk_x9⟩:=bs h
 clear h
 refine yfc (J:=fun (x:Int)=>[vL 0 38 eRt a0,bR 3 a1,pI 5 x]) hl_x9 wkk (fun x9 o_x9 h hy_x9=>?_)
 unfold yao at h
 refine yab ?_
 obtain⟨w13,hw13,h⟩:=bs h
 refine yza (l1:=[vL 0 38 eRt a0,bR 3 a1,pI 5 x9,pB 18 w13]) ?_ ?_
 ·clear h
  rcases ft (decide (x9<(a0.length:Int))) with ha0 | ha0
  ·obtain⟨v11,hv11,hw13⟩:=bs (yrh ha0 hw13)
   obtain⟨v12,hv12,hw13⟩:=bs hw13
   have hw13:=oi hw13
   subst hw13
   exact(r_dq yda 10 [] [vL 0 38 eRt a0,bR 3 a1,pI 5 x9,pB 18 (decide (v12<0))] [hN 2 a0,(5,gT),(6,gT),(7,{g:=some true,row:=some (eRt v11)}),(8,{g:=some true,row:=some (eRt v11)}),(9,gT),(10,{g:=some true,call:=some (none,[.p (iV v12)],true)}),(11,gT),(12,bT)] (B6 (lF eRt a0) ha0 ha0 ha0 (yba hv11).1 (yca eRt (yba hv11).2) (B6 ha0 (gW 38 eRt hv11) ha0 ha0 (yta hv12) ha0 (A1 ha0))))
  replace hw13:=ysh ha0 hw13
  have hw13:=oi hw13
  subst hw13
  exact(r_dq yda 10 [] [vL 0 38 eRt a0,bR 3 a1,pI 5 x9,pB 18 false] [hN 2 a0,(5,gF),(6,gF),(7,gF),(8,gF),(9,gF),(10,gF),(11,gF),(12,bF)] (B6 (lF eRt a0) ha0 ha0 ha0 ha0 ha0 (A3 ha0 ha0 ha0)))
 refine kI h (fun hc5_13 h=>?_) (fun hc5_13 h=>?_)
 ·refine yga (q_n (yfa (yub (r_gq [vL 0 38 eRt a0,bR 3 a1,pI 5 (w64 (x9+1))] [] trivial) ?_)))
  refine b_n ?_
  exact lqn (w64 (x9+1)) h
 refine ywb (q_x (lq_x (b_x ?_)))
 have hyy:=hy_x9 _ (oi h).symm
 subst hyy
 have h:=hk_x9
 refine q_n ?_
 exact jx x9 h
theorem yuu {a0:Cu} {a1:Int}  {r:((List Qp)×Cu)} (h:yxh a0 a1=some r):MeetsB Tryz.prog 186 (.box (eCu a0)) [wI a1] [.ov false (oP 96 r.1)] (.box (eCu r.2)):=by
 refine mob Tryz.func186 [bC 0 a0,pI 1 a1] ?_
 unfold yxh at h
 refine kG [bC 0 a0,pI 1 a1] [] trivial ?_
 obtain⟨v1,hv1,h⟩:=bs h
 refine kG [bC 0 v1.2,pI 1 a1,pI 5 v1.1] [(2,{lend:=some (some [.d false [.sl none (([0,1,1,2,3]).map eI)]],[.p (iV v1.1)],.box (eCu v1.2),false),fix:=some (dL 12 eI ([0,1,1,2,3]))})] (A3 (show([.d false [.sl none (eraL (([0,1,1,2,3]).map eI))]]:List Arg)=[.d false [.sl none (([0,1,1,2,3]).map eI)]] from(by simp only[yua (h:=eI) er_I])) (ypa hv1) (show(SV.d false (eraR [.sl (some 3) (([0,1,1,2,3]).map eI)]):SV)=.d false [.sl none (([0,1,1,2,3]).map eI)] from(congrArg (fun z=>SV.d false z) (ycp (yua er_I) rfl)))) ?_
 refine yib (J:=fun (x:((List Int)×Int×Int×Int))=>[bC 0 (x.1,x.2.1,x.2.2.1),pI 1 a1,pI 5 x.2.2.2]) (K:=fun x=>ygd a1 x=some r) (fun x2 h=>?_) ?_
 ·unfold ygd at h
  obtain⟨v3,hv3,h⟩:=bs h
  obtain⟨v4,hv4,h⟩:=bs h
  refine kG [bC 0 (x2.1,x2.2.1,x2.2.2.1),pI 1 a1,pI 5 x2.2.2.2,vL 6 38 eRt ([v3,v4])] [hC 0 [.p (vRt v3)],hC 1 [.p (vRt v4)]] (A2 (ydb hv3) (ydb hv4)) ?_
  refine yib (J:=fun (x:((List Int)×Int×Int×(List Qr)))=>[bC 0 (x.1,x.2.1,x.2.2.1),pI 1 a1,vL 6 38 eRt x.2.2.2]) (K:=fun x=>yoh a1 x=some r) (fun x5 h=>?_) ?_
  ·unfold yoh at h
   refine kG [bC 0 (x5.1,x5.2.1,x5.2.2.1),pI 1 a1,vL 6 38 eRt x5.2.2.2,vN 8 96] [] trivial ?_
   refine yib (J:=fun (x:((List Int)×Int×Int×(List Qp)))=>[bC 0 (x.1,x.2.1,x.2.2.1),vP 8 96 x.2.2.2]) (K:=fun x=>yyk x=some r) (fun x6 h=>?_) ?_
   ·unfold yyk at h
    refine kG [bC 0 (x6.1,x6.2.1,x6.2.2.1),vP 4 96 x6.2.2.2] [] trivial ?_
    refine yra ?_
    obtain rfl:=oi h
    exact ebr [(.ov false (oP 96 x6.2.2.2),4)]
   refine kG [bC 0 (x5.1,x5.2.1,x5.2.2.1),pI 1 a1,vL 6 38 eRt x5.2.2.2,vN 8 96,rF 35 6,pL 36 x5.2.2.2,pI 37 0] [hN 1 x5.2.2.2] (A1 (lF eRt x5.2.2.2)) ?_
   refine yfa ?_
   obtain⟨y8,hl_x7,hk_x7⟩:=bs h
   clear h
   refine yfc (J:=fun (x:((List Int)×Int×Int×(List Qp)×Int))=>[bC 0 (x.1,x.2.1,x.2.2.1),pI 1 a1,vL 6 38 eRt x5.2.2.2,vP 8 96 x.2.2.2.1,rF 35 6,pL 36 x5.2.2.2,pI 37 x.2.2.2.2]) hl_x7 wkk (fun x7 o_x7 h hy_x7=>?_)
   unfold yzk at h
   refine kG [bC 0 (x7.1,x7.2.1,x7.2.2.1),pI 1 a1,vL 6 38 eRt x5.2.2.2,vP 8 96 x7.2.2.2.1,rF 35 6,pL 36 x5.2.2.2,pI 37 x7.2.2.2.2,pB 38 (decide (x7.2.2.2.2<(x5.2.2.2.length:Int)))] [] trivial ?_
   refine yab (kI h (fun hc5_8 h=>?_) (fun hc5_8 h=>?_))
   ·refine yga (q_n (yab (yfa ?_)))
    obtain⟨v10,hv10,h⟩:=bs h
    refine kG [bC 0 (x7.1,x7.2.1,x7.2.2.1),pI 1 a1,vL 6 38 eRt x5.2.2.2,vP 8 96 x7.2.2.2.1,bR 10 v10,rF 35 6,pL 36 x5.2.2.2,pI 37 x7.2.2.2.2] [hR 0 (eRt v10),hR 1 (eRt v10)] (A3 (yba hv10).1 (yca eRt (yba hv10).2) (gW 38 eRt hv10)) ?_
    obtain⟨v11,hv11,h⟩:=bs h
    obtain⟨u12,hu12,h⟩:=bs h
    refine yub (r_dq yda 7 [(4,0)] [bC 0 v11.2,pI 1 a1,vL 6 38 eRt x5.2.2.2,vP 8 96 (x7.2.2.2.1++[(v10,v11.1)]),rF 35 6,pL 36 x5.2.2.2,pI 37 x7.2.2.2.2] [hF 4 [.p (vRt v11.1)] (.box (eCu v11.2)),(7,{fix:=some (vP 48 96 (x7.2.2.2.1++[(v10,v11.1)]))})] (A4 (yud hv11) (lG' ePt hu12) (show ∀ row∈((([(v10,v11.1)]).map ePt):List (List C)),row.length=4 from(ycc fun _=>rfl)) (aP' 96 ePt x7.2.2.2.1 ([(v10,v11.1)])))) ?_
    refine b_n (q_n (yub (r_gq [bC 0 v11.2,pI 1 a1,vL 6 38 eRt x5.2.2.2,vP 8 96 (x7.2.2.2.1++[(v10,v11.1)]),rF 35 6,pL 36 x5.2.2.2,pI 37 (w64 (x7.2.2.2.2+1))] [] trivial) ?_))
    exact lqn (v11.2.1,v11.2.2.1,v11.2.2.2,(x7.2.2.2.1++[(v10,v11.1)]),(w64 (x7.2.2.2.2+1))) h
   refine ywb (q_x (lq_x (b_x ?_)))
   have hyy:=hy_x7 _ (oi h).symm
   subst hyy
   have h:=hk_x7
   refine q_n ?_
   exact jx (x7.1,x7.2.1,x7.2.2.1,x7.2.2.2.1) h
  refine kG [bC 0 (x2.1,x2.2.1,x2.2.2.1),pI 1 a1,pI 5 x2.2.2.2,vL 6 38 eRt ([v3,v4]),pI 7 0] [] trivial ?_
  refine yfa ?_
  obtain⟨y14,hl_x13,hk_x13⟩:=bs h
  clear h
  refine yfc (J:=fun (x:((List Int)×Int×Int×(List Qr)×Int))=>[bC 0 (x.1,x.2.1,x.2.2.1),pI 1 a1,pI 5 x2.2.2.2,vL 6 38 eRt x.2.2.2.1,pI 7 x.2.2.2.2]) hl_x13 wkk (fun x13 o_x13 h hy_x13=>?_)
  unfold yal at h
  refine yab (yza (l1:=[bC 0 (x13.1,x13.2.1,x13.2.2.1),pI 1 a1,pI 5 x2.2.2.2,vL 6 38 eRt x13.2.2.2.1,pI 7 x13.2.2.2.2,pB 27 ((decide ((x13.2.2.2.1.length:Int)<(w64 (x2.2.2.2+2))))&&(decide (x13.2.2.2.2<60)))]) ?_ ?_)
  ·rcases ft (decide ((x13.2.2.2.1.length:Int)<(w64 (x2.2.2.2+2)))) with ha0 | ha0
   ·exact RegOk.of_eq (r_gq [bC 0 (x13.1,x13.2.1,x13.2.2.1),pI 1 a1,pI 5 x2.2.2.2,vL 6 38 eRt x13.2.2.2.1,pI 7 x13.2.2.2.2,pB 27 (decide (x13.2.2.2.2<60))] [hN 1 x13.2.2.2.1,(6,gT),(7,gT),(8,bT)] (A4 (lF eRt x13.2.2.2.1) ha0 ha0 ha0)) (by simp[ha0])
   exact RegOk.of_eq (r_gq [bC 0 (x13.1,x13.2.1,x13.2.2.1),pI 1 a1,pI 5 x2.2.2.2,vL 6 38 eRt x13.2.2.2.1,pI 7 x13.2.2.2.2,pB 27 false] [hN 1 x13.2.2.2.1,(6,gF),(7,gF),(8,bF)] (A4 (lF eRt x13.2.2.2.1) ha0 ha0 ha0)) (by simp[ha0])
  refine kI h (fun hc5_14 h=>?_) (fun hc5_14 h=>?_)
  ·refine yga (q_n (yab (yfa ?_)))
   obtain⟨v16,hv16,h⟩:=bs h
   obtain⟨v17,hv17,h⟩:=bs h
   refine yub (r_gq [bC 0 v16.2,pI 1 a1,pI 5 x2.2.2.2,vL 6 38 eRt v17,pI 7 x13.2.2.2.2] [hF 3 [.p (vRt v16.1)] (.box (eCu v16.2)),(4,{lend:=some (none,[rO 38 eRt v17],.u,true)})] (A3 (yud hv16) (yxd hv17) (sR' 38 v17))) ?_
   refine b_n (q_n (yub (r_gq [bC 0 v16.2,pI 1 a1,pI 5 x2.2.2.2,vL 6 38 eRt v17,pI 7 (w64 (x13.2.2.2.2+1))] [] trivial) ?_))
   exact lqn (v16.2.1,v16.2.2.1,v16.2.2.2,v17,(w64 (x13.2.2.2.2+1))) h
  refine ywb (q_x (lq_x (b_x ?_)))
  have hyy:=hy_x13 _ (oi h).symm
  subst hyy
  have h:=hk_x13
  refine q_n ?_
  exact jx (x13.1,x13.2.1,x13.2.2.1,x13.2.2.2.1) h
 obtain⟨v18,hv18,h⟩:=bs h
 refine kG [bC 0 v18.2,pI 1 a1,pI 5 v1.1,pB 15 v18.1] [hF 1 [.p (.bool v18.1)] (.box (eCu v18.2))] (A1 (yeb hv18)) ?_
 refine kI h (fun hc2_18 h=>?_) (fun hc2_18 h=>?_)
 ·refine yub (r_gq [bC 0 v18.2,pI 1 a1,pI 5 10] [] trivial) ?_
  refine q_n ?_
  exact jx (v18.2.1,v18.2.2.1,v18.2.2.2,10) h
 refine yga (q_n ?_)
 exact jx (v18.2.1,v18.2.2.1,v18.2.2.2,v1.1) h
theorem yaz {a0:Cu}  {r:((List Qp)×Cu)} (h:ybo a0=some r):MeetsB Tryz.prog 139 (.box (eCu a0)) [] [.ov false (oP 96 r.1)] (.box (eCu r.2)):=by
 refine mob Tryz.func139 [bC 0 a0] ?_
 unfold ybo at h
 refine kG [bC 0 a0] [] trivial ?_
 obtain⟨v1,hv1,h⟩:=bs h
 refine kG [bC 0 v1.2,pI 3 v1.1] [(2,{lend:=some (some [.d false [.sl none (([1,2,2,3,4,4,6,12,100]).map eI)]],[.p (iV v1.1)],.box (eCu v1.2),false),fix:=some (dL 10 eI ([1,2,2,3,4,4,6,12,100]))})] (A3 (show([.d false [.sl none (eraL (([1,2,2,3,4,4,6,12,100]).map eI))]]:List Arg)=[.d false [.sl none (([1,2,2,3,4,4,6,12,100]).map eI)]] from(by simp only[yua (h:=eI) er_I])) (ypa hv1) (show(SV.d false (eraR [.sl (some 3) (([1,2,2,3,4,4,6,12,100]).map eI)]):SV)=.d false [.sl none (([1,2,2,3,4,4,6,12,100]).map eI)] from(congrArg (fun z=>SV.d false z) (ycp (yua er_I) rfl)))) ?_
 obtain⟨v2,hv2,h⟩:=bs h
 refine kG [bC 0 v2.2,pI 3 v1.1,vP 4 96 v2.1] [hF 2 [.ov false (oP 96 v2.1)] (.box (eCu v2.2))] (A1 (yuu hv2)) ?_
 refine yib (J:=fun (x:((List Int)×Int×Int×(List Qp)))=>[bC 0 (x.1,x.2.1,x.2.2.1),vP 4 96 x.2.2.2]) (K:=fun x=>yie x=some r) (fun x3 h=>?_) ?_
 ·unfold yie at h
  refine kG [bC 0 (x3.1,x3.2.1,x3.2.2.1),vP 2 96 x3.2.2.2] [] trivial ?_
  refine yra ?_
  obtain rfl:=oi h
  exact ebr [(.ov false (oP 96 x3.2.2.2),2)]
 obtain⟨v4,hv4,h⟩:=bs h
 refine kG [bC 0 v4.2,pI 3 v1.1,vP 4 96 v2.1,pB 16 v4.1] [hF 1 [.p (.bool v4.1)] (.box (eCu v4.2))] (A1 (yeb hv4)) ?_
 refine kI h (fun hc2_4 h=>?_) (fun hc2_4 h=>?_)
 ·obtain⟨v6,hv6,h⟩:=bs h
  refine kG [bC 0 v6.2,pI 3 v1.1,pI 5 v6.1] [(2,{lend:=some (some [.d false [.sl none (([2,2,3,4]).map eI)]],[.p (iV v6.1)],.box (eCu v6.2),false),fix:=some (dL 18 eI ([2,2,3,4]))})] (A3 (show([.d false [.sl none (eraL (([2,2,3,4]).map eI))]]:List Arg)=[.d false [.sl none (([2,2,3,4]).map eI)]] from(by simp only[yua (h:=eI) er_I])) (ypa hv6) (show(SV.d false (eraR [.sl (some 3) (([2,2,3,4]).map eI)]):SV)=.d false [.sl none (([2,2,3,4]).map eI)] from(congrArg (fun z=>SV.d false z) (ycp (yua er_I) rfl)))) ?_
  refine kG [bC 0 v6.2,pI 3 v1.1,vN 4 96,pI 5 v6.1] [] trivial ?_
  refine yib (J:=fun (x:(List Qp))=>[bC 0 v6.2,pI 3 v1.1,vP 4 96 x]) (K:=fun x=>yam v1 v6 x=some r) (fun x7 h=>?_) ?_
  ·unfold yam at h
   obtain⟨v8,hv8,h⟩:=bs h
   refine kG [bC 0 v8.2,pI 3 v1.1,vP 4 96 x7,pB 40 v8.1] [hF 1 [.p (.bool v8.1)] (.box (eCu v8.2))] (A1 (yeb hv8)) ?_
   refine kI h (fun hc2_8 h=>?_) (fun hc2_8 h=>?_)
   ·obtain⟨v10,hv10,h⟩:=bs h
    obtain⟨v11,hv11,h⟩:=bs h
    refine yub (r_gq [bC 0 v10.2,vP 4 96 (x7.set (Int.toNat 1) (v11.1,v10.1))] [hF 3 [.p (vRt v10.1)] (.box (eCu v10.2)),hR 4 (ePt v11),(6,{row:=some (eRt v11.2),fix:=some (vP 4 96 (x7.set (Int.toNat 1) (v11.1,v10.1)))})] (A5 (yud hv10) (yba hv11).1 (yca ePt (yba hv11).2) (show getRow [(oP 96 x7)] [(0,0),((Int.toNat 1),2)]=some (eRt v11.2) from((gr0 rfl).trans (gre (yca ePt (yba hv11).2)))) (show(SV.ov false [.sl (some 96) (setL (x7.map ePt) [((Int.toNat 1),2)] (eRt v10.1))]:SV)=.ov false (oP 96 (x7.set (Int.toNat 1) (v11.1,v10.1))) from(congrArg (fun z=>SV.ov false [.sl (some 96) z]) (set1 (f:=ePt) (y:=(v11.1,v10.1)) (yba hv11).2 rfl))))) ?_
    refine q_n ?_
    exact jx (v10.2.1,v10.2.2.1,v10.2.2.2,(x7.set (Int.toNat 1) (v11.1,v10.1))) h
   refine yga (q_n ?_)
   exact jx (v8.2.1,v8.2.2.1,v8.2.2.2,x7) h
  refine kG [bC 0 v6.2,pI 3 v1.1,vN 4 96,pI 5 v6.1,pI 6 0] [] trivial ?_
  refine yfa ?_
  obtain⟨y13,hl_x12,hk_x12⟩:=bs h
  clear h
  refine yfc (J:=fun (x:((List Qp)×Int))=>[bC 0 v6.2,pI 3 v1.1,vP 4 96 x.1,pI 5 v6.1,pI 6 x.2]) hl_x12 wkk (fun x12 o_x12 h hy_x12=>?_)
  unfold ysp at h
  refine yab (kG [bC 0 v6.2,pI 3 v1.1,vP 4 96 x12.1,pI 5 v6.1,pI 6 x12.2,pB 22 (decide (x12.2<=v6.1))] [] trivial ?_)
  refine kI h (fun hc6_13 h=>?_) (fun hc6_13 h=>?_)
  ·refine yga (q_n (yab (yfa ?_)))
   obtain⟨v15,hv15,h⟩:=bs h
   refine kG [bC 0 v6.2,pI 3 v1.1,vP 4 96 x12.1,pI 5 v6.1,pI 6 x12.2,bR 7 v15.1] [hC 2 [.p (vRt v15.1),.p (.bool v15.2)]] (A1 (ykb hv15)) ?_
   obtain⟨v16,hv16,h⟩:=bs h
   obtain⟨u17,hu17,h⟩:=bs h
   refine yub (r_dq yda 7 [] [bC 0 v6.2,pI 3 v1.1,vP 4 96 (x12.1++[(v15.1,v16)]),pI 5 v6.1,pI 6 x12.2] [hC 4 [.p (vRt v16)],(7,{fix:=some (vP 38 96 (x12.1++[(v15.1,v16)]))})] (A5 (show 2≠(0:Int) from(by decide)) (ydb hv16) (lG' ePt hu17) (show ∀ row∈((([(v15.1,v16)]).map ePt):List (List C)),row.length=4 from(ycc fun _=>rfl)) (aP' 96 ePt x12.1 ([(v15.1,v16)])))) ?_
   refine b_n (q_n (yub (r_gq [bC 0 v6.2,pI 3 v1.1,vP 4 96 (x12.1++[(v15.1,v16)]),pI 5 v6.1,pI 6 (w64 (x12.2+1))] [] trivial) ?_))
   exact lqn ((x12.1++[(v15.1,v16)]),(w64 (x12.2+1))) h
  refine ywb (q_x (lq_x (b_x ?_)))
  have hyy:=hy_x12 _ (oi h).symm
  subst hyy
  have h:=hk_x12
  refine q_n ?_
  exact jx x12.1 h
 refine yga (q_n ?_)
 exact jx (v4.2.1,v4.2.2.1,v4.2.2.2,v2.1) h
theorem ytx {a0:Cu}  {r:(Qr×Cu)} (h:ybm a0=some r):MeetsB Tryz.prog 187 (.box (eCu a0)) [] [.p (vRt r.1)] (.box (eCu r.2)):=by
 refine mob Tryz.func187 [bC 0 a0] ?_
 unfold ybm at h
 refine kG [bC 0 a0,bX 2 zR] [] trivial ?_
 obtain⟨v1,hv1,h⟩:=bs h
 obtain⟨v2,hv2,h⟩:=bs h
 obtain⟨v3,hv3,h⟩:=bs h
 obtain⟨v4,hv4,h⟩:=bs h
 obtain⟨v5,hv5,h⟩:=bs h
 obtain⟨v6,hv6,h⟩:=bs h
 obtain⟨v7,hv7,h⟩:=bs h
 refine kG [bC 0 v6.2,bX 2 zR,bR 3 v7.1,pB 4 v7.2] [hF 2 [.p (iV v1.1)] (.box (eCu v1.2)),hF 5 [.p (iV v2.1)] (.box (eCu v2.2)),(8,{lend:=some (some [.d false [.sl none (([0,1,2,3,(-1),(-5),(w64 (v1.1-20)),(w64 (v2.1-1000)),1000000000,(-1000000000)]).map eI)]],[.p (iV v3.1)],.box (eCu v3.2),false),fix:=some (dL 13 eI ([0,1,2,3,(-1),(-5),(w64 (v1.1-20)),(w64 (v2.1-1000)),1000000000,(-1000000000)]))}),hF 11 [.p (iV v4.1)] (.box (eCu v4.2)),hF 14 [.p (iV v5.1)] (.box (eCu v5.2)),(17,{lend:=some (some [.d false [.sl none (([1,2,3,4,8,7,(w64 (1+v4.1)),(w64 (1+v5.1)),1000000000,999999999]).map eI)]],[.p (iV v6.1)],.box (eCu v6.2),false),fix:=some (dL 22 eI ([1,2,3,4,8,7,(w64 (1+v4.1)),(w64 (1+v5.1)),1000000000,999999999]))}),hC 18 [.p (vRt v7.1),.p (.bool v7.2)]] (B6 (yja hv1) (yja hv2) (show([.d false [.sl none (eraL (([0,1,2,3,(-1),(-5),(w64 (v1.1-20)),(w64 (v2.1-1000)),1000000000,(-1000000000)]).map eI))]]:List Arg)=[.d false [.sl none (([0,1,2,3,(-1),(-5),(w64 (v1.1-20)),(w64 (v2.1-1000)),1000000000,(-1000000000)]).map eI)]] from(by simp only[yua (h:=eI) er_I])) (ypa hv3) (show(SV.d false (eraR [.sl (some 3) (([0,1,2,3,(-1),(-5),(w64 (v1.1-20)),(w64 (v2.1-1000)),1000000000,(-1000000000)]).map eI)]):SV)=.d false [.sl none (([0,1,2,3,(-1),(-5),(w64 (v1.1-20)),(w64 (v2.1-1000)),1000000000,(-1000000000)]).map eI)] from(congrArg (fun z=>SV.d false z) (ycp (yua er_I) rfl))) (yja hv4) (A5 (yja hv5) (show([.d false [.sl none (eraL (([1,2,3,4,8,7,(w64 (1+v4.1)),(w64 (1+v5.1)),1000000000,999999999]).map eI))]]:List Arg)=[.d false [.sl none (([1,2,3,4,8,7,(w64 (1+v4.1)),(w64 (1+v5.1)),1000000000,999999999]).map eI)]] from(by simp only[yua (h:=eI) er_I])) (ypa hv6) (show(SV.d false (eraR [.sl (some 3) (([1,2,3,4,8,7,(w64 (1+v4.1)),(w64 (1+v5.1)),1000000000,999999999]).map eI)]):SV)=.d false [.sl none (([1,2,3,4,8,7,(w64 (1+v4.1)),(w64 (1+v5.1)),1000000000,999999999]).map eI)] from(congrArg (fun z=>SV.d false z) (ycp (yua er_I) rfl))) (ykb hv7))) ?_
 refine yab (kG [bC 0 v6.2,bX 2 zR,bR 3 v7.1,pB 28 (!v7.2)] [] trivial ?_)
 refine kI h (fun hc2_7 h=>?_) (fun hc2_7 h=>?_)
 ·obtain⟨v9,hv9,h⟩:=bs h
  refine kG [bC 0 v6.2,bR 2 v9] [hC 0 [.p (vRt v9)]] (A1 (ydb hv9)) ?_
  refine yra (q_r ?_)
  obtain rfl:=oi h
  exact ebr [(.p (vRt v9),2)]
 refine yga (q_n (kG [bC 0 v6.2,bR 2 v7.1] [] trivial ?_))
 refine yra ?_
 obtain rfl:=oi h
 exact ebr [(.p (vRt v7.1),2)]
theorem yhe {a0:Cu}  {r:(Qr×Cu)} (h:yqc a0=some r):MeetsB Tryz.prog 140 (.box (eCu a0)) [] [.p (vRt r.1)] (.box (eCu r.2)):=by
 refine mob Tryz.func140 [bC 0 a0] ?_
 unfold yqc at h
 refine kG [bC 0 a0,bX 2 zR] [] trivial ?_
 obtain⟨v1,hv1,h⟩:=bs h
 refine kG [bC 0 v1.2,bX 2 zR,bR 3 v1.1] [hF 1 [.p (vRt v1.1)] (.box (eCu v1.2))] (A1 (ytx hv1)) ?_
 refine yab ?_
 obtain⟨v2,hv2,h⟩:=bs h
 refine kG [bC 0 v2.2,bX 2 zR,bR 3 v1.1,pI 7 v2.1] [hF 1 [.p (iV v2.1)] (.box (eCu v2.2))] (A1 (yja hv2)) ?_
 refine yfa (kG [bC 0 v2.2,bX 2 zR,bR 3 v1.1,pI 7 v2.1,pB 8 (v2.1==0)] [] trivial ?_)
 refine kI h (fun hc3_2 h=>?_) (fun hc3_2 h=>?_)
 ·obtain⟨v4,hv4,h⟩:=bs h
  refine yub (r_gq [bC 0 v4.2,bX 2 zR,bX 3 [rI v1.1.1,rI v4.1]] [(2,{lend:=some (some [.d false [.sl none (([0,(-1),1000000001]).map eI)]],[.p (iV v4.1)],.box (eCu v4.2),false),fix:=some (dL 11 eI ([0,(-1),1000000001]))})] (A3 (show([.d false [.sl none (eraL (([0,(-1),1000000001]).map eI))]]:List Arg)=[.d false [.sl none (([0,(-1),1000000001]).map eI)]] from(by simp only[yua (h:=eI) er_I])) (ypa hv4) (show(SV.d false (eraR [.sl (some 3) (([0,(-1),1000000001]).map eI)]):SV)=.d false [.sl none (([0,(-1),1000000001]).map eI)] from(congrArg (fun z=>SV.d false z) (ycp (yua er_I) rfl))))) ?_
  refine b_n (q_n (kG [bC 0 v4.2,bX 2 [rI v1.1.1,rI v4.1]] [] trivial ?_))
  refine yra ?_
  obtain rfl:=oi h
  exact ebr [(.p (.agg #[.int .i64 v1.1.1,.int .i64 v4.1]),2)]
 refine kG [bC 0 v2.2,bX 2 zR,bR 3 v1.1,pI 7 v2.1,pB 14 (v2.1==1)] [] trivial ?_
 refine kI h (fun hc3_4 h=>?_) (fun hc3_4 h=>?_)
 ·obtain⟨v6,hv6,h⟩:=bs h
  refine yub (r_gq [bC 0 v6.2,bX 2 zR,bX 3 [rI v6.1,rI v1.1.2]] [(2,{lend:=some (some [.d false [.sl none (([1000000001,(-1000000001),(-9223372036854775808)]).map eI)]],[.p (iV v6.1)],.box (eCu v6.2),false),fix:=some (dL 17 eI ([1000000001,(-1000000001),(-9223372036854775808)]))})] (A3 (show([.d false [.sl none (eraL (([1000000001,(-1000000001),(-9223372036854775808)]).map eI))]]:List Arg)=[.d false [.sl none (([1000000001,(-1000000001),(-9223372036854775808)]).map eI)]] from(by simp only[yua (h:=eI) er_I])) (ypa hv6) (show(SV.d false (eraR [.sl (some 3) (([1000000001,(-1000000001),(-9223372036854775808)]).map eI)]):SV)=.d false [.sl none (([1000000001,(-1000000001),(-9223372036854775808)]).map eI)] from(congrArg (fun z=>SV.d false z) (ycp (yua er_I) rfl))))) ?_
  refine b_n (q_n (kG [bC 0 v6.2,bX 2 [rI v6.1,rI v1.1.2]] [] trivial ?_))
  refine yra ?_
  obtain rfl:=oi h
  exact ebr [(.p (.agg #[.int .i64 v6.1,.int .i64 v1.1.2]),2)]
 refine kG [bC 0 v2.2,bX 2 zR,bR 3 v1.1,pB 20 (v2.1==2)] [] trivial ?_
 refine kI h (fun hc3_6 h=>?_) (fun hc3_6 h=>?_)
 ·obtain⟨v8,hv8,h⟩:=bs h
  obtain⟨v9,hv9,h⟩:=bs h
  refine yub (r_gq [bC 0 v9.2,bX 2 zR,bX 3 [rI v8.1,rI v9.1]] [(2,{lend:=some (some [.d false [.sl none (([2,0,(-4)]).map eI)]],[.p (iV v8.1)],.box (eCu v8.2),false),fix:=some (dL 23 eI ([2,0,(-4)]))}),(5,{lend:=some (some [.d false [.sl none (([2,4,6]).map eI)]],[.p (iV v9.1)],.box (eCu v9.2),false),fix:=some (dL 26 eI ([2,4,6]))})] (A6 (show([.d false [.sl none (eraL (([2,0,(-4)]).map eI))]]:List Arg)=[.d false [.sl none (([2,0,(-4)]).map eI)]] from(by simp only[yua (h:=eI) er_I])) (ypa hv8) (show(SV.d false (eraR [.sl (some 3) (([2,0,(-4)]).map eI)]):SV)=.d false [.sl none (([2,0,(-4)]).map eI)] from(congrArg (fun z=>SV.d false z) (ycp (yua er_I) rfl))) (show([.d false [.sl none (eraL (([2,4,6]).map eI))]]:List Arg)=[.d false [.sl none (([2,4,6]).map eI)]] from(by simp only[yua (h:=eI) er_I])) (ypa hv9) (show(SV.d false (eraR [.sl (some 3) (([2,4,6]).map eI)]):SV)=.d false [.sl none (([2,4,6]).map eI)] from(congrArg (fun z=>SV.d false z) (ycp (yua er_I) rfl))))) ?_
  refine b_n (q_n (kG [bC 0 v9.2,bX 2 [rI v8.1,rI v9.1]] [] trivial ?_))
  refine yra ?_
  obtain rfl:=oi h
  exact ebr [(.p (.agg #[.int .i64 v8.1,.int .i64 v9.1]),2)]
 refine yga (b_n (q_n (kG [bC 0 v2.2,bR 2 v1.1] [] trivial ?_)))
 refine yra ?_
 obtain rfl:=oi h
 exact ebr [(.p (vRt v1.1),2)]
theorem ykl {a0:Cu}  {r:((List Qp)×Cu)} (h:yje a0=some r):MeetsB Tryz.prog 71 (.box (eCu a0)) [] [.ov false (oP 96 r.1)] (.box (eCu r.2)):=by
 refine mob Tryz.func71 [bC 0 a0] ?_
 unfold yje at h
 refine kG [bC 0 a0] [] trivial ?_
 obtain⟨v1,hv1,h⟩:=bs h
 refine kG [bC 0 v1.2,vP 3 96 v1.1] [hF 1 [.ov false (oP 96 v1.1)] (.box (eCu v1.2))] (A1 (yaz hv1)) ?_
 obtain⟨v2,hv2,h⟩:=bs h
 obtain⟨v3,hv3,h⟩:=bs h
 refine kG [bC 0 v2.2,vP 3 96 v1.1,(4,.addr 3 [(0,0),((Int.toNat v2.1),0)])] [hN 3 v1.1,hF 4 [.p (iV v2.1)] (.box (eCu v2.2)),hR 5 (ePt v3)] (A4 (lnP v1.1) (yja hv2) (yba hv3).1 (yca ePt (yba hv3).2)) ?_
 refine yib (J:=fun (x:((List Int)×Int×Int×(List Qp)))=>[bC 0 (x.1,x.2.1,x.2.2.1),vP 3 96 x.2.2.2]) (K:=fun x=>yxb x=some r) (fun x4 h=>?_) ?_
 ·unfold yxb at h
  refine kG [bC 0 (x4.1,x4.2.1,x4.2.2.1),vP 2 96 x4.2.2.2] [] trivial ?_
  refine yra ?_
  obtain rfl:=oi h
  exact ebr [(.ov false (oP 96 x4.2.2.2),2)]
 obtain⟨v5,hv5,h⟩:=bs h
 refine kG [bC 0 v5.2,vP 3 96 v1.1,(4,.addr 3 [(0,0),((Int.toNat v2.1),0)]),pI 16 v5.1] [hF 1 [.p (iV v5.1)] (.box (eCu v5.2))] (A1 (yja hv5)) ?_
 refine yfa (kG [bC 0 v5.2,vP 3 96 v1.1,(4,.addr 3 [(0,0),((Int.toNat v2.1),0)]),pI 16 v5.1,pB 17 (v5.1==0)] [] trivial ?_)
 refine kI h (fun hc3_5 h=>?_) (fun hc3_5 h=>?_)
 ·obtain⟨v7,hv7,h⟩:=bs h
  refine yub (r_gq [bC 0 v7.2,vP 3 96 (v1.1.set (Int.toNat v2.1) (v7.1,v3.2))] [hF 2 [.p (vRt v7.1)] (.box (eCu v7.2)),(5,{row:=some (ePt v3),fix:=some (vP 3 96 (v1.1.set (Int.toNat v2.1) (v7.1,v3.2)))})] (A3 (yhe hv7) (gW 96 ePt hv3) (show(SV.ov false [.sl (some 96) (setL (v1.1.map ePt) [((Int.toNat v2.1),0)] (eRt v7.1))]:SV)=.ov false (oP 96 (v1.1.set (Int.toNat v2.1) (v7.1,v3.2))) from(congrArg (fun z=>SV.ov false [.sl (some 96) z]) (set1 (f:=ePt) (y:=(v7.1,v3.2)) (yba hv3).2 rfl))))) ?_
  refine b_n (q_n ?_)
  exact jx (v7.2.1,v7.2.2.1,v7.2.2.2,(v1.1.set (Int.toNat v2.1) (v7.1,v3.2))) h
 refine kG [bC 0 v5.2,vP 3 96 v1.1,(4,.addr 3 [(0,0),((Int.toNat v2.1),0)]),pI 16 v5.1,pB 24 (v5.1==1)] [] trivial ?_
 refine kI h (fun hc3_7 h=>?_) (fun hc3_7 h=>?_)
 ·obtain⟨v9,hv9,h⟩:=bs h
  refine yub (r_gq [bC 0 v9.2,vP 3 96 (v1.1.set (Int.toNat v2.1) (v3.1,v9.1))] [hF 2 [.p (vRt v9.1)] (.box (eCu v9.2)),(5,{row:=some (eRt v3.2),fix:=some (vP 3 96 (v1.1.set (Int.toNat v2.1) (v3.1,v9.1)))})] (A3 (yhe hv9) (show getRow [(oP 96 v1.1)] [(0,0),((Int.toNat v2.1),2)]=some (eRt v3.2) from((gr0 rfl).trans (gre (yca ePt (yba hv3).2)))) (show(SV.ov false [.sl (some 96) (setL (v1.1.map ePt) [((Int.toNat v2.1),2)] (eRt v9.1))]:SV)=.ov false (oP 96 (v1.1.set (Int.toNat v2.1) (v3.1,v9.1))) from(congrArg (fun z=>SV.ov false [.sl (some 96) z]) (set1 (f:=ePt) (y:=(v3.1,v9.1)) (yba hv3).2 rfl))))) ?_
  refine b_n (q_n ?_)
  exact jx (v9.2.1,v9.2.2.1,v9.2.2.2,(v1.1.set (Int.toNat v2.1) (v3.1,v9.1))) h
 refine kG [bC 0 v5.2,vP 3 96 v1.1,(4,.addr 3 [(0,0),((Int.toNat v2.1),0)]),pI 16 v5.1,pB 31 (v5.1==2)] [] trivial ?_
 refine kI h (fun hc3_9 h=>?_) (fun hc3_9 h=>?_)
 ·obtain⟨v11,hv11,h⟩:=bs h
  obtain⟨v12,hv12,h⟩:=bs h
  refine yub (r_gq [bC 0 v11.2,vP 3 96 (v1.1.set (Int.toNat v2.1) (v3.1,v12.1))] [hF 2 [.p (iV v11.1)] (.box (eCu v11.2)),hC 3 [.p (vRt v12.1),.p (.bool v12.2)],(9,{row:=some (eRt v3.2),fix:=some (vP 3 96 (v1.1.set (Int.toNat v2.1) (v3.1,v12.1)))})] (A4 (yja hv11) (ykb hv12) (show getRow [(oP 96 v1.1)] [(0,0),((Int.toNat v2.1),2)]=some (eRt v3.2) from((gr0 rfl).trans (gre (yca ePt (yba hv3).2)))) (show(SV.ov false [.sl (some 96) (setL (v1.1.map ePt) [((Int.toNat v2.1),2)] (eRt v12.1))]:SV)=.ov false (oP 96 (v1.1.set (Int.toNat v2.1) (v3.1,v12.1))) from(congrArg (fun z=>SV.ov false [.sl (some 96) z]) (set1 (f:=ePt) (y:=(v3.1,v12.1)) (yba hv3).2 rfl))))) ?_
  refine b_n (q_n ?_)
  exact jx (v11.2.1,v11.2.2.1,v11.2.2.2,(v1.1.set (Int.toNat v2.1) (v3.1,v12.1))) h
 refine kG [bC 0 v5.2,vP 3 96 v1.1,pI 16 v5.1,pB 42 (v5.1==3)] [] trivial ?_
 refine kI h (fun hc3_12 h=>?_) (fun hc3_12 h=>?_)
 ·obtain⟨u14,hu14,h⟩:=bs h
  refine yub (r_gq [bC 0 v5.2,vL 3 96 ePt (v1.1.take (Int.toNat (w64 ((v1.1.length:Int)-1))))] [hN 2 v1.1,(4,{fix:=some (vL 48 96 ePt (v1.1.take (Int.toNat (w64 ((v1.1.length:Int)-1)))))})] (A4 (lnP v1.1) (yla hu14).1 (show(w64 ((v1.1.length:Int)-1))<=(List.length (v1.1.map ePt):Int) from(by have hg:=(yla hu14).2;simpa using hg)) (show(SV.ov false [.sl (some 96) ((v1.1.map ePt).take (Int.toNat (w64 ((v1.1.length:Int)-1))))]:SV)=.ov false [.sl (some 96) ((v1.1.take (Int.toNat (w64 ((v1.1.length:Int)-1)))).map ePt)] from(congrArg (fun z=>SV.ov false [.sl (some 96) z]) (List.map_take ..).symm)))) ?_
  refine b_n (q_n ?_)
  exact jx (v5.2.1,v5.2.2.1,v5.2.2.2,(v1.1.take (Int.toNat (w64 ((v1.1.length:Int)-1))))) h
 refine kG [bC 0 v5.2,vP 3 96 v1.1,pB 49 (v5.1==4)] [] trivial ?_
 refine kI h (fun hc3_14 h=>?_) (fun hc3_14 h=>?_)
 ·refine kG [bC 0 v5.2,vN 3 96] [] trivial ?_
  refine yfa ?_
  obtain⟨y17,hl_x16,hk_x16⟩:=bs h
  clear h
  refine yfc (J:=fun (x:(List Qp))=>[bC 0 v5.2,vP 3 96 x]) hl_x16 wkk (fun x16 o_x16 h hy_x16=>?_)
  unfold ycm at h
  refine yab (kG [bC 0 v5.2,vP 3 96 x16,pB 53 (decide ((x16.length:Int)<13))] [hN 1 x16] (A1 (lnP x16)) ?_)
  refine kI h (fun hc6_17 h=>?_) (fun hc6_17 h=>?_)
  ·refine yga (q_n (yfa ?_))
   obtain⟨v19,hv19,h⟩:=bs h
   refine kG [bC 0 v5.2,vP 3 96 x16,bR 5 v19.1] [hN 1 x16,hC 2 [.p (vRt v19.1),.p (.bool v19.2)]] (A2 (lnP x16) (ykb hv19)) ?_
   obtain⟨v20,hv20,h⟩:=bs h
   obtain⟨u21,hu21,h⟩:=bs h
   refine yub (r_dq yda 5 [] [bC 0 v5.2,vP 3 96 (x16++[(v19.1,v20)])] [hC 2 [.p (vRt v20)],(5,{fix:=some (vP 65 96 (x16++[(v19.1,v20)]))})] (A4 (ydb hv20) (lG' ePt hu21) (show ∀ row∈((([(v19.1,v20)]).map ePt):List (List C)),row.length=4 from(ycc fun _=>rfl)) (aP' 96 ePt x16 ([(v19.1,v20)])))) ?_
   refine b_n ?_
   exact lqn (x16++[(v19.1,v20)]) h
  refine ywb (q_x (lq_x (b_x (b_n ?_))))
  have hyy:=hy_x16 _ (oi h).symm
  subst hyy
  have h:=hk_x16
  refine q_n ?_
  exact jx (v5.2.1,v5.2.2.1,v5.2.2.2,x16) h
 refine yga (b_n (q_n ?_))
 exact jx (v5.2.1,v5.2.2.1,v5.2.2.2,v1.1) h
theorem ylu {a0:Cu}  {r:(Qr×Cu)} (h:yyg a0=some r):MeetsB Tryz.prog 188 (.box (eCu a0)) [] [.p (vRt r.1)] (.box (eCu r.2)):=by
 refine mob Tryz.func188 [bC 0 a0] ?_
 unfold yyg at h
 refine kG [bC 0 a0,bX 2 zR] [] trivial ?_
 obtain⟨v1,hv1,h⟩:=bs h
 obtain⟨v2,hv2,h⟩:=bs h
 refine kG [bC 0 v2.2,bX 2 zR,pI 3 v2.1] [hF 2 [.p (iV v1.1)] (.box (eCu v1.2)),(5,{lend:=some (some [.d false [.sl none (([1,2,3,4,5,7,8,12,16,(w64 (1+v1.1))]).map eI)]],[.p (iV v2.1)],.box (eCu v2.2),false),fix:=some (dL 10 eI ([1,2,3,4,5,7,8,12,16,(w64 (1+v1.1))]))})] (A4 (yja hv1) (show([.d false [.sl none (eraL (([1,2,3,4,5,7,8,12,16,(w64 (1+v1.1))]).map eI))]]:List Arg)=[.d false [.sl none (([1,2,3,4,5,7,8,12,16,(w64 (1+v1.1))]).map eI)]] from(by simp only[yua (h:=eI) er_I])) (ypa hv2) (show(SV.d false (eraR [.sl (some 3) (([1,2,3,4,5,7,8,12,16,(w64 (1+v1.1))]).map eI)]):SV)=.d false [.sl none (([1,2,3,4,5,7,8,12,16,(w64 (1+v1.1))]).map eI)] from(congrArg (fun z=>SV.d false z) (ycp (yua er_I) rfl)))) ?_
 obtain⟨v3,hv3,h⟩:=bs h
 obtain⟨v4,hv4,h⟩:=bs h
 refine kG [bC 0 v3.2,bX 2 zR,bR 4 v4.1] [hF 3 [.p (iV v3.1)] (.box (eCu v3.2)),hC 5 [.p (vRt v4.1),.p (.bool v4.2)]] (A2 (yja hv3) (ykb hv4)) ?_
 refine kG [bC 0 v3.2,bR 2 v4.1] [] trivial ?_
 refine yra ?_
 obtain rfl:=oi h
 exact ebr [(.p (vRt v4.1),2)]
theorem ygo {a0:Cu} {a1:(List Qp)}  {r:(Qr×Cu)} (h:yqh a0 a1=some r):MeetsB Tryz.prog 141 (.box (eCu a0)) [.d false (sP a1)] [.p (vRt r.1)] (.box (eCu r.2)):=by
 refine mob Tryz.func141 [bC 0 a0,dP 1 a1] ?_
 unfold yqh at h
 refine kG [bC 0 a0,dP 1 a1,bX 4 zR] [] trivial ?_
 refine yab ?_
 obtain⟨v1,hv1,h⟩:=bs h
 refine kG [bC 0 v1.2,dP 1 a1,bX 4 zR,pI 6 v1.1] [hF 1 [.p (iV v1.1)] (.box (eCu v1.2))] (A1 (yja hv1)) ?_
 refine yfa (yib (J:=fun (x:Bool)=>[bC 0 v1.2,dP 1 a1,bX 4 zR,pI 6 v1.1,pB 7 x]) (K:=fun x=>yif a1 v1 x=some r) (fun x2 h=>?_) ?_)
 ·unfold yif at h
  refine kI h (fun hc3_2 h=>?_) (fun hc3_2 h=>?_)
  ·refine kG [bC 0 v1.2,dP 1 a1,bX 4 zR,pB 12 (decide ((a1.length:Int)>0))] [hN 1 a1] (A1 (lnP a1)) ?_
   refine kI h (fun hc3_3 h=>?_) (fun hc3_3 h=>?_)
   ·obtain⟨v5,hv5,h⟩:=bs h
    obtain⟨v6,hv6,h⟩:=bs h
    refine kG [bC 0 v5.2,bR 4 v6.1] [hN 3 a1,hF 4 [.p (iV v5.1)] (.box (eCu v5.2)),hR 5 (ePt v6)] (A4 (lnP a1) (yja hv5) (yba hv6).1 (yca ePt (yba hv6).2)) ?_
    refine yra (b_r (q_r ?_))
    obtain rfl:=oi h
    exact ebr [(.p (vRt v6.1),4)]
   refine yga (b_n (q_n ?_))
   obtain⟨v7,hv7,h⟩:=bs h
   refine kG [bC 0 v7.2,bR 4 v7.1] [hF 1 [.p (vRt v7.1)] (.box (eCu v7.2))] (A1 (yhe hv7)) ?_
   refine yra ?_
   obtain rfl:=oi h
   exact ebr [(.p (vRt v7.1),4)]
  refine kG [bC 0 v1.2,dP 1 a1,bX 4 zR,pI 6 v1.1,pB 21 (v1.1==2)] [] trivial ?_
  refine kI h (fun hc3_7 h=>?_) (fun hc3_7 h=>?_)
  ·refine kG [bC 0 v1.2,dP 1 a1,bX 4 zR,pB 25 (decide ((a1.length:Int)>0))] [hN 1 a1] (A1 (lnP a1)) ?_
   refine kI h (fun hc3_8 h=>?_) (fun hc3_8 h=>?_)
   ·obtain⟨v10,hv10,h⟩:=bs h
    obtain⟨v11,hv11,h⟩:=bs h
    refine kG [bC 0 v10.2,bR 4 v11.2] [hN 3 a1,hF 4 [.p (iV v10.1)] (.box (eCu v10.2)),hR 5 (ePt v11)] (A4 (lnP a1) (yja hv10) (yba hv11).1 (yca ePt (yba hv11).2)) ?_
    refine yra (b_r (q_r ?_))
    obtain rfl:=oi h
    exact ebr [(.p (vRt v11.2),4)]
   refine yga (b_n (q_n ?_))
   obtain⟨v12,hv12,h⟩:=bs h
   refine kG [bC 0 v12.2,bR 4 v12.1] [hF 1 [.p (vRt v12.1)] (.box (eCu v12.2))] (A1 (yhe hv12)) ?_
   refine yra ?_
   obtain rfl:=oi h
   exact ebr [(.p (vRt v12.1),4)]
  refine yib (J:=fun (x:Bool)=>[bC 0 v1.2,bX 4 zR,pI 6 v1.1,pB 34 x]) (K:=fun x=>ysd v1 x=some r) (fun x13 h=>?_) ?_
  ·unfold ysd at h
   refine kI h (fun hc3_13 h=>?_) (fun hc3_13 h=>?_)
   ·obtain⟨v15,hv15,h⟩:=bs h
    obtain⟨v16,hv16,h⟩:=bs h
    refine kG [bC 0 v16.2,bR 4 v16.1] [(3,{lend:=some (some [.d false [.sl none (([2,3,4,5,7,12]).map eI)]],[.p (iV v15.1)],.box (eCu v15.2),false),fix:=some (dL 40 eI ([2,3,4,5,7,12]))}),hF 4 [.p (vRt v16.1)] (.box (eCu v16.2))] (A4 (show([.d false [.sl none (eraL (([2,3,4,5,7,12]).map eI))]]:List Arg)=[.d false [.sl none (([2,3,4,5,7,12]).map eI)]] from(by simp only[yua (h:=eI) er_I])) (ypa hv15) (show(SV.d false (eraR [.sl (some 3) (([2,3,4,5,7,12]).map eI)]):SV)=.d false [.sl none (([2,3,4,5,7,12]).map eI)] from(congrArg (fun z=>SV.d false z) (ycp (yua er_I) rfl))) (yud hv16)) ?_
    refine yra (b_r (q_r ?_))
    obtain rfl:=oi h
    exact ebr [(.p (vRt v16.1),4)]
   refine kG [bC 0 v1.2,bX 4 zR,pB 43 (v1.1==6)] [] trivial ?_
   refine kI h (fun hc3_16 h=>?_) (fun hc3_16 h=>?_)
   ·obtain⟨v18,hv18,h⟩:=bs h
    refine kG [bC 0 v18.2,bR 4 v18.1] [hF 1 [.p (vRt v18.1)] (.box (eCu v18.2))] (A1 (ylu hv18)) ?_
    refine yra (b_r (q_r ?_))
    obtain rfl:=oi h
    exact ebr [(.p (vRt v18.1),4)]
   refine yga (b_n (q_n ?_))
   obtain⟨v19,hv19,h⟩:=bs h
   refine kG [bC 0 v19.2,bR 4 v19.1] [hF 1 [.p (vRt v19.1)] (.box (eCu v19.2))] (A1 (yhe hv19)) ?_
   refine yra ?_
   obtain rfl:=oi h
   exact ebr [(.p (vRt v19.1),4)]
  refine kG [bC 0 v1.2,bX 4 zR,pI 6 v1.1,pB 34 (v1.1==3)] [] trivial ?_
  refine kI h (fun hc4_19 h=>?_) (fun hc4_19 h=>?_)
  ·refine yga (q_n ?_)
   exact jx (v1.1==3) h
  refine kG [bC 0 v1.2,bX 4 zR,pI 6 v1.1,pB 34 (v1.1==4)] [] trivial ?_
  refine kI h (fun hc4_20 h=>?_) (fun hc4_20 h=>?_)
  ·refine yga (q_n ?_)
   exact jx (v1.1==4) h
  refine yub (r_gq [bC 0 v1.2,bX 4 zR,pI 6 v1.1,pB 34 (v1.1==5)] [] trivial) ?_
  refine q_n ?_
  exact jx (v1.1==5) h
 refine kG [bC 0 v1.2,dP 1 a1,bX 4 zR,pI 6 v1.1,pB 7 (v1.1==0)] [] trivial ?_
 refine kI h (fun hc4_21 h=>?_) (fun hc4_21 h=>?_)
 ·refine yga (q_n ?_)
  exact jx (v1.1==0) h
 refine yub (r_gq [bC 0 v1.2,dP 1 a1,bX 4 zR,pI 6 v1.1,pB 7 (v1.1==1)] [] trivial) ?_
 refine q_n ?_
 exact jx (v1.1==1) h
theorem ygc {a0:Qr}  {r:Bool} (h:ybf a0=some r):Meets Tryz.prog 97 [.v (vRt a0)] { vals:=[.p (.bool r)] }:=by
 refine mo Tryz.func97 [(0,.p (vRt a0))] ?_
 unfold ybf at h
 refine kG [bR 1 a0] [] trivial ?_
 obtain⟨v1,hv1,h⟩:=bs h
 obtain⟨w3,hw3,h⟩:=bs h
 refine yza (l1:=[pB 2 w3]) ?_ ?_
 ·clear h
  rcases ft v1 with ha0 | ha0
  ·obtain⟨v2,hv2,hw3⟩:=bs (yrh ha0 hw3)
   have hw3:=oi hw3
   subst hw3
   exact(r_gq [pB 2 v2] [hC 1 [.p (.bool v1)],(3,gT),(4,gT),(5,gT),(6,gT),(7,{g:=some true,call:=some (none,[.p (.bool v2)],true)}),(8,bT)] (B6 (yzr hv1) ha0 ha0 ha0 ha0 ha0 (A2 (yhh hv2) ha0)))
  replace hw3:=ysh ha0 hw3
  have hw3:=oi hw3
  subst hw3
  exact(r_gq [pB 2 false] [hC 1 [.p (.bool v1)],(3,gF),(4,gF),(5,gF),(6,gF),(7,gF),(8,bF)] (B6 (yzr hv1) ha0 ha0 ha0 ha0 ha0 (A1 ha0)))
 refine yra ?_
 obtain rfl:=oi h
 exact er [(.p (.bool w3),2)]
theorem yrs {a0:(List Qr)}  {r:(List Qp)} (h:yqj a0=some r):Meets Tryz.prog 129 [.d false [.sl none (a0.map eRt)]] { vals:=[.ov false (oP 40 r)] }:=by
 refine mo Tryz.func129 [dL 0 eRt a0] ?_
 unfold yqj at h
 refine kG [dL 0 eRt a0] [] trivial ?_
 refine kG [dL 0 eRt a0,vN 3 40] [] trivial ?_
 refine yib (J:=fun (x:(List Qp))=>[vP 3 40 x]) (K:=fun x=>yko x=some r) (fun x1 h=>?_) ?_
 ·unfold yko at h
  refine kG [vP 2 40 x1] [] trivial ?_
  refine yra ?_
  obtain rfl:=oi h
  exact er [(.ov false (oP 40 x1),2)]
 refine kG [dL 0 eRt a0,vN 3 40,pI 4 1] [] trivial ?_
 refine yfa ?_
 obtain⟨y3,hl_x2,hk_x2⟩:=bs h
 clear h
 refine yfc (J:=fun (x:((List Qp)×Int))=>[dL 0 eRt a0,vP 3 40 x.1,pI 4 x.2]) hl_x2 wkk (fun x2 o_x2 h hy_x2=>?_)
 unfold yjf at h
 refine yab (kG [dL 0 eRt a0,vP 3 40 x2.1,pI 4 x2.2,pB 8 (decide (x2.2<(a0.length:Int)))] [hN 2 a0] (A1 (lF eRt a0)) ?_)
 refine kI h (fun hc5_3 h=>?_) (fun hc5_3 h=>?_)
 ·refine yga (q_n (yab (yfa ?_)))
  obtain⟨v5,hv5,h⟩:=bs h
  obtain⟨v6,hv6,h⟩:=bs h
  obtain⟨u7,hu7,h⟩:=bs h
  refine yub (r_dq yda 12 [] [dL 0 eRt a0,vP 3 40 (x2.1++[(v5,v6)]),pI 4 x2.2] [hR 4 (eRt v5),hR 8 (eRt v6),(12,{fix:=some (vP 23 40 (x2.1++[(v5,v6)]))})] (B6 (yba hv5).1 (yca eRt (yba hv5).2) (yba hv6).1 (yca eRt (yba hv6).2) (lG' ePt hu7) (show ∀ row∈((([(v5,v6)]).map ePt):List (List C)),row.length=4 from(ycc fun _=>rfl)) (A1 (aP' 40 ePt x2.1 ([(v5,v6)]))))) ?_
  refine b_n (q_n (yub (r_gq [dL 0 eRt a0,vP 3 40 (x2.1++[(v5,v6)]),pI 4 (w64 (x2.2+1))] [] trivial) ?_))
  exact lqn ((x2.1++[(v5,v6)]),(w64 (x2.2+1))) h
 refine ywb (q_x (lq_x (b_x ?_)))
 have hyy:=hy_x2 _ (oi h).symm
 subst hyy
 have h:=hk_x2
 refine q_n ?_
 exact jx x2.1 h
theorem yoc1 {a0:Qr} {a1:Qr}  {r:Qr} (h:yhu a0 a1=some r):Meets Tryz.prog 142 [.v (vRt a0),.v (vRt a1)] { vals:=[.p (vRt r)] }:=by
 refine mo Tryz.func142 [(0,.p (vRt a0)),(1,.p (vRt a1))] ?_
 unfold yhu at h
 refine kG [bR 2 a0,bR 3 a1,bX 4 zR] [] trivial ?_
 refine yab ?_
 obtain⟨v1,hv1,h⟩:=bs h
 refine kG [bR 2 a0,bR 3 a1,bX 4 zR,pB 8 (decide (v1<0))] [hC 2 [.p (iV v1)]] (A1 (yta hv1)) ?_
 refine kI h (fun hc2_1 h=>?_) (fun hc2_1 h=>?_)
 ·refine kG [bR 4 a0] [] trivial ?_
  refine yra (q_r ?_)
  obtain rfl:=oi h
  exact er [(.p (vRt a0),4)]
 refine yga (q_n (kG [bR 4 a1] [] trivial ?_))
 refine yra ?_
 obtain rfl:=oi h
 exact er [(.p (vRt a1),4)]
theorem yux {a0:Qr} {a1:Qr}  {r:Qr} (h:ypo a0 a1=some r):Meets Tryz.prog 143 [.v (vRt a0),.v (vRt a1)] { vals:=[.p (vRt r)] }:=by
 refine mo Tryz.func143 [(0,.p (vRt a0)),(1,.p (vRt a1))] ?_
 unfold ypo at h
 refine kG [bR 2 a0,bR 3 a1,bX 4 zR] [] trivial ?_
 refine yab ?_
 obtain⟨v1,hv1,h⟩:=bs h
 refine kG [bR 2 a0,bR 3 a1,bX 4 zR,pB 8 (decide (v1<0))] [hC 2 [.p (iV v1)]] (A1 (yta hv1)) ?_
 refine kI h (fun hc2_1 h=>?_) (fun hc2_1 h=>?_)
 ·refine kG [bR 4 a1] [] trivial ?_
  refine yra (q_r ?_)
  obtain rfl:=oi h
  exact er [(.p (vRt a1),4)]
 refine yga (q_n (kG [bR 4 a0] [] trivial ?_))
 refine yra ?_
 obtain rfl:=oi h
 exact er [(.p (vRt a0),4)]
theorem yih {a0:Cu} {a1:(List Qp)}  {r:(Qp×Cu)} (h:yjc a0 a1=some r):MeetsB Tryz.prog 72 (.box (eCu a0)) [.d false (sP a1)] [.p (vPt r.1)] (.box (eCu r.2)):=by
 refine mob Tryz.func72 [bC 0 a0,dP 1 a1] ?_
 unfold yjc at h
 refine kG [bC 0 a0,dP 1 a1,bX 4 zQ] [] trivial ?_
 obtain⟨v1,hv1,h⟩:=bs h
 obtain⟨v2,hv2,h⟩:=bs h
 refine kG [bC 0 v2.2,bX 4 zQ,bR 5 v1.1,bR 6 v2.1] [hF 2 [.p (vRt v1.1)] (.box (eCu v1.2)),hF 5 [.p (vRt v2.1)] (.box (eCu v2.2))] (A2 (ygo hv1) (ygo hv2)) ?_
 refine yab ?_
 obtain⟨v3,hv3,h⟩:=bs h
 obtain⟨w6,hw6,h⟩:=bs h
 refine yza (l1:=[bC 0 (w6.1,w6.2.1,w6.2.2.1),bX 4 zQ,bR 5 v1.1,bR 6 v2.1,pB 23 w6.2.2.2]) ?_ ?_
 ·clear h
  rcases ft v3 with ha0 | ha0
  ·obtain⟨v4,hv4,hw6⟩:=bs (yrh ha0 hw6)
   rcases ft v4 with ha1 | ha1
   ·obtain⟨v5,hv5,hw6⟩:=bs (yrh ha1 hw6)
    have hw6:=oi hw6
    subst hw6
    exact(r_gq [bC 0 v5.2,bX 4 zQ,bR 5 v1.1,bR 6 v2.1,pB 23 (!v5.1)] [hC 1 [.p (.bool v3)],(3,gT),(4,{g:=some true,call:=some (none,[.p (.bool v4)],true)}),(5,bT),(7,gT),(8,{g:=some true,lend:=some (none,[.p (.bool v5.1)],.box (eCu v5.2),false)}),(9,gT),(10,bT)] (B6 (ygc hv3) ha0 ha0 (ygc hv4) ha0 ha1 (A4 ha1 (yeb hv5) ha1 ha1)))
   replace hw6:=ysh ha1 hw6
   have hw6:=oi hw6
   subst hw6
   exact(r_gq [bC 0 v2.2,bX 4 zQ,bR 5 v1.1,bR 6 v2.1,pB 23 false] [hC 1 [.p (.bool v3)],(3,gT),(4,{g:=some true,call:=some (none,[.p (.bool v4)],true)}),(5,bT),(7,gF),(8,gF),(9,gF),(10,bF)] (B6 (ygc hv3) ha0 ha0 (ygc hv4) ha0 ha1 (A3 ha1 ha1 ha1)))
  replace hw6:=ysh ha0 hw6
  have hw6:=oi hw6
  subst hw6
  exact(r_gq [bC 0 v2.2,bX 4 zQ,bR 5 v1.1,bR 6 v2.1,pB 23 false] [hC 1 [.p (.bool v3)],(3,gF),(4,gF),(5,bF),(7,gF),(8,gF),(9,gF),(10,bF)] (B6 (ygc hv3) ha0 ha0 ha0 fF fF (A2 fF fF)))
 refine kI h (fun hc2_6 h=>?_) (fun hc2_6 h=>?_)
 ·refine yab ?_
  obtain⟨v8,hv8,h⟩:=bs h
  refine kG [bC 0 (w6.1,w6.2.1,w6.2.2.1),bX 4 zQ,bR 5 v1.1,bR 6 v2.1,pB 27 (v8==0)] [hC 2 [.p (iV v8)]] (A1 (yta hv8)) ?_
  refine kI h (fun hc3_8 h=>?_) (fun hc3_8 h=>?_)
  ·obtain⟨v10,hv10,h⟩:=bs h
   obtain⟨v11,hv11,h⟩:=bs h
   refine kG [bC 0 (w6.1,w6.2.1,w6.2.2.1),bX 4 [rI v10.1,rI v10.2,rI v11.1,rI v11.2]] [hC 0 [.p (vRt v10)],hC 1 [.p (vRt v11)]] (A2 (ydb hv10) (ydb hv11)) ?_
   refine yra (q_r (q_r ?_))
   obtain rfl:=oi h
   exact ebr [(.p (.agg #[.int .i64 v10.1,.int .i64 v10.2,.int .i64 v11.1,.int .i64 v11.2]),4)]
  refine yga (q_n ?_)
  obtain⟨v12,hv12,h⟩:=bs h
  obtain⟨v13,hv13,h⟩:=bs h
  refine yza (r_dq yda 5 [] [bC 0 (w6.1,w6.2.1,w6.2.2.1),bX 4 [rI v12.1,rI v12.2,rI v13.1,rI v13.2]] [hC 2 [.p (vRt v12)],hC 5 [.p (vRt v13)]] (A2 (yoc1 hv12) (yux hv13))) ?_
  refine yra (q_r ?_)
  obtain rfl:=oi h
  exact ebr [(.p (.agg #[.int .i64 v12.1,.int .i64 v12.2,.int .i64 v13.1,.int .i64 v13.2]),4)]
 refine yga (q_n (kG [bC 0 (w6.1,w6.2.1,w6.2.2.1),bX 4 [rI v1.1.1,rI v1.1.2,rI v2.1.1,rI v2.1.2]] [] trivial ?_))
 refine yra ?_
 obtain rfl:=oi h
 exact ebr [(.p (.agg #[.int .i64 v1.1.1,.int .i64 v1.1.2,.int .i64 v2.1.1,.int .i64 v2.1.2]),4)]
theorem yts {a0:Cu} {a1:(List Qp)}  {r:((List Qp)×Cu)} (h:yme a0 a1=some r):MeetsB Tryz.prog 128 (.box (eCu a0)) [.d false (sP a1)] [.ov false (oP 40 r.1)] (.box (eCu r.2)):=by
 refine mob Tryz.func128 [bC 0 a0,dP 1 a1] ?_
 unfold yme at h
 refine kG [bC 0 a0,dP 1 a1] [] trivial ?_
 refine kG [bC 0 a0,dP 1 a1,vN 5 38] [] trivial ?_
 obtain⟨v1,hv1,h⟩:=bs h
 refine kG [bC 0 v1.2,dP 1 a1,vN 5 38,pI 6 v1.1] [(2,{lend:=some (some [.d false [.sl none (([2,3,3,4,5]).map eI)]],[.p (iV v1.1)],.box (eCu v1.2),false),fix:=some (dL 11 eI ([2,3,3,4,5]))})] (A3 (show([.d false [.sl none (eraL (([2,3,3,4,5]).map eI))]]:List Arg)=[.d false [.sl none (([2,3,3,4,5]).map eI)]] from(by simp only[yua (h:=eI) er_I])) (ypa hv1) (show(SV.d false (eraR [.sl (some 3) (([2,3,3,4,5]).map eI)]):SV)=.d false [.sl none (([2,3,3,4,5]).map eI)] from(congrArg (fun z=>SV.d false z) (ycp (yua er_I) rfl)))) ?_
 refine yib (J:=fun (x:((List Int)×Int×Int×Int))=>[bC 0 (x.1,x.2.1,x.2.2.1),dP 1 a1,vN 5 38,pI 6 x.2.2.2]) (K:=fun x=>ync a1 x=some r) (fun x2 h=>?_) ?_
 ·unfold ync at h
  refine yib (J:=fun (x:((List Int)×Int×Int×(List Qr)))=>[bC 0 (x.1,x.2.1,x.2.2.1),dP 1 a1,vL 5 38 eRt x.2.2.2]) (K:=fun x=>yre a1 x=some r) (fun x3 h=>?_) ?_
  ·unfold yre at h
   obtain⟨v4,hv4,h⟩:=bs h
   refine kG [bC 0 (x3.1,x3.2.1,x3.2.2.1),dP 1 a1,vP 9 40 v4] [(1,(cS [.d false [.sl none (x3.2.2.2.map eRt)]] [.ov false (oP 40 v4)]))] (A3 (show([.d false [.sl none (eraL (x3.2.2.2.map eRt))]]:List Arg)=[.d false [.sl none (x3.2.2.2.map eRt)]] from(by simp only[yua (h:=eRt) (yku er_I er_I)])) (yrs hv4) (show List.all [.ov false (oP 40 v4)] simpleR=true from(sa_o (wnR1 (yge (wn_P (wn_P wn_I wn_I) (wn_P wn_I wn_I))) rfl) rfl))) ?_
   refine yab ?_
   obtain⟨v5,hv5,h⟩:=bs h
   refine kG [bC 0 v5.2,dP 1 a1,vP 9 40 v4,pI 39 v5.1] [hF 1 [.p (iV v5.1)] (.box (eCu v5.2))] (A1 (yja hv5)) ?_
   refine yfa (kG [bC 0 v5.2,dP 1 a1,vP 9 40 v4,pI 39 v5.1,pB 40 (v5.1==0)] [] trivial ?_)
   refine kI h (fun hc3_5 h=>?_) (fun hc3_5 h=>?_)
   ·obtain⟨v7,hv7,h⟩:=bs h
    obtain⟨u8,hu8,h⟩:=bs h
    refine yub (r_gq [bC 0 v7.2,vP 9 40 (v4++[v7.1])] [hF 3 [.p (vPt v7.1)] (.box (eCu v7.2)),(5,{fix:=some (vP 47 40 (v4++[v7.1]))})] (A4 (yih hv7) (lG' ePt hu8) (show ∀ row∈((([v7.1]).map ePt):List (List C)),row.length=4 from(ycc fun _=>rfl)) (aP' 40 ePt v4 ([v7.1])))) ?_
    refine b_n (q_n (kG [bC 0 v7.2,vP 4 40 (v4++[v7.1])] [] trivial ?_))
    refine yra ?_
    obtain rfl:=oi h
    exact ebr [(.ov false (oP 40 (v4++[v7.1])),4)]
   refine kG [bC 0 v5.2,vP 9 40 v4,pB 48 (v5.1==1)] [] trivial ?_
   refine kI h (fun hc3_8 h=>?_) (fun hc3_8 h=>?_)
   ·refine kG [bC 0 v5.2,vN 4 40] [] trivial ?_
    refine yra (b_r (q_r ?_))
    obtain rfl:=oi h
    exact ebr [(.ov false (oN 40),4)]
   refine yga (b_n (q_n (kG [bC 0 v5.2,vP 4 40 v4] [] trivial ?_)))
   refine yra ?_
   obtain rfl:=oi h
   exact ebr [(.ov false (oP 40 v4),4)]
  refine kG [bC 0 (x2.1,x2.2.1,x2.2.2.1),dP 1 a1,vN 5 38,pI 6 x2.2.2.2,pI 7 0] [] trivial ?_
  refine yfa ?_
  obtain⟨y11,hl_x10,hk_x10⟩:=bs h
  clear h
  refine yfc (J:=fun (x:((List Int)×Int×Int×(List Qr)×Int))=>[bC 0 (x.1,x.2.1,x.2.2.1),dP 1 a1,vL 5 38 eRt x.2.2.2.1,pI 6 x2.2.2.2,pI 7 x.2.2.2.2]) hl_x10 wkk (fun x10 o_x10 h hy_x10=>?_)
  unfold yhi at h
  refine yab (yza (l1:=[bC 0 (x10.1,x10.2.1,x10.2.2.1),dP 1 a1,vL 5 38 eRt x10.2.2.2.1,pI 6 x2.2.2.2,pI 7 x10.2.2.2.2,pB 25 ((decide ((x10.2.2.2.1.length:Int)<x2.2.2.2))&&(decide (x10.2.2.2.2<60)))]) ?_ ?_)
  ·rcases ft (decide ((x10.2.2.2.1.length:Int)<x2.2.2.2)) with ha0 | ha0
   ·exact RegOk.of_eq (r_gq [bC 0 (x10.1,x10.2.1,x10.2.2.1),dP 1 a1,vL 5 38 eRt x10.2.2.2.1,pI 6 x2.2.2.2,pI 7 x10.2.2.2.2,pB 25 (decide (x10.2.2.2.2<60))] [hN 1 x10.2.2.2.1,(5,gT),(6,gT),(7,bT)] (A4 (lF eRt x10.2.2.2.1) ha0 ha0 ha0)) (by simp[ha0])
   exact RegOk.of_eq (r_gq [bC 0 (x10.1,x10.2.1,x10.2.2.1),dP 1 a1,vL 5 38 eRt x10.2.2.2.1,pI 6 x2.2.2.2,pI 7 x10.2.2.2.2,pB 25 false] [hN 1 x10.2.2.2.1,(5,gF),(6,gF),(7,bF)] (A4 (lF eRt x10.2.2.2.1) ha0 ha0 ha0)) (by simp[ha0])
  refine kI h (fun hc5_11 h=>?_) (fun hc5_11 h=>?_)
  ·refine yga (q_n (yab (yfa ?_)))
   obtain⟨v13,hv13,h⟩:=bs h
   refine kG [bC 0 v13.2,dP 1 a1,vL 5 38 eRt x10.2.2.2.1,pI 6 x2.2.2.2,pI 7 x10.2.2.2.2,bR 8 v13.1] [hF 2 [.p (vRt v13.1)] (.box (eCu v13.2))] (A1 (ygo hv13)) ?_
   obtain⟨v14,hv14,h⟩:=bs h
   refine kG [bC 0 v13.2,dP 1 a1,vL 5 38 eRt x10.2.2.2.1,pI 6 x2.2.2.2,pI 7 x10.2.2.2.2,bR 8 v13.1,pB 32 v14] [hC 1 [.p (.bool v14)]] (A1 (ygc hv14)) ?_
   refine kI h (fun hc6_14 h=>?_) (fun hc6_14 h=>?_)
   ·obtain⟨v16,hv16,h⟩:=bs h
    refine yub (r_gq [bC 0 v13.2,dP 1 a1,vL 5 38 eRt v16,pI 6 x2.2.2.2,pI 7 x10.2.2.2.2] [(2,{lend:=some (none,[rO 38 eRt v16],.u,true)})] (A2 (yxd hv16) (sR' 38 v16))) ?_
    refine b_n (q_n (yub (r_gq [bC 0 v13.2,dP 1 a1,vL 5 38 eRt v16,pI 6 x2.2.2.2,pI 7 (w64 (x10.2.2.2.2+1))] [] trivial) ?_))
    exact lqn (v13.2.1,v13.2.2.1,v13.2.2.2,v16,(w64 (x10.2.2.2.2+1))) h
   refine yga (b_n (q_n (yub (r_gq [bC 0 v13.2,dP 1 a1,vL 5 38 eRt x10.2.2.2.1,pI 6 x2.2.2.2,pI 7 (w64 (x10.2.2.2.2+1))] [] trivial) ?_)))
   exact lqn (v13.2.1,v13.2.2.1,v13.2.2.2,x10.2.2.2.1,(w64 (x10.2.2.2.2+1))) h
  refine ywb (q_x (lq_x (b_x ?_)))
  have hyy:=hy_x10 _ (oi h).symm
  subst hyy
  have h:=hk_x10
  refine q_n ?_
  exact jx (x10.1,x10.2.1,x10.2.2.1,x10.2.2.2.1) h
 obtain⟨v17,hv17,h⟩:=bs h
 refine kG [bC 0 v17.2,dP 1 a1,vN 5 38,pI 6 v1.1,pB 14 v17.1] [hF 1 [.p (.bool v17.1)] (.box (eCu v17.2))] (A1 (yeb hv17)) ?_
 refine kI h (fun hc2_17 h=>?_) (fun hc2_17 h=>?_)
 ·obtain⟨v19,hv19,h⟩:=bs h
  refine yub (r_gq [bC 0 v19.2,dP 1 a1,vN 5 38,pI 6 (w64 (9+v19.1))] [hF 1 [.p (iV v19.1)] (.box (eCu v19.2))] (A1 (yja hv19))) ?_
  refine q_n ?_
  exact jx (v19.2.1,v19.2.2.1,v19.2.2.2,(w64 (9+v19.1))) h
 refine yga (q_n ?_)
 exact jx (v17.2.1,v17.2.2.1,v17.2.2.2,v1.1) h
theorem yag {a0:Qr}  {r:Bool} (h:yin a0=some r):Meets Tryz.prog 144 [.v (vRt a0)] { vals:=[.p (.bool r)] }:=by
 refine mo Tryz.func144 [(0,.p (vRt a0))] ?_
 unfold yin at h
 refine kG [bR 1 a0] [] trivial ?_
 obtain⟨v1,hv1,h⟩:=bs h
 refine yza (l1:=[pB 2 (v1&&(decide (a0.2<=100)))]) ?_ ?_
 ·rcases ft v1 with ha0 | ha0
  ·exact RegOk.of_eq (r_gq [pB 2 (decide (a0.2<=100))] [hC 1 [.p (.bool v1)],(3,gT),(4,gT),(5,gT),(6,bT)] (A5 (ygc hv1) ha0 ha0 ha0 ha0)) (by simp[ha0])
  exact RegOk.of_eq (r_gq [pB 2 false] [hC 1 [.p (.bool v1)],(3,gF),(4,gF),(5,gF),(6,bF)] (A5 (ygc hv1) ha0 ha0 ha0 ha0)) (by simp[ha0])
 refine yra ?_
 obtain rfl:=oi h
 exact er [(.p (.bool (v1&&(decide (a0.2<=100)))),2)]
theorem ymf {a0:(List Qp)}  {r:Bool} (h:ycf a0=some r):Meets Tryz.prog 74 [.d false (sP a0)] { vals:=[.p (.bool r)] }:=by
 refine mo Tryz.func74 [dP 0 a0] ?_
 unfold ycf at h
 refine kG [dP 0 a0] [] trivial ?_
 refine yab ?_
 obtain⟨v1,hv1,h⟩:=bs h
 refine kG [dP 0 a0,pB 8 (!v1)] [hN 1 a0,hC 2 [.p (.bool v1)]] (A2 (lnP a0) (yhh hv1)) ?_
 refine kI h (fun hc2_1 h=>?_) (fun hc2_1 h=>?_)
 ·refine kG [pB 2 false] [] trivial ?_
  refine yra (q_r ?_)
  obtain rfl:=oi h
  exact er [(.p (.bool false),2)]
 refine yga (q_n (yib (J:=fun (x:Unit)=>[dP 0 a0]) (K:=fun x=>yqo a0 x=some r) (fun x3 h=>?_) ?_))
 ·unfold yqo at h
  obtain⟨v4,hv4,h⟩:=bs h
  obtain⟨v5,hv5,h⟩:=bs h
  obtain⟨v6,hv6,h⟩:=bs h
  obtain⟨w10,hw10,h⟩:=bs h
  refine yza (l1:=[pB 2 w10]) ?_ ?_
  ·clear h
   rcases ft (v6==0) with ha1 | ha1
   ·obtain⟨v7,hv7,hw10⟩:=bs (yrh ha1 hw10)
    obtain⟨v8,hv8,hw10⟩:=bs hw10
    obtain⟨v9,hv9,hw10⟩:=bs hw10
    have hw10:=oi hw10
    subst hw10
    exact(r_dq yda 16 [] [pB 2 (v9==0)] [hR 1 (ePt v4),hC 4 [.p (vRt v5)],hC 5 [.p (iV v6)],(8,gT),(9,gT),(10,{g:=some true,n:=some a0.length}),(11,gT),(12,{g:=some true,row:=some (ePt v7)}),(13,gT),(14,gT),(15,{g:=some true,call:=some (none,[.p (vRt v8)],true)}),(16,{g:=some true,call:=some (none,[.p (iV v9)],true)}),(17,gT),(18,bT)] (B6 (yba hv4).1 (yca ePt (yba hv4).2) (ydb hv5) (yta hv6) ha1 ha1 (B6 ha1 (lnP a0) ha1 ha1 (yba hv7).1 (yca ePt (yba hv7).2) (B6 ha1 ha1 ha1 (ydb hv8) ha1 (yta hv9) (A2 ha1 ha1)))))
   replace hw10:=ysh ha1 hw10
   have hw10:=oi hw10
   subst hw10
   exact(r_dq yda 16 [] [pB 2 false] [hR 1 (ePt v4),hC 4 [.p (vRt v5)],hC 5 [.p (iV v6)],(8,gF),(9,gF),(10,gF),(11,gF),(12,gF),(13,gF),(14,gF),(15,gF),(16,gF),(17,gF),(18,bF)] (B6 (yba hv4).1 (yca ePt (yba hv4).2) (ydb hv5) (yta hv6) ha1 ha1 (B6 ha1 ha1 ha1 ha1 ha1 ha1 (A3 ha1 ha1 ha1))))
  refine yra ?_
  obtain rfl:=oi h
  exact er [(.p (.bool w10),2)]
 refine kG [dP 0 a0,dP 9 a0,pL 10 a0,pI 11 0] [hN 1 a0] (A1 (lnP a0)) ?_
 refine yfa ?_
 obtain⟨y12,hl_x11,hk_x11⟩:=bs h
 clear h
 refine yfc (J:=fun (x:Int)=>[dP 0 a0,dP 9 a0,pL 10 a0,pI 11 x]) hl_x11 wkk (fun x11 o_x11 h hy_x11=>?_)
 unfold yyl at h
 refine kG [dP 0 a0,dP 9 a0,pL 10 a0,pI 11 x11,pB 12 (decide (x11<(a0.length:Int)))] [] trivial ?_
 refine yab (kI h (fun hc5_12 h=>?_) (fun hc5_12 h=>?_))
 ·refine yga (q_n (yab (yfa ?_)))
  obtain⟨v14,hv14,h⟩:=bs h
  refine kG [dP 0 a0,pI 3 x11,bP 4 v14,dP 9 a0,pL 10 a0,pI 11 x11] [hR 1 (ePt v14)] (A2 (yba hv14).1 (yca ePt (yba hv14).2)) ?_
  obtain⟨v15,hv15,h⟩:=bs h
  obtain⟨w19,hw19,h⟩:=bs h
  refine yza (l1:=[dP 0 a0,dP 9 a0,pL 10 a0,pI 11 x11,pB 41 w19]) ?_ ?_
  ·clear h
   rcases ft (!v15) with ha2 | ha2
   ·replace hw19:=yrh ha2 hw19
    have hw19:=oi hw19
    subst hw19
    exact(r_dq yda 22 [] [dP 0 a0,dP 9 a0,pL 10 a0,pI 11 x11,pB 41 true] [hC 2 [.p (.bool v15)],(5,gT),(6,gT),(7,gT),(8,gT),(9,bT),(11,gT),(12,gT),(13,gT),(24,gT),(25,bT)] (B6 (yag hv15) ha2 ha2 ha2 ha2 ha2 (A5 tT tT tT tT tT)))
   obtain⟨v16,hv16,hw19⟩:=bs (ysh ha2 hw19)
   rcases ft (!v16) with ha3 | ha3
   ·replace hw19:=yrh ha3 hw19
    have hw19:=oi hw19
    subst hw19
    exact(r_dq yda 22 [] [dP 0 a0,dP 9 a0,pL 10 a0,pI 11 x11,pB 41 true] [hC 2 [.p (.bool v15)],(5,gF),(6,gF),(7,(gN [.p (.bool v16)])),(8,gF),(9,bF),(11,gT),(12,gT),(13,gT),(24,gT),(25,bT)] (B6 (yag hv15) ha2 ha2 ha2 (yag hv16) ha2 (A6 ha2 ha3 ha3 ha3 ha3 ha3)))
   replace hw19:=ysh ha3 hw19
   rcases ft (decide (x11>0)) with ha4 | ha4
   ·obtain⟨v17,hv17,hw19⟩:=bs (yrh ha4 hw19)
    obtain⟨v18,hv18,hw19⟩:=bs hw19
    have hw19:=oi hw19
    subst hw19
    exact(r_dq yda 22 [] [dP 0 a0,dP 9 a0,pL 10 a0,pI 11 x11,pB 41 (decide (v18>=0))] [hC 2 [.p (.bool v15)],(5,gF),(6,gF),(7,(gN [.p (.bool v16)])),(8,gF),(9,bF),(11,gF),(12,gF),(13,gF),(14,gT),(15,gT),(16,gT),(17,{g:=some true,row:=some (ePt v17)}),(18,gT),(19,gT),(20,gT),(21,gT),(22,{g:=some true,call:=some (none,[.p (iV v18)],true)}),(23,gT),(24,gFbT),(25,bF)] (B6 (yag hv15) ha2 ha2 ha2 (yag hv16) ha2 (B6 ha2 ha3 ha3 ha3 ha4 ha4 (B6 ha4 ha4 (yba hv17).1 (yca ePt (yba hv17).2) ha4 ha4 (B6 ha4 ha4 ha4 (yta hv18) ha4 ha3 (A2 ha4 ha3))))))
   replace hw19:=ysh ha4 hw19
   have hw19:=oi hw19
   subst hw19
   exact(r_dq yda 22 [] [dP 0 a0,dP 9 a0,pL 10 a0,pI 11 x11,pB 41 false] [hC 2 [.p (.bool v15)],(5,gF),(6,gF),(7,(gN [.p (.bool v16)])),(8,gF),(9,bF),(11,gF),(12,gF),(13,gF),(14,gF),(15,gF),(16,gF),(17,gF),(18,gF),(19,gF),(20,gF),(21,gF),(22,gF),(23,gF),(24,gFbF),(25,bF)] (B6 (yag hv15) ha2 ha2 ha2 (yag hv16) ha2 (B6 ha2 ha3 ha3 ha3 ha4 ha4 (B6 ha4 ha4 ha4 ha4 ha4 ha4 (A5 ha4 ha4 ha3 ha4 ha3)))))
  refine kI h (fun hc6_19 h=>?_) (fun hc6_19 h=>?_)
  ·refine kG [pB 2 false] [] trivial ?_
   refine yra (b_r (q_r (lq_r ?_)))
   refine b_r (q_r ?_)
   have hyy:=hy_x11 _ (oi h).symm
   subst hyy
   have h:=hk_x11
   dsimp only[Sum.elim] at h
   obtain rfl:=oi h
   exact er [(.p (.bool false),2)]
  refine yga (b_n (q_n (yub (r_gq [dP 0 a0,dP 9 a0,pL 10 a0,pI 11 (w64 (x11+1))] [] trivial) ?_)))
  exact lqn (w64 (x11+1)) h
 refine ywb (q_x (lq_x (b_x ?_)))
 have hyy:=hy_x11 _ (oi h).symm
 subst hyy
 have h:=hk_x11
 dsimp only[Sum.elim] at h
 refine q_n ?_
 exact jx () h
theorem ymo {a0:Qp}  {r:Bool} (h:yog a0=some r):Meets Tryz.prog 75 [.v (vPt a0)] { vals:=[.p (.bool r)] }:=by
 refine mo Tryz.func75 [(0,.p (vPt a0))] ?_
 unfold yog at h
 refine kG [bP 1 a0] [] trivial ?_
 obtain⟨v1,hv1,h⟩:=bs h
 obtain⟨w4,hw4,h⟩:=bs h
 refine yza (l1:=[pB 2 w4]) ?_ ?_
 ·clear h
  rcases ft v1 with ha0 | ha0
  ·obtain⟨v2,hv2,hw4⟩:=bs (yrh ha0 hw4)
   rcases ft v2 with ha1 | ha1
   ·obtain⟨v3,hv3,hw4⟩:=bs (yrh ha1 hw4)
    have hw4:=oi hw4
    subst hw4
    exact(r_gq [pB 2 (decide (v3<0))] [hC 2 [.p (.bool v1)],(4,gT),(5,gT),(6,{g:=some true,call:=some (none,[.p (.bool v2)],true)}),(7,bT),(9,gT),(10,gT),(11,gT),(12,gT),(13,{g:=some true,call:=some (none,[.p (iV v3)],true)}),(14,gT),(15,bT)] (B6 (ygc hv1) ha0 ha0 ha0 (ygc hv2) ha0 (B6 ha1 ha1 ha1 ha1 ha1 (yta hv3) (A2 ha1 ha1))))
   replace hw4:=ysh ha1 hw4
   have hw4:=oi hw4
   subst hw4
   exact(r_gq [pB 2 false] [hC 2 [.p (.bool v1)],(4,gT),(5,gT),(6,{g:=some true,call:=some (none,[.p (.bool v2)],true)}),(7,bT),(9,gF),(10,gF),(11,gF),(12,gF),(13,gF),(14,gF),(15,bF)] (B6 (ygc hv1) ha0 ha0 ha0 (ygc hv2) ha0 (B6 ha1 ha1 ha1 ha1 ha1 ha1 (A1 ha1))))
  replace hw4:=ysh ha0 hw4
  have hw4:=oi hw4
  subst hw4
  exact(r_gq [pB 2 false] [hC 2 [.p (.bool v1)],(4,gF),(5,gF),(6,gF),(7,bF),(9,gF),(10,gF),(11,gF),(12,gF),(13,gF),(14,gF),(15,bF)] (B6 (ygc hv1) ha0 ha0 ha0 ha0 fF (A6 fF fF fF fF fF fF)))
 refine yra ?_
 obtain rfl:=oi h
 exact er [(.p (.bool w4),2)]
theorem yqv {a0:(List Qp)}  {r:Bool} (h:ywo a0=some r):Meets Tryz.prog 117 [.d false (sP a0)] { vals:=[.p (.bool r)] }:=by
 refine mo Tryz.func117 [dP 0 a0] ?_
 unfold ywo at h
 refine kG [dP 0 a0] [] trivial ?_
 refine yib (J:=fun (x:Unit)=>[dP 0 a0]) (K:=fun x=>yso a0 x=some r) (fun x1 h=>?_) ?_
 ·unfold yso at h
  obtain⟨v2,hv2,h⟩:=bs h
  refine kG [pB 2 v2] [hN 1 a0,hC 2 [.p (.bool v2)]] (A2 (lnP a0) (yhh hv2)) ?_
  refine yra ?_
  obtain rfl:=oi h
  exact er [(.p (.bool v2),2)]
 refine kG [dP 0 a0,dP 5 a0,pL 6 a0,pI 7 0] [hN 1 a0] (A1 (lnP a0)) ?_
 refine yfa ?_
 obtain⟨y4,hl_x3,hk_x3⟩:=bs h
 clear h
 refine yfc (J:=fun (x:Int)=>[dP 0 a0,dP 5 a0,pL 6 a0,pI 7 x]) hl_x3 wkk (fun x3 o_x3 h hy_x3=>?_)
 unfold yem at h
 refine kG [dP 0 a0,dP 5 a0,pL 6 a0,pI 7 x3,pB 8 (decide (x3<(a0.length:Int)))] [] trivial ?_
 refine yab (kI h (fun hc5_4 h=>?_) (fun hc5_4 h=>?_))
 ·refine yga (q_n (yab (yfa ?_)))
  obtain⟨v6,hv6,h⟩:=bs h
  refine kG [dP 0 a0,bP 4 v6,dP 5 a0,pL 6 a0,pI 7 x3] [hR 0 (ePt v6)] (A2 (yba hv6).1 (yca ePt (yba hv6).2)) ?_
  obtain⟨v7,hv7,h⟩:=bs h
  refine kG [dP 0 a0,dP 5 a0,pL 6 a0,pI 7 x3,pB 13 (!v7)] [hC 1 [.p (.bool v7)]] (A1 (ymo hv7)) ?_
  refine kI h (fun hc6_7 h=>?_) (fun hc6_7 h=>?_)
  ·refine kG [pB 2 false] [] trivial ?_
   refine yra (b_r (q_r (lq_r ?_)))
   refine b_r (q_r ?_)
   have hyy:=hy_x3 _ (oi h).symm
   subst hyy
   have h:=hk_x3
   dsimp only[Sum.elim] at h
   obtain rfl:=oi h
   exact er [(.p (.bool false),2)]
  refine yga (b_n (q_n (yub (r_gq [dP 0 a0,dP 5 a0,pL 6 a0,pI 7 (w64 (x3+1))] [] trivial) ?_)))
  exact lqn (w64 (x3+1)) h
 refine ywb (q_x (lq_x (b_x ?_)))
 have hyy:=hy_x3 _ (oi h).symm
 subst hyy
 have h:=hk_x3
 dsimp only[Sum.elim] at h
 refine q_n ?_
 exact jx () h
theorem yyd {a0:(List Qp)} {a1:(List Qp)}  {r:Bool} (h:yhd a0 a1=some r):Meets Tryz.prog 51 [.d false (sP a0),.d false (sP a1)] { vals:=[.p (.bool r)] }:=by
 refine mo Tryz.func51 [dP 0 a0,dP 1 a1] ?_
 unfold yhd at h
 refine kG [dP 0 a0,dP 1 a1] [] trivial ?_
 obtain⟨v1,hv1,h⟩:=bs h
 obtain⟨w3,hw3,h⟩:=bs h
 refine yza (l1:=[pB 4 w3]) ?_ ?_
 ·clear h
  rcases ft v1 with ha0 | ha0
  ·obtain⟨v2,hv2,hw3⟩:=bs (yrh ha0 hw3)
   have hw3:=oi hw3
   subst hw3
   exact(r_gq [pB 4 v2] [hC 1 [.p (.bool v1)],(3,gT),(4,{g:=some true,call:=some (none,[.p (.bool v2)],true)}),(5,bT)] (A5 (ymf hv1) ha0 ha0 (yqv hv2) ha0))
  replace hw3:=ysh ha0 hw3
  have hw3:=oi hw3
  subst hw3
  exact(r_gq [pB 4 false] [hC 1 [.p (.bool v1)],(3,gF),(4,gF),(5,bF)] (A4 (ymf hv1) ha0 ha0 ha0))
 refine yra ?_
 obtain rfl:=oi h
 exact er [(.p (.bool w3),4)]
theorem ybz {a0:Qr}  {r:Qr} (h:ykq a0=some r):Meets Tryz.prog 147 [.v (vRt a0)] { vals:=[.p (vRt r)] }:=by
 refine mo Tryz.func147 [(0,.p (vRt a0))] ?_
 unfold ykq at h
 refine kG [bR 1 a0,bX 2 zR] [] trivial ?_
 refine kG [bX 2 [rI (w64 (a0.2-a0.1)),rI a0.2]] [] trivial ?_
 refine yra ?_
 obtain rfl:=oi h
 exact er [(.p (.agg #[.int .i64 (w64 (a0.2-a0.1)),.int .i64 a0.2]),2)]
theorem yus {a0:Cu}  {r:((List Qp)×Cu)} (h:yke a0=some r):MeetsB Tryz.prog 78 (.box (eCu a0)) [] [.ov false (oP 96 r.1)] (.box (eCu r.2)):=by
 refine mob Tryz.func78 [bC 0 a0] ?_
 unfold yke at h
 refine kG [bC 0 a0] [] trivial ?_
 refine yab ?_
 obtain⟨v1,hv1,h⟩:=bs h
 refine kG [bC 0 v1.2,pB 17 v1.1] [hF 1 [.p (.bool v1.1)] (.box (eCu v1.2))] (A1 (yeb hv1)) ?_
 refine kI h (fun hc2_1 h=>?_) (fun hc2_1 h=>?_)
 ·obtain⟨v3,hv3,h⟩:=bs h
  refine kG [bC 0 v3.2,vP 2 96 v3.1] [hF 1 [.ov false (oP 96 v3.1)] (.box (eCu v3.2))] (A1 (ykl hv3)) ?_
  refine yra (q_r ?_)
  obtain rfl:=oi h
  exact ebr [(.ov false (oP 96 v3.1),2)]
 refine yga (q_n ?_)
 obtain⟨v4,hv4,h⟩:=bs h
 refine kG [bC 0 v4.2,pI 3 v4.1] [(2,{lend:=some (some [.d false [.sl none (([2,3,4,4,6]).map eI)]],[.p (iV v4.1)],.box (eCu v4.2),false),fix:=some (dL 21 eI ([2,3,4,4,6]))})] (A3 (show([.d false [.sl none (eraL (([2,3,4,4,6]).map eI))]]:List Arg)=[.d false [.sl none (([2,3,4,4,6]).map eI)]] from(by simp only[yua (h:=eI) er_I])) (ypa hv4) (show(SV.d false (eraR [.sl (some 3) (([2,3,4,4,6]).map eI)]):SV)=.d false [.sl none (([2,3,4,4,6]).map eI)] from(congrArg (fun z=>SV.d false z) (ycp (yua er_I) rfl)))) ?_
 refine kG [bC 0 v4.2,pI 3 v4.1,vN 4 96] [] trivial ?_
 refine yib (J:=fun (x:((List Int)×Int×Int×(List Qp)))=>[bC 0 (x.1,x.2.1,x.2.2.1),vP 4 96 x.2.2.2]) (K:=fun x=>yqe x=some r) (fun x5 h=>?_) ?_
 ·unfold yqe at h
  refine yib (J:=fun (x:((List Int)×Int×Int×(List Qp)))=>[bC 0 (x.1,x.2.1,x.2.2.1),vP 4 96 x.2.2.2]) (K:=fun x=>ymc x=some r) (fun x6 h=>?_) ?_
  ·unfold ymc at h
   refine yab ?_
   obtain⟨v7,hv7,h⟩:=bs h
   refine kG [bC 0 v7.2,vP 4 96 x6.2.2.2,pB 96 v7.1] [hF 1 [.p (.bool v7.1)] (.box (eCu v7.2))] (A1 (yeb hv7)) ?_
   refine kI h (fun hc2_7 h=>?_) (fun hc2_7 h=>?_)
   ·obtain⟨v9,hv9,h⟩:=bs h
    obtain⟨v10,hv10,h⟩:=bs h
    refine kG [bC 0 v9.2,bR 12 v10.1] [hF 1 [.p (iV v9.1)] (.box (eCu v9.2)),hC 3 [.p (vRt v10.1),.p (.bool v10.2)]] (A2 (yja hv9) (ykb hv10)) ?_
    obtain⟨v11,hv11,h⟩:=bs h
    obtain⟨v12,hv12,h⟩:=bs h
    refine kG [bC 0 v11.2,bR 12 v10.1,bR 14 v12.1] [hF 1 [.p (iV v11.1)] (.box (eCu v11.2)),hC 3 [.p (vRt v12.1),.p (.bool v12.2)]] (A2 (yja hv11) (ykb hv12)) ?_
    obtain⟨v13,hv13,h⟩:=bs h
    obtain⟨v14,hv14,h⟩:=bs h
    obtain⟨v15,hv15,h⟩:=bs h
    obtain⟨v16,hv16,h⟩:=bs h
    refine yub (r_dq yda 9 [] [bC 0 v11.2,vP 4 96 ([(v13,v14),(v10.1,v12.1),(v15,v16)])] [hC 0 [.p (vRt v13)],hC 1 [.p (vRt v14)],hC 6 [.p (vRt v15)],hC 7 [.p (vRt v16)]] (A4 (ydb hv13) (ydb hv14) (ydb hv15) (ydb hv16))) ?_
    refine q_n (kG [bC 0 v11.2,vP 2 96 ([(v13,v14),(v10.1,v12.1),(v15,v16)])] [] trivial ?_)
    refine yra ?_
    obtain rfl:=oi h
    exact ebr [(.ov false (oP 96 ([(v13,v14),(v10.1,v12.1),(v15,v16)])),2)]
   refine yga (q_n (kG [bC 0 v7.2,vP 2 96 x6.2.2.2] [] trivial ?_))
   refine yra ?_
   obtain rfl:=oi h
   exact ebr [(.ov false (oP 96 x6.2.2.2),2)]
  obtain⟨v17,hv17,h⟩:=bs h
  refine kG [bC 0 v17.2,vP 4 96 x5.2.2.2,pB 77 v17.1] [hF 1 [.p (.bool v17.1)] (.box (eCu v17.2))] (A1 (yeb hv17)) ?_
  refine kI h (fun hc2_17 h=>?_) (fun hc2_17 h=>?_)
  ·refine kG [bC 0 v17.2,vN 4 96] [] trivial ?_
   refine kG [bC 0 v17.2,vN 4 96,pI 9 0] [] trivial ?_
   refine yfa ?_
   obtain⟨y20,hl_x19,hk_x19⟩:=bs h
   clear h
   refine yfc (J:=fun (x:((List Qp)×Int))=>[bC 0 v17.2,vP 4 96 x.1,pI 9 x.2]) hl_x19 wkk (fun x19 o_x19 h hy_x19=>?_)
   unfold yfi at h
   refine yab (kG [bC 0 v17.2,vP 4 96 x19.1,pI 9 x19.2,pB 79 (decide (x19.2<12))] [] trivial ?_)
   refine kI h (fun hc5_20 h=>?_) (fun hc5_20 h=>?_)
   ·refine yga (q_n (yab (yfa ?_)))
    obtain⟨v22,hv22,h⟩:=bs h
    refine kG [bC 0 v17.2,vP 4 96 x19.1,pI 9 x19.2,bR 10 v22.1] [hC 1 [.p (vRt v22.1),.p (.bool v22.2)]] (A1 (ykb hv22)) ?_
    obtain⟨v23,hv23,h⟩:=bs h
    obtain⟨u24,hu24,h⟩:=bs h
    refine yub (r_dq yda 7 [] [bC 0 v17.2,vP 4 96 (x19.1++[(v22.1,v23)]),pI 9 x19.2] [hC 4 [.p (vRt v23)],(7,{fix:=some (vP 94 96 (x19.1++[(v22.1,v23)]))})] (A5 (show 2≠(0:Int) from(by decide)) (ydb hv23) (lG' ePt hu24) (show ∀ row∈((([(v22.1,v23)]).map ePt):List (List C)),row.length=4 from(ycc fun _=>rfl)) (aP' 96 ePt x19.1 ([(v22.1,v23)])))) ?_
    refine b_n (q_n (yub (r_gq [bC 0 v17.2,vP 4 96 (x19.1++[(v22.1,v23)]),pI 9 (w64 (x19.2+1))] [] trivial) ?_))
    exact lqn ((x19.1++[(v22.1,v23)]),(w64 (x19.2+1))) h
   refine ywb (q_x (lq_x (b_x ?_)))
   have hyy:=hy_x19 _ (oi h).symm
   subst hyy
   have h:=hk_x19
   refine q_n ?_
   exact jx (v17.2.1,v17.2.2.1,v17.2.2.2,x19.1) h
  refine yga (q_n ?_)
  exact jx (v17.2.1,v17.2.2.1,v17.2.2.2,x5.2.2.2) h
 refine kG [bC 0 v4.2,pI 3 v4.1,vN 4 96,pI 5 0] [] trivial ?_
 refine yfa ?_
 obtain⟨y26,hl_x25,hk_x25⟩:=bs h
 clear h
 refine yfc (J:=fun (x:((List Int)×Int×Int×(List Qp)×Int))=>[bC 0 (x.1,x.2.1,x.2.2.1),pI 3 v4.1,vP 4 96 x.2.2.2.1,pI 5 x.2.2.2.2]) hl_x25 wkk (fun x25 o_x25 h hy_x25=>?_)
 unfold ygi at h
 refine yab (kG [bC 0 (x25.1,x25.2.1,x25.2.2.1),pI 3 v4.1,vP 4 96 x25.2.2.2.1,pI 5 x25.2.2.2.2,pB 25 (decide (x25.2.2.2.2<=v4.1))] [] trivial ?_)
 refine kI h (fun hc5_26 h=>?_) (fun hc5_26 h=>?_)
 ·refine yga (q_n (yab (yfa ?_)))
  obtain⟨v28,hv28,h⟩:=bs h
  refine kG [bC 0 (x25.1,x25.2.1,x25.2.2.1),pI 3 v4.1,vP 4 96 x25.2.2.2.1,pI 5 x25.2.2.2.2,bR 6 v28.1] [hC 2 [.p (vRt v28.1),.p (.bool v28.2)]] (A1 (ykb hv28)) ?_
  obtain⟨v29,hv29,h⟩:=bs h
  refine kG [bC 0 v29.2,pI 3 v4.1,vP 4 96 x25.2.2.2.1,pI 5 x25.2.2.2.2,bR 6 v28.1,bR 8 v29.1] [hF 2 [.p (vRt v29.1)] (.box (eCu v29.2))] (A1 (yud hv29)) ?_
  refine yib (J:=fun (x:((List Int)×Int×Int×Int×Int))=>[bC 0 (x.1,x.2.1,x.2.2.1),pI 3 v4.1,vP 4 96 x25.2.2.2.1,pI 5 x25.2.2.2.2,bR 6 v28.1,bR 8 x.2.2.2]) (K:=fun x=>yvb x25 v28 x=some o_x25) (fun x30 h=>?_) ?_
  ·unfold yvb at h
   obtain⟨u31,hu31,h⟩:=bs h
   refine yub (r_gq [bC 0 (x30.1,x30.2.1,x30.2.2.1),pI 3 v4.1,vP 4 96 (x25.2.2.2.1++[(v28.1,x30.2.2.2)]),pI 5 x25.2.2.2.2] [(5,{fix:=some (vP 75 96 (x25.2.2.2.1++[(v28.1,x30.2.2.2)]))})] (A3 (lG' ePt hu31) (show ∀ row∈((([(v28.1,x30.2.2.2)]).map ePt):List (List C)),row.length=4 from(ycc fun _=>rfl)) (aP' 96 ePt x25.2.2.2.1 ([(v28.1,x30.2.2.2)])))) ?_
   refine b_n (q_n (yub (r_gq [bC 0 (x30.1,x30.2.1,x30.2.2.1),pI 3 v4.1,vP 4 96 (x25.2.2.2.1++[(v28.1,x30.2.2.2)]),pI 5 (w64 (x25.2.2.2.2+1))] [] trivial) ?_))
   exact lqn (x30.1,x30.2.1,x30.2.2.1,(x25.2.2.2.1++[(v28.1,x30.2.2.2)]),(w64 (x25.2.2.2.2+1))) h
  obtain⟨w34,hw34,h⟩:=bs h
  refine yza (l1:=[bC 0 (w34.1,w34.2.1,w34.2.2.1),pI 3 v4.1,vP 4 96 x25.2.2.2.1,pI 5 x25.2.2.2.2,bR 6 v28.1,bR 8 v29.1,pB 55 w34.2.2.2]) ?_ ?_
  ·clear h
   rcases ft (decide ((x25.2.2.2.1.length:Int)>0)) with ha2 | ha2
   ·obtain⟨v32,hv32,hw34⟩:=bs (yrh ha2 hw34)
    rcases ft ((v29.1.1==v32.2.1)&&(v29.1.2==v32.2.2)) with ha3 | ha3
    ·obtain⟨v33,hv33,hw34⟩:=bs (yrh ha3 hw34)
     have hw34:=oi hw34
     subst hw34
     exact(r_dq yda 12 [] [bC 0 v33.2,pI 3 v4.1,vP 4 96 x25.2.2.2.1,pI 5 x25.2.2.2.2,bR 6 v28.1,bR 8 v29.1,pB 55 (!v33.1)] [hN 1 x25.2.2.2.1,(4,gT),(5,gT),(6,gT),(7,{g:=some true,n:=some x25.2.2.2.1.length}),(8,gT),(9,{g:=some true,row:=some (ePt v32)}),(10,gT),(11,{g:=some true,row:=some (eRt v32.2)}),(12,{g:=some true,pv:=some (.bool ((v29.1.1==v32.2.1)&&(v29.1.2==v32.2.2)))}),(13,bT),(15,gT),(16,{g:=some true,lend:=some (none,[.p (.bool v33.1)],.box (eCu v33.2),false)}),(17,gT),(18,bT)] (B6 (lnP x25.2.2.2.1) ha2 ha2 ha2 ha2 (lnP x25.2.2.2.1) (B6 ha2 ha2 (yba hv32).1 (yca ePt (yba hv32).2) ha2 ha2 (B6 (show getRow [(oP 96 x25.2.2.2.1)] [(0,0),((Int.toNat (w64 ((x25.2.2.2.1.length:Int)-1))),2)]=some (eRt v32.2) from((gr0 rfl).trans (gre (yca ePt (yba hv32).2)))) ha2 (show PureAt Tryz.prog (.binOp .eql 38 (.tmp 41) (.tmp 48) 38) [vRt v29.1,vRt v32.2] (.bool ((v29.1.1==v32.2.1)&&(v29.1.2==v32.2.2))) from(ylf (by kernel_rfl))) ha2 ha3 ha3 (A3 (yeb hv33) ha3 ha3)))))
    replace hw34:=ysh ha3 hw34
    have hw34:=oi hw34
    subst hw34
    exact(r_dq yda 12 [] [bC 0 v29.2,pI 3 v4.1,vP 4 96 x25.2.2.2.1,pI 5 x25.2.2.2.2,bR 6 v28.1,bR 8 v29.1,pB 55 false] [hN 1 x25.2.2.2.1,(4,gT),(5,gT),(6,gT),(7,{g:=some true,n:=some x25.2.2.2.1.length}),(8,gT),(9,{g:=some true,row:=some (ePt v32)}),(10,gT),(11,{g:=some true,row:=some (eRt v32.2)}),(12,{g:=some true,pv:=some (.bool ((v29.1.1==v32.2.1)&&(v29.1.2==v32.2.2)))}),(13,bT),(15,gF),(16,gF),(17,gF),(18,bF)] (B6 (lnP x25.2.2.2.1) ha2 ha2 ha2 ha2 (lnP x25.2.2.2.1) (B6 ha2 ha2 (yba hv32).1 (yca ePt (yba hv32).2) ha2 ha2 (B6 (show getRow [(oP 96 x25.2.2.2.1)] [(0,0),((Int.toNat (w64 ((x25.2.2.2.1.length:Int)-1))),2)]=some (eRt v32.2) from((gr0 rfl).trans (gre (yca ePt (yba hv32).2)))) ha2 (show PureAt Tryz.prog (.binOp .eql 38 (.tmp 41) (.tmp 48) 38) [vRt v29.1,vRt v32.2] (.bool ((v29.1.1==v32.2.1)&&(v29.1.2==v32.2.2))) from(ylf (by kernel_rfl))) ha2 ha3 ha3 (A2 ha3 ha3)))))
   replace hw34:=ysh ha2 hw34
   have hw34:=oi hw34
   subst hw34
   exact(r_dq yda 12 [] [bC 0 v29.2,pI 3 v4.1,vP 4 96 x25.2.2.2.1,pI 5 x25.2.2.2.2,bR 6 v28.1,bR 8 v29.1,pB 55 false] [hN 1 x25.2.2.2.1,(4,gF),(5,gF),(6,gF),(7,gF),(8,gF),(9,gF),(10,gF),(11,gF),(12,gF),(13,bF),(15,gF),(16,gF),(17,gF),(18,bF)] (B6 (lnP x25.2.2.2.1) ha2 ha2 ha2 ha2 ha2 (B6 ha2 ha2 ha2 ha2 ha2 fF (A3 fF fF fF))))
  refine kI h (fun hc7_34 h=>?_) (fun hc7_34 h=>?_)
  ·obtain⟨v36,hv36,h⟩:=bs h
   refine kG [bC 0 (w34.1,w34.2.1,w34.2.2.1),pI 3 v4.1,vP 4 96 x25.2.2.2.1,pI 5 x25.2.2.2.2,bR 6 v28.1,bR 8 v36] [hC 1 [.p (vRt v36)]] (A1 (ybz hv36)) ?_
   obtain⟨v37,hv37,h⟩:=bs h
   refine yza (r_dq yda 8 [] [bC 0 (w34.1,w34.2.1,w34.2.2.1),pI 3 v4.1,vP 4 96 x25.2.2.2.1,pI 5 x25.2.2.2.2,bR 6 v28.1,bR 8 v36,pB 66 ((v36.1==v37.2.1)&&(v36.2==v37.2.2))] [hN 3 x25.2.2.2.1,hR 5 (ePt v37),hR 7 (eRt v37.2),(8,{pv:=some (.bool ((v36.1==v37.2.1)&&(v36.2==v37.2.2)))})] (A5 (lnP x25.2.2.2.1) (yba hv37).1 (yca ePt (yba hv37).2) (show getRow [(oP 96 x25.2.2.2.1)] [(0,0),((Int.toNat (w64 ((x25.2.2.2.1.length:Int)-1))),2)]=some (eRt v37.2) from((gr0 rfl).trans (gre (yca ePt (yba hv37).2)))) (show PureAt Tryz.prog (.binOp .eql 38 (.tmp 58) (.tmp 65) 38) [vRt v36,vRt v37.2] (.bool ((v36.1==v37.2.1)&&(v36.2==v37.2.2))) from(ylf (by kernel_rfl))))) ?_
   refine kI h (fun hc7_37 h=>?_) (fun hc7_37 h=>?_)
   ·obtain⟨v39,hv39,h⟩:=bs h
    refine yub (r_gq [bC 0 (w34.1,w34.2.1,w34.2.2.1),pI 3 v4.1,vP 4 96 x25.2.2.2.1,pI 5 x25.2.2.2.2,bR 6 v28.1,bR 8 v39] [hC 2 [.p (vRt v39)]] (A2 (show 2≠(0:Int) from(by decide)) (ydb hv39))) ?_
    refine q_n ?_
    exact jx (w34.1,w34.2.1,w34.2.2.1,v39.1,v39.2) h
   refine yga (q_n ?_)
   exact jx (w34.1,w34.2.1,w34.2.2.1,v36.1,v36.2) h
  refine yga (q_n ?_)
  exact jx (w34.1,w34.2.1,w34.2.2.1,v29.1.1,v29.1.2) h
 refine ywb (q_x (lq_x (b_x ?_)))
 have hyy:=hy_x25 _ (oi h).symm
 subst hyy
 have h:=hk_x25
 refine q_n ?_
 exact jx (x25.1,x25.2.1,x25.2.2.1,x25.2.2.2.1) h
theorem yeq {a0:Qr} {a1:Qr}  {r:(Qr×Bool)} (h:yun a0 a1=some r):Meets Tryz.prog 198 [.v (vRt a0),.v (vRt a1)] { vals:=[.p (vRt r.1),.p (.bool r.2)] }:=by
 refine mo Tryz.func198 [(0,.p (vRt a0)),(1,.p (vRt a1))] ?_
 unfold yun at h
 refine kG [bR 2 a0,bR 3 a1,bX 4 zR] [] trivial ?_
 obtain⟨v1,hv1,h⟩:=bs h
 refine kG [bR 4 v1.1,pB 5 v1.2] [hC 16 [.p (vRt v1.1),.p (.bool v1.2)]] (A1 (ykb hv1)) ?_
 refine yra ?_
 obtain rfl:=oi h
 exact er [(.p (vRt v1.1),4),(.p (.bool v1.2),5)]
theorem ynx {a0:Qr} {a1:Qr}  {r:(Qr×Bool)} (h:ymr a0 a1=some r):Meets Tryz.prog 212 [.v (vRt a0),.v (vRt a1)] { vals:=[.p (vRt r.1),.p (.bool r.2)] }:=by
 refine mo Tryz.func212 [(0,.p (vRt a0)),(1,.p (vRt a1))] ?_
 unfold ymr at h
 refine kG [bR 2 a0,bR 3 a1,bX 4 zR] [] trivial ?_
 refine yab (kG [bR 2 a0,bR 3 a1,bX 4 zR,pB 8 (a1.1==0)] [] trivial ?_)
 refine kI h (fun hc2_0 h=>?_) (fun hc2_0 h=>?_)
 ·refine kG [bX 4 zR,pB 5 false] [] trivial ?_
  refine yra (q_r ?_)
  obtain rfl:=oi h
  exact er [(.p (.agg #[.int .i64 0,.int .i64 0]),4),(.p (.bool false),5)]
 refine yga (q_n ?_)
 obtain⟨v2,hv2,h⟩:=bs h
 refine kG [bR 4 v2.1,pB 5 v2.2] [hC 10 [.p (vRt v2.1),.p (.bool v2.2)]] (A1 (ykb hv2)) ?_
 refine yra ?_
 obtain rfl:=oi h
 exact er [(.p (vRt v2.1),4),(.p (.bool v2.2),5)]
theorem yzj {a0:Qp} {a1:Qp}  {r:Qr} (h:ynh a0 a1=some r):Meets Tryz.prog 200 [.v (vPt a0),.v (vPt a1)] { vals:=[.p (vRt r)] }:=by
 refine mo Tryz.func200 [(0,.p (vPt a0)),(1,.p (vPt a1))] ?_
 unfold ynh at h
 refine kG [bP 2 a0,bP 3 a1,bX 4 zR] [] trivial ?_
 obtain⟨v1,hv1,h⟩:=bs h
 refine kG [bP 2 a0,bP 3 a1,bX 4 zR,bR 5 v1.1] [hC 4 [.p (vRt v1.1),.p (.bool v1.2)]] (A1 (yeq hv1)) ?_
 obtain⟨v2,hv2,h⟩:=bs h
 refine kG [bX 4 zR,bR 5 v1.1,bR 7 v2.1] [hC 4 [.p (vRt v2.1),.p (.bool v2.2)]] (A1 (yeq hv2)) ?_
 obtain⟨v3,hv3,h⟩:=bs h
 refine kG [bX 4 zR,bR 9 v3.1] [hC 2 [.p (vRt v3.1),.p (.bool v3.2)]] (A1 (ynx hv3)) ?_
 refine kG [bR 4 v3.1] [] trivial ?_
 refine yra ?_
 obtain rfl:=oi h
 exact er [(.p (vRt v3.1),4)]
theorem ycz {a0:(List Qp)}  {r:(List Qp)} (h:yeo a0=some r):Meets Tryz.prog 193 [.d false (sP a0)] { vals:=[.ov false (oP 96 r)] }:=by
 refine mo Tryz.func193 [dP 0 a0] ?_
 unfold yeo at h
 refine kG [dP 0 a0] [] trivial ?_
 obtain⟨v1,hv1,h⟩:=bs h
 refine kG [dP 0 a0,vP 3 96 ([v1])] [hR 1 (ePt v1)] (A2 (yba hv1).1 (yca ePt (yba hv1).2)) ?_
 refine yib (J:=fun (x:(List Qp))=>[vP 3 96 x]) (K:=fun x=>yxp x=some r) (fun x2 h=>?_) ?_
 ·unfold yxp at h
  refine kG [vP 2 96 x2] [] trivial ?_
  refine yra ?_
  obtain rfl:=oi h
  exact er [(.ov false (oP 96 x2),2)]
 refine kG [dP 0 a0,vP 3 96 ([v1]),pI 4 1] [] trivial ?_
 refine yfa ?_
 obtain⟨y4,hl_x3,hk_x3⟩:=bs h
 clear h
 refine yfc (J:=fun (x:((List Qp)×Int))=>[dP 0 a0,vP 3 96 x.1,pI 4 x.2]) hl_x3 wkk (fun x3 o_x3 h hy_x3=>?_)
 unfold yyp at h
 refine yab (kG [dP 0 a0,vP 3 96 x3.1,pI 4 x3.2,pB 12 (decide (x3.2<(a0.length:Int)))] [hN 2 a0] (A1 (lnP a0)) ?_)
 refine kI h (fun hc5_4 h=>?_) (fun hc5_4 h=>?_)
 ·refine yga (q_n (yab (yfa ?_)))
  obtain⟨w11,hw11,h⟩:=bs h
  refine yza (l1:=[dP 0 a0,vP 3 96 x3.1,pI 4 x3.2,pB 42 w11]) ?_ ?_
  ·clear h
   rcases ft ((w64 (x3.2+1))==(a0.length:Int)) with ha1 | ha1
   ·replace hw11:=yrh ha1 hw11
    have hw11:=oi hw11
    subst hw11
    exact(r_dq yda 25 [] [dP 0 a0,vP 3 96 x3.1,pI 4 x3.2,pB 42 true] [hN 3 a0,(6,gT),(7,gT),(8,gT),(9,gT),(10,gT),(11,gT),(12,gT),(13,gT),(14,gT),(15,gT),(16,gT),(17,gT),(18,gT),(19,gT),(20,gT),(21,gT),(22,gT),(23,gT),(24,gT),(25,gT),(26,gT),(27,bT)] (B6 (lnP a0) ha1 ha1 ha1 ha1 ha1 (B6 ha1 ha1 ha1 ha1 ha1 ha1 (B6 ha1 ha1 ha1 ha1 ha1 ha1 (A5 ha1 ha1 ha1 ha1 ha1)))))
   obtain⟨v6,hv6,hw11⟩:=bs (ysh ha1 hw11)
   obtain⟨v7,hv7,hw11⟩:=bs hw11
   obtain⟨v8,hv8,hw11⟩:=bs hw11
   obtain⟨v9,hv9,hw11⟩:=bs hw11
   obtain⟨v10,hv10,hw11⟩:=bs hw11
   have hw11:=oi hw11
   subst hw11
   exact(r_dq yda 25 [] [dP 0 a0,vP 3 96 x3.1,pI 4 x3.2,pB 42 (nR v8 v10)] [hN 3 a0,(6,gF),(7,gF),(8,gF),(9,{g:=some false,row:=some (ePt v6)}),(10,gF),(11,gF),(12,gF),(13,{g:=some false,row:=some (ePt v7)}),(14,gF),(15,(gN [.p (vRt v8)])),(16,gF),(17,gF),(18,{g:=some false,row:=some (ePt v7)}),(19,gF),(20,gF),(21,gF),(22,gF),(23,{g:=some false,row:=some (ePt v9)}),(24,gF),(25,(gN [.p (vRt v10)])),(26,(hB (nR v8 v10))),(27,bF)] (B6 (lnP a0) ha1 ha1 ha1 ha1 (yba hv6).1 (B6 (yca ePt (yba hv6).2) ha1 ha1 ha1 ha1 (yba hv7).1 (B6 (yca ePt (yba hv7).2) ha1 ha1 (yzj hv8) ha1 ha1 (B6 ha1 (yba hv7).1 (yca ePt (yba hv7).2) ha1 ha1 ha1 (B6 ha1 ha1 (yba hv9).1 (yca ePt (yba hv9).2) ha1 ha1 (A4 (yzj hv10) ha1 (show PureAt Tryz.prog (.binOp .neq 38 (.tmp 30) (.tmp 40) 38) [vRt v8,vRt v10] (.bool (nR v8 v10)) from(yic1 (by kernel_rfl))) ha1)))))))
  refine kI h (fun hc6_11 h=>?_) (fun hc6_11 h=>?_)
  ·obtain⟨v13,hv13,h⟩:=bs h
   obtain⟨u14,hu14,h⟩:=bs h
   refine yub (r_gq [dP 0 a0,vP 3 96 (x3.1++[v13]),pI 4 x3.2] [hR 3 (ePt v13),(6,{fix:=some (vP 49 96 (x3.1++[v13]))})] (A5 (yba hv13).1 (yca ePt (yba hv13).2) (lG' ePt hu14) (show ∀ row∈((([v13]).map ePt):List (List C)),row.length=4 from(ycc fun _=>rfl)) (aP' 96 ePt x3.1 ([v13])))) ?_
   refine b_n (q_n (yub (r_gq [dP 0 a0,vP 3 96 (x3.1++[v13]),pI 4 (w64 (x3.2+1))] [] trivial) ?_))
   exact lqn ((x3.1++[v13]),(w64 (x3.2+1))) h
  refine yga (b_n (q_n (yub (r_gq [dP 0 a0,vP 3 96 x3.1,pI 4 (w64 (x3.2+1))] [] trivial) ?_)))
  exact lqn (x3.1,(w64 (x3.2+1))) h
 refine ywb (q_x (lq_x (b_x ?_)))
 have hyy:=hy_x3 _ (oi h).symm
 subst hyy
 have h:=hk_x3
 refine q_n ?_
 exact jx x3.1 h
theorem ydg1 {a0:(List Qp)}  {r:(List Qr)} (h:ynw a0=some r):Meets Tryz.prog 192 [.d false (sP a0)] { vals:=[rO 38 eRt r] }:=by
 refine mo Tryz.func192 [dP 0 a0] ?_
 unfold ynw at h
 refine kG [dP 0 a0] [] trivial ?_
 refine kG [dP 0 a0,vN 3 38] [] trivial ?_
 refine yib (J:=fun (x:(List Qr))=>[vL 3 38 eRt x]) (K:=fun x=>ycv x=some r) (fun x1 h=>?_) ?_
 ·unfold ycv at h
  refine kG [vL 2 38 eRt x1] [] trivial ?_
  refine yra ?_
  obtain rfl:=oi h
  exact er [(.ov false [.sl (some 38) (x1.map eRt)],2)]
 refine kG [vN 3 38,dP 6 a0,pL 7 a0,pI 8 0] [hN 1 a0] (A1 (lnP a0)) ?_
 refine yfa ?_
 obtain⟨y3,hl_x2,hk_x2⟩:=bs h
 clear h
 refine yfc (J:=fun (x:((List Qr)×Int))=>[vL 3 38 eRt x.1,dP 6 a0,pL 7 a0,pI 8 x.2]) hl_x2 wkk (fun x2 o_x2 h hy_x2=>?_)
 unfold ynn at h
 refine kG [vL 3 38 eRt x2.1,dP 6 a0,pL 7 a0,pI 8 x2.2,pB 9 (decide (x2.2<(a0.length:Int)))] [] trivial ?_
 refine yab (kI h (fun hc5_3 h=>?_) (fun hc5_3 h=>?_))
 ·refine yga (q_n (yab (yfa ?_)))
  obtain⟨v5,hv5,h⟩:=bs h
  refine kG [vL 3 38 eRt x2.1,bP 5 v5,dP 6 a0,pL 7 a0,pI 8 x2.2] [hR 0 (ePt v5)] (A2 (yba hv5).1 (yca ePt (yba hv5).2)) ?_
  obtain⟨u6,hu6,h⟩:=bs h
  refine yub (r_gq [vL 3 38 eRt (x2.1++[v5.1]),dP 6 a0,pL 7 a0,pI 8 x2.2] [(4,{fix:=some (vL 16 38 eRt (x2.1++[v5.1]))})] (A3 (lG' eRt hu6) (show ∀ row∈((([v5.1]).map eRt):List (List C)),row.length=2 from(ycc fun _=>rfl)) (aP' 38 eRt x2.1 ([v5.1])))) ?_
  refine b_n (q_n (yub (r_gq [vL 3 38 eRt (x2.1++[v5.1]),dP 6 a0,pL 7 a0,pI 8 (w64 (x2.2+1))] [] trivial) ?_))
  exact lqn ((x2.1++[v5.1]),(w64 (x2.2+1))) h
 refine ywb (q_x (lq_x (b_x ?_)))
 have hyy:=hy_x2 _ (oi h).symm
 subst hyy
 have h:=hk_x2
 refine q_n ?_
 exact jx x2.1 h
theorem ydz {a0:(List Qp)}  {r:(List Qr)} (h:ywn a0=some r):Meets Tryz.prog 237 [.d false (sP a0)] { vals:=[rO 38 eRt r] }:=by
 refine mo Tryz.func237 [dP 0 a0] ?_
 unfold ywn at h
 refine kG [dP 0 a0] [] trivial ?_
 refine kG [dP 0 a0,vN 3 38] [] trivial ?_
 refine yib (J:=fun (x:(List Qr))=>[vL 3 38 eRt x]) (K:=fun x=>yop x=some r) (fun x1 h=>?_) ?_
 ·unfold yop at h
  refine kG [vL 2 38 eRt x1] [] trivial ?_
  refine yra ?_
  obtain rfl:=oi h
  exact er [(.ov false [.sl (some 38) (x1.map eRt)],2)]
 refine kG [dP 0 a0,vN 3 38,pI 4 1] [] trivial ?_
 refine yfa ?_
 obtain⟨y3,hl_x2,hk_x2⟩:=bs h
 clear h
 refine yfc (J:=fun (x:((List Qr)×Int))=>[dP 0 a0,vL 3 38 eRt x.1,pI 4 x.2]) hl_x2 wkk (fun x2 o_x2 h hy_x2=>?_)
 unfold yyi at h
 refine yab (kG [dP 0 a0,vL 3 38 eRt x2.1,pI 4 x2.2,pB 8 (decide (x2.2<(a0.length:Int)))] [hN 2 a0] (A1 (lnP a0)) ?_)
 refine kI h (fun hc5_3 h=>?_) (fun hc5_3 h=>?_)
 ·refine yga (q_n (yab (yfa ?_)))
  obtain⟨v5,hv5,h⟩:=bs h
  obtain⟨v6,hv6,h⟩:=bs h
  obtain⟨v7,hv7,h⟩:=bs h
  obtain⟨u8,hu8,h⟩:=bs h
  refine yub (r_dq yda 12 [] [dP 0 a0,vL 3 38 eRt (x2.1++[v7]),pI 4 x2.2] [hR 4 (ePt v5),hR 8 (ePt v6),hC 10 [.p (vRt v7)],(12,{fix:=some (vL 23 38 eRt (x2.1++[v7]))})] (B6 (yba hv5).1 (yca ePt (yba hv5).2) (yba hv6).1 (yca ePt (yba hv6).2) (yzj hv7) (lG' eRt hu8) (A2 (show ∀ row∈((([v7]).map eRt):List (List C)),row.length=2 from(ycc fun _=>rfl)) (aP' 38 eRt x2.1 ([v7]))))) ?_
  refine b_n (q_n (yub (r_gq [dP 0 a0,vL 3 38 eRt (x2.1++[v7]),pI 4 (w64 (x2.2+1))] [] trivial) ?_))
  exact lqn ((x2.1++[v7]),(w64 (x2.2+1))) h
 refine ywb (q_x (lq_x (b_x ?_)))
 have hyy:=hy_x2 _ (oi h).symm
 subst hyy
 have h:=hk_x2
 refine q_n ?_
 exact jx x2.1 h
theorem ypc1 {a0:(List Qp)}  {r:(List (List Int))} (h:ypr a0=some r):Meets Tryz.prog 224 [.d false (sP a0)] { vals:=[rO 32 (eO 3 eI) r] }:=by
 refine mo Tryz.func224 [dP 0 a0] ?_
 unfold ypr at h
 refine kG [dP 0 a0] [] trivial ?_
 refine kG [dP 0 a0,vN 3 32] [] trivial ?_
 refine yib (J:=fun (x:(List (List Int)))=>[vL 3 32 (eO 3 eI) x]) (K:=fun x=>yns x=some r) (fun x1 h=>?_) ?_
 ·unfold yns at h
  refine kG [vL 2 32 (eO 3 eI) x1] [] trivial ?_
  refine yra ?_
  obtain rfl:=oi h
  exact er [(.ov false [.sl (some 32) (x1.map (eO 3 eI))],2)]
 obtain⟨v2,hv2,h⟩:=bs h
 refine kG [vN 3 32,vL 9 38 eRt v2,pL 10 v2,pI 11 0] [hC 1 [rO 38 eRt v2],hN 2 v2] (A3 (ydz hv2) (sR' 38 v2) (lF eRt v2)) ?_
 refine yfa ?_
 obtain⟨y4,hl_x3,hk_x3⟩:=bs h
 clear h
 refine yfc (J:=fun (x:((List (List Int))×Int))=>[vL 3 32 (eO 3 eI) x.1,vL 9 38 eRt v2,pL 10 v2,pI 11 x.2]) hl_x3 wkk (fun x3 o_x3 h hy_x3=>?_)
 unfold ymj at h
 refine kG [vL 3 32 (eO 3 eI) x3.1,vL 9 38 eRt v2,pL 10 v2,pI 11 x3.2,pB 12 (decide (x3.2<(v2.length:Int)))] [] trivial ?_
 refine yab (kI h (fun hc5_4 h=>?_) (fun hc5_4 h=>?_))
 ·refine yga (q_n (yab (yfa ?_)))
  obtain⟨v6,hv6,h⟩:=bs h
  refine kG [vL 3 32 (eO 3 eI) x3.1,pI 4 x3.2,bR 5 v6,vL 9 38 eRt v2,pL 10 v2,pI 11 x3.2] [hR 1 (eRt v6),hR 2 (eRt v6)] (A3 (yba hv6).1 (yca eRt (yba hv6).2) (gW 38 eRt hv6)) ?_
  obtain⟨v7,hv7,h⟩:=bs h
  refine kG [vL 3 32 (eO 3 eI) x3.1,pI 4 x3.2,pI 6 v7,vL 9 38 eRt v2,pL 10 v2,pI 11 x3.2] [hC 2 [.p (iV v7)]] (A1 (ypv hv7)) ?_
  refine yab (kG [vL 3 32 (eO 3 eI) x3.1,pI 4 x3.2,pI 6 v7,pL 7 x3.1,vL 9 38 eRt v2,pL 10 v2,pI 11 x3.2] [hN 1 x3.1] (A1 (lF (eO 3 eI) x3.1)) ?_)
  obtain⟨w10,hw10,h⟩:=bs h
  refine yza (l1:=[vL 3 32 (eO 3 eI) x3.1,pI 4 x3.2,pI 6 v7,pL 7 x3.1,vL 9 38 eRt v2,pL 10 v2,pI 11 x3.2,pB 33 w10]) ?_ ?_
  ·clear h
   rcases ft (decide ((x3.1.length:Int)>0)) with ha1 | ha1
   ·obtain⟨v8,hv8,hw10⟩:=bs (yrh ha1 hw10)
    obtain⟨v9,hv9,hw10⟩:=bs hw10
    have hw10:=oi hw10
    subst hw10
    exact(r_gq [vL 3 32 (eO 3 eI) x3.1,pI 4 x3.2,pI 6 v7,pL 7 x3.1,vL 9 38 eRt v2,pL 10 v2,pI 11 x3.2,pB 33 (v9==v7)] [(3,gT),(4,gT),(5,gT),(6,{g:=some true,row:=some [.sl (some 3) (v8.map eI)]}),(7,{g:=some true,row:=some [.sl (some 3) (v8.map eI)]}),(8,{g:=some true,deep:=some [.sl (some 3) (v8.map eI)],row:=some (eI v9)}),(9,{g:=some true,row:=some (eI v9)}),(10,gT),(11,gT),(12,bT)] (B6 ha1 ha1 ha1 ha1 (yba hv8).1 (yca (eO 3 eI) (yba hv8).2) (B6 ha1 (show frR [.sl (some 3) (v8.map eI)]=false from rfl) (gW 32 (eO 3 eI) hv8) ha1 (yba hv9).1 (yca eI (yba hv9).2) (A6 (gW 32 (eO 3 eI) hv8) ha1 (show getRow [[.sl (some 32) (x3.1.map (eO 3 eI))]] [(0,0),((Int.toNat (w64 ((x3.1.length:Int)-1))),0),((Int.toNat 2),0)]=some (eI v9) from((gr0 rfl).trans ((grs (yca (eO 3 eI) (yba hv8).2) rfl).trans (gre (yca eI (yba hv9).2))))) ha1 ha1 ha1))))
   replace hw10:=ysh ha1 hw10
   have hw10:=oi hw10
   subst hw10
   exact(r_gq [vL 3 32 (eO 3 eI) x3.1,pI 4 x3.2,pI 6 v7,pL 7 x3.1,vL 9 38 eRt v2,pL 10 v2,pI 11 x3.2,pB 33 false] [(3,gF),(4,gF),(5,gF),(6,gF),(7,gF),(8,gF),(9,gF),(10,gF),(11,gF),(12,bF)] (B6 ha1 ha1 ha1 ha1 ha1 ha1 (A4 ha1 ha1 ha1 ha1)))
  refine kI h (fun hc7_10 h=>?_) (fun hc7_10 h=>?_)
  ·obtain⟨v12,hv12,h⟩:=bs h
   obtain⟨v13,hv13,h⟩:=bs h
   refine kG [vL 3 32 (eO 3 eI) (x3.1.set (Int.toNat (w64 ((x3.1.length:Int)-1))) (v12.set (Int.toNat 1) (w64 (x3.2+1)))),vL 9 38 eRt v2,pL 10 v2,pI 11 x3.2] [hR 3 [.sl (some 3) (v12.map eI)],hR 4 [.sl (some 3) (v12.map eI)],(7,{deep:=some [.sl (some 3) (v12.map eI)],row:=some (eI v13)}),(8,{row:=some (eI v13),fix:=some (vL 3 32 (eO 3 eI) (x3.1.set (Int.toNat (w64 ((x3.1.length:Int)-1))) (v12.set (Int.toNat 1) (w64 (x3.2+1)))))})] (B6 (yba hv12).1 (yca (eO 3 eI) (yba hv12).2) (show frR [.sl (some 3) (v12.map eI)]=false from rfl) (gW 32 (eO 3 eI) hv12) (yba hv13).1 (yca eI (yba hv13).2) (A3 (gW 32 (eO 3 eI) hv12) (show getRow [[.sl (some 32) (x3.1.map (eO 3 eI))]] [(0,0),((Int.toNat (w64 ((x3.1.length:Int)-1))),0),((Int.toNat 1),0)]=some (eI v13) from((gr0 rfl).trans ((grs (yca (eO 3 eI) (yba hv12).2) rfl).trans (gre (yca eI (yba hv13).2))))) (show(SV.ov false [.sl (some 32) (setL (x3.1.map (eO 3 eI)) [((Int.toNat (w64 ((x3.1.length:Int)-1))),0),((Int.toNat 1),0)] [rI (w64 (x3.2+1))])]:SV)=.ov false [.sl (some 32) ((x3.1.set (Int.toNat (w64 ((x3.1.length:Int)-1))) (v12.set (Int.toNat 1) (w64 (x3.2+1)))).map (eO 3 eI))] from(congrArg (fun z=>SV.ov false [.sl (some 32) z]) (set2 (f:=(eO 3 eI)) (y:=(v12.set (Int.toNat 1) (w64 (x3.2+1)))) (yba hv12).2 rfl (set1 (f:=eI) (y:=(w64 (x3.2+1))) (yba hv13).2 rfl) rfl))))) ?_
   refine ywb (q_x (b_x (q_n (yub (r_gq [vL 3 32 (eO 3 eI) (x3.1.set (Int.toNat (w64 ((x3.1.length:Int)-1))) (v12.set (Int.toNat 1) (w64 (x3.2+1)))),vL 9 38 eRt v2,pL 10 v2,pI 11 (w64 (x3.2+1))] [] trivial) ?_))))
   exact lqn ((x3.1.set (Int.toNat (w64 ((x3.1.length:Int)-1))) (v12.set (Int.toNat 1) (w64 (x3.2+1)))),(w64 (x3.2+1))) h
  refine yga (q_n ?_)
  obtain⟨u14,hu14,h⟩:=bs h
  refine yub (r_gq [vL 3 32 (eO 3 eI) (x3.1++[[x3.2,(w64 (x3.2+1)),v7]]),vL 9 38 eRt v2,pL 10 v2,pI 11 x3.2] [(7,{fix:=some (vL 49 32 (eO 3 eI) (x3.1++[[x3.2,(w64 (x3.2+1)),v7]]))})] (A3 (lG' (eO 3 eI) hu14) (show ∀ row∈((([[x3.2,(w64 (x3.2+1)),v7]]).map (eO 3 eI)):List (List C)),row.length=1 from(ycc fun _=>rfl)) (aP' 32 (eO 3 eI) x3.1 ([[x3.2,(w64 (x3.2+1)),v7]])))) ?_
  refine b_n (q_n (yub (r_gq [vL 3 32 (eO 3 eI) (x3.1++[[x3.2,(w64 (x3.2+1)),v7]]),vL 9 38 eRt v2,pL 10 v2,pI 11 (w64 (x3.2+1))] [] trivial) ?_))
  exact lqn ((x3.1++[[x3.2,(w64 (x3.2+1)),v7]]),(w64 (x3.2+1))) h
 refine ywb (q_x (lq_x (b_x ?_)))
 have hyy:=hy_x3 _ (oi h).symm
 subst hyy
 have h:=hk_x3
 refine q_n ?_
 exact jx x3.1 h
theorem yaa1 {a0:(List Qp)}  {r:(List Qr)} (h:ypp a0=some r):Meets Tryz.prog 194 [.d false (sP a0)] { vals:=[rO 38 eRt r] }:=by
 refine mo Tryz.func194 [dP 0 a0] ?_
 unfold ypp at h
 refine kG [dP 0 a0] [] trivial ?_
 refine kG [dP 0 a0,vN 3 38] [] trivial ?_
 refine yib (J:=fun (x:(List Qr))=>[vL 3 38 eRt x]) (K:=fun x=>yxq x=some r) (fun x1 h=>?_) ?_
 ·unfold yxq at h
  refine kG [vL 2 38 eRt x1] [] trivial ?_
  refine yra ?_
  obtain rfl:=oi h
  exact er [(.ov false [.sl (some 38) (x1.map eRt)],2)]
 obtain⟨v2,hv2,h⟩:=bs h
 obtain⟨u3,hu3,h⟩:=bs h
 refine kG [dP 0 a0,vN 3 38,dL 8 (eF eI) (v2.drop (Int.toNat 1)),pL 9 (v2.drop (Int.toNat 1)),pI 10 0] [hC 1 [rO 32 (eO 3 eI) v2],(2,{pre:=some (dL 7 (eF eI) v2),fix:=some (dL 8 (eF eI) (v2.drop (Int.toNat 1)))}),hN 3 (v2.drop (Int.toNat 1))] (B6 (ypc1 hv2) (show List.all [rO 32 (eO 3 eI) v2] simpleR=true from(sa_o (wnR1 (yge (wn_O wn_I)) rfl) rfl)) (show(SV.d false (eraR [.sl (some 32) (v2.map (eO 3 eI))]):SV)=.d false [.sl none (v2.map (eF eI))] from(congrArg (fun z=>SV.d false z) (ycp (yua (yvy1 er_I)) rfl))) (show(Int.toNat 1)<=(v2.map (eF eI)).length from(by have hg:=(yla hu3);first | (simp only[List.length_map];omega) | omega)) (show(v2.map (eF eI)).length<=(v2.map (eF eI)).length from(Nat.le_refl _)) (show ∀ row∈(v2.map (eF eI)),row.length=1 from(ycc fun _=>rfl)) (A3 (show(0:Int)<=1 from(by have hg:=(yla hu3);omega)) (show(SV.d false [.sl none (((v2.map (eF eI)).take (v2.map (eF eI)).length).drop (Int.toNat 1))]:SV)=.d false [.sl none ((v2.drop (Int.toNat 1)).map (eF eI))] from(congrArg (fun z=>SV.d false [.sl none z]) yfa2)) (lF (eF eI) (v2.drop (Int.toNat 1))))) ?_
 refine yfa ?_
 obtain⟨y5,hl_x4,hk_x4⟩:=bs h
 clear h
 refine yfc (J:=fun (x:((List Qr)×Int))=>[dP 0 a0,vL 3 38 eRt x.1,dL 8 (eF eI) (v2.drop (Int.toNat 1)),pL 9 (v2.drop (Int.toNat 1)),pI 10 x.2]) hl_x4 wkk (fun x4 o_x4 h hy_x4=>?_)
 unfold yyq at h
 refine kG [dP 0 a0,vL 3 38 eRt x4.1,dL 8 (eF eI) (v2.drop (Int.toNat 1)),pL 9 (v2.drop (Int.toNat 1)),pI 10 x4.2,pB 11 (decide (x4.2<((v2.drop (Int.toNat 1)).length:Int)))] [] trivial ?_
 refine yab (kI h (fun hc5_5 h=>?_) (fun hc5_5 h=>?_))
 ·refine yga (q_n (yab (yfa ?_)))
  obtain⟨v7,hv7,h⟩:=bs h
  refine kG [dP 0 a0,vL 3 38 eRt x4.1,dL 5 eI v7,dL 8 (eF eI) (v2.drop (Int.toNat 1)),pL 9 (v2.drop (Int.toNat 1)),pI 10 x4.2] [hR 0 [.sl none (v7.map eI)]] (A2 (yba hv7).1 (yca (eF eI) (yba hv7).2)) ?_
  obtain⟨v8,hv8,h⟩:=bs h
  obtain⟨v9,hv9,h⟩:=bs h
  obtain⟨u10,hu10,h⟩:=bs h
  refine yub (r_gq [dP 0 a0,vL 3 38 eRt (x4.1++[v9.1]),dL 8 (eF eI) (v2.drop (Int.toNat 1)),pL 9 (v2.drop (Int.toNat 1)),pI 10 x4.2] [hR 3 (eI v8),hR 5 (ePt v9),(9,{fix:=some (vL 23 38 eRt (x4.1++[v9.1]))})] (B6 (yba hv8).1 (yca eI (yba hv8).2) (yba hv9).1 (yca ePt (yba hv9).2) (lG' eRt hu10) (show ∀ row∈((([v9.1]).map eRt):List (List C)),row.length=2 from(ycc fun _=>rfl)) (A1 (aP' 38 eRt x4.1 ([v9.1]))))) ?_
  refine b_n (q_n (yub (r_gq [dP 0 a0,vL 3 38 eRt (x4.1++[v9.1]),dL 8 (eF eI) (v2.drop (Int.toNat 1)),pL 9 (v2.drop (Int.toNat 1)),pI 10 (w64 (x4.2+1))] [] trivial) ?_))
  exact lqn ((x4.1++[v9.1]),(w64 (x4.2+1))) h
 refine ywb (q_x (lq_x (b_x ?_)))
 have hyy:=hy_x4 _ (oi h).symm
 subst hyy
 have h:=hk_x4
 refine q_n ?_
 exact jx x4.1 h
theorem yez {a0:(List Qp)} {a1:Bool}  {r:(List Qr)} (h:yfo a0 a1=some r):Meets Tryz.prog 154 [.d false (sP a0),.v (.bool a1)] { vals:=[rO 38 eRt r] }:=by
 refine mo Tryz.func154 [dP 0 a0,pB 1 a1] ?_
 unfold yfo at h
 refine kG [dP 0 a0,pB 1 a1] [] trivial ?_
 refine yab (kG [dP 0 a0,pB 5 a1] [] trivial ?_)
 refine kI h (fun hc2_0 h=>?_) (fun hc2_0 h=>?_)
 ·obtain⟨v2,hv2,h⟩:=bs h
  obtain⟨v3,hv3,h⟩:=bs h
  refine kG [vL 4 38 eRt v3] [hC 1 [.ov false (oP 96 v2)],(2,(cS [.d false (sP v2)] [rO 38 eRt v3]))] (A5 (ycz hv2) (show List.all [.ov false (oP 96 v2)] simpleR=true from(sa_o (wnR1 (yge (wn_P (wn_P wn_I wn_I) (wn_P wn_I wn_I))) rfl) rfl)) (show([.d false [.sl none (eraL (v2.map ePt))]]:List Arg)=[.d false (sP v2)] from(by simp only[erPt])) (ydg1 hv3) (sR' 38 v3)) ?_
  refine yra (q_r ?_)
  obtain rfl:=oi h
  exact er [(.ov false [.sl (some 38) (v3.map eRt)],4)]
 refine yga (q_n ?_)
 obtain⟨v4,hv4,h⟩:=bs h
 refine kG [vL 4 38 eRt v4] [hC 1 [rO 38 eRt v4]] (A2 (yaa1 hv4) (sR' 38 v4)) ?_
 refine yra ?_
 obtain rfl:=oi h
 exact er [(.ov false [.sl (some 38) (v4.map eRt)],4)]
theorem yba1 {a0:(List Qp)} {a1:Qr}  {r:Int} (h:ylp a0 a1=some r):Meets Tryz.prog 163 [.d false (sP a0),.v (vRt a1)] { vals:=[.p (iV r)] }:=by
 refine mo Tryz.func163 [dP 0 a0,(1,.p (vRt a1))] ?_
 unfold ylp at h
 refine kG [dP 0 a0,bR 3 a1] [] trivial ?_
 refine kG [dP 0 a0,bR 3 a1,pI 5 0] [] trivial ?_
 refine yib (J:=fun (x:Int)=>[pI 5 x]) (K:=fun x=>ywq x=some r) (fun x1 h=>?_) ?_
 ·unfold ywq at h
  refine kG [pI 4 x1] [] trivial ?_
  refine yra ?_
  obtain rfl:=oi h
  exact er [(.p (iV x1),4)]
 refine yfa ?_
 obtain⟨y3,hl_x2,hk_x2⟩:=bs h
 clear h
 refine yfc (J:=fun (x:Int)=>[dP 0 a0,bR 3 a1,pI 5 x]) hl_x2 wkk (fun x2 o_x2 h hy_x2=>?_)
 unfold yek at h
 refine yab ?_
 obtain⟨w6,hw6,h⟩:=bs h
 refine yza (l1:=[dP 0 a0,bR 3 a1,pI 5 x2,pB 21 w6]) ?_ ?_
 ·clear h
  rcases ft (decide ((w64 (x2+2))<(a0.length:Int))) with ha0 | ha0
  ·obtain⟨v4,hv4,hw6⟩:=bs (yrh ha0 hw6)
   obtain⟨v5,hv5,hw6⟩:=bs hw6
   have hw6:=oi hw6
   subst hw6
   exact(r_dq yda 13 [] [dP 0 a0,bR 3 a1,pI 5 x2,pB 21 (decide (v5<0))] [hN 3 a0,(6,gT),(7,gT),(8,gT),(9,{g:=some true,row:=some (ePt v4)}),(10,gT),(11,gT),(12,gT),(13,{g:=some true,call:=some (none,[.p (iV v5)],true)}),(14,gT),(15,bT)] (B6 (lnP a0) ha0 ha0 ha0 ha0 (yba hv4).1 (B6 (yca ePt (yba hv4).2) ha0 ha0 ha0 ha0 (yta hv5) (A2 ha0 ha0))))
  replace hw6:=ysh ha0 hw6
  have hw6:=oi hw6
  subst hw6
  exact(r_dq yda 13 [] [dP 0 a0,bR 3 a1,pI 5 x2,pB 21 false] [hN 3 a0,(6,gF),(7,gF),(8,gF),(9,gF),(10,gF),(11,gF),(12,gF),(13,gF),(14,gF),(15,bF)] (B6 (lnP a0) ha0 ha0 ha0 ha0 ha0 (A5 ha0 ha0 ha0 ha0 ha0)))
 refine kI h (fun hc5_6 h=>?_) (fun hc5_6 h=>?_)
 ·refine yga (q_n (yfa (yub (r_gq [dP 0 a0,bR 3 a1,pI 5 (w64 (x2+1))] [] trivial) ?_)))
  refine b_n ?_
  exact lqn (w64 (x2+1)) h
 refine ywb (q_x (lq_x (b_x ?_)))
 have hyy:=hy_x2 _ (oi h).symm
 subst hyy
 have h:=hk_x2
 refine q_n ?_
 exact jx x2 h
theorem yre1 {a0:Qr} {a1:Qr}  {r:(Qr×Bool)} (h:ymp a0 a1=some r):Meets Tryz.prog 199 [.v (vRt a0),.v (vRt a1)] { vals:=[.p (vRt r.1),.p (.bool r.2)] }:=by
 refine mo Tryz.func199 [(0,.p (vRt a0)),(1,.p (vRt a1))] ?_
 unfold ymp at h
 refine kG [bR 2 a0,bR 3 a1,bX 4 zR] [] trivial ?_
 obtain⟨v1,hv1,h⟩:=bs h
 refine kG [bR 4 v1.1,pB 5 v1.2] [hC 10 [.p (vRt v1.1),.p (.bool v1.2)]] (A1 (ykb hv1)) ?_
 refine yra ?_
 obtain rfl:=oi h
 exact er [(.p (vRt v1.1),4),(.p (.bool v1.2),5)]
theorem yox {a0:Qr} {a1:Qr}  {r:(Qr×Bool)} (h:ynr a0 a1=some r):Meets Tryz.prog 201 [.v (vRt a0),.v (vRt a1)] { vals:=[.p (vRt r.1),.p (.bool r.2)] }:=by
 refine mo Tryz.func201 [(0,.p (vRt a0)),(1,.p (vRt a1))] ?_
 unfold ynr at h
 refine kG [bR 2 a0,bR 3 a1,bX 4 zR] [] trivial ?_
 obtain⟨v1,hv1,h⟩:=bs h
 refine kG [bR 4 v1.1,pB 5 v1.2] [hC 16 [.p (vRt v1.1),.p (.bool v1.2)]] (A1 (ykb hv1)) ?_
 refine yra ?_
 obtain rfl:=oi h
 exact er [(.p (vRt v1.1),4),(.p (.bool v1.2),5)]
theorem yeg1 {a0:Qp} {a1:Qp} {a2:Qr}  {r:(Qr×Bool)} (h:yry a0 a1 a2=some r):Meets Tryz.prog 164 [.v (vPt a0),.v (vPt a1),.v (vRt a2)] { vals:=[.p (vRt r.1),.p (.bool r.2)] }:=by
 refine mo Tryz.func164 [(0,.p (vPt a0)),(1,.p (vPt a1)),(2,.p (vRt a2))] ?_
 unfold yry at h
 refine kG [bP 3 a0,bP 4 a1,bR 5 a2,bX 6 zR] [] trivial ?_
 obtain⟨v1,hv1,h⟩:=bs h
 refine kG [bP 3 a0,bP 4 a1,bX 6 zR,bR 8 v1.1,pB 9 v1.2] [hC 3 [.p (vRt v1.1),.p (.bool v1.2)]] (A1 (yeq hv1)) ?_
 obtain⟨v2,hv2,h⟩:=bs h
 obtain⟨v3,hv3,h⟩:=bs h
 refine yza (r_dq yda 10 [(9,10)] [bP 3 a0,bX 6 zR,pB 9 v1.2,bR 10 v3.1,pB 11 v3.2] [hC 3 [.p (vRt v2)],hC 4 [.p (vRt v3.1),.p (.bool v3.2)]] (A2 (yzj hv2) (yre1 hv3))) ?_
 refine yab (yza (l1:=[bP 3 a0,bX 6 zR,bR 10 v3.1,pB 32 ((!v1.2)||(!v3.2))]) ?_ ?_)
 ·rcases ft (!v1.2) with ha0 | ha0
  ·exact RegOk.of_eq (r_gq [bP 3 a0,bX 6 zR,bR 10 v3.1,pB 32 true] [(3,gT),(4,gT),(5,bT)] (A3 ha0 ha0 ha0)) (by simp[ha0])
  exact RegOk.of_eq (r_gq [bP 3 a0,bX 6 zR,bR 10 v3.1,pB 32 (!v3.2)] [(3,gF),(4,gF),(5,bF)] (A3 ha0 ha0 ha0)) (by simp[ha0])
 refine kI h (fun hc2_3 h=>?_) (fun hc2_3 h=>?_)
 ·refine kG [bX 6 zR,pB 7 false] [] trivial ?_
  refine yra (q_r ?_)
  obtain rfl:=oi h
  exact er [(.p (.agg #[.int .i64 0,.int .i64 0]),6),(.p (.bool false),7)]
 refine yga (q_n ?_)
 obtain⟨v5,hv5,h⟩:=bs h
 refine kG [bR 6 v5.1,pB 7 v5.2] [hC 3 [.p (vRt v5.1),.p (.bool v5.2)]] (A1 (yox hv5)) ?_
 refine yra ?_
 obtain rfl:=oi h
 exact er [(.p (vRt v5.1),6),(.p (.bool v5.2),7)]
theorem ybn {a0:(List Qp)} {a1:Qr}  {r:(Qr×Bool)} (h:yul a0 a1=some r):Meets Tryz.prog 98 [.d false (sP a0),.v (vRt a1)] { vals:=[.p (vRt r.1),.p (.bool r.2)] }:=by
 refine mo Tryz.func98 [dP 0 a0,(1,.p (vRt a1))] ?_
 unfold yul at h
 refine kG [dP 0 a0,bR 3 a1,bX 4 zR] [] trivial ?_
 obtain⟨v1,hv1,h⟩:=bs h
 refine kG [dP 0 a0,bR 3 a1,bX 4 zR,pI 6 v1] [hC 2 [.p (iV v1)]] (A1 (yba1 hv1)) ?_
 obtain⟨v2,hv2,h⟩:=bs h
 obtain⟨v3,hv3,h⟩:=bs h
 obtain⟨v4,hv4,h⟩:=bs h
 refine yza (r_dq yda 10 [] [bR 4 v4.1,pB 5 v4.2] [hR 2 (ePt v2),hR 7 (ePt v3),hC 10 [.p (vRt v4.1),.p (.bool v4.2)]] (A5 (yba hv2).1 (yca ePt (yba hv2).2) (yba hv3).1 (yca ePt (yba hv3).2) (yeg1 hv4))) ?_
 refine yra ?_
 obtain rfl:=oi h
 exact er [(.p (vRt v4.1),4),(.p (.bool v4.2),5)]
theorem yqc1 {a0:(List Qr)} {a1:Qr}  {r:Int} (h:yrr a0 a1=some r):Meets Tryz.prog 155 [.d false [.sl none (a0.map eRt)],.v (vRt a1)] { vals:=[.p (iV r)] }:=by
 refine mo Tryz.func155 [dL 0 eRt a0,(1,.p (vRt a1))] ?_
 unfold yrr at h
 refine kG [dL 0 eRt a0,bR 3 a1] [] trivial ?_
 refine yib (J:=fun (x:Unit)=>[]) (K:=fun x=>yps x=some r) (fun x1 h=>?_) ?_
 ·unfold yps at h
  refine kG [pI 4 (-1)] [] trivial ?_
  refine yra ?_
  obtain rfl:=oi h
  exact er [(.p (iV (-1)),4)]
 refine kG [bR 3 a1,dL 7 eRt a0,pL 8 a0,pI 9 0] [hN 1 a0] (A1 (lF eRt a0)) ?_
 refine yfa ?_
 obtain⟨y3,hl_x2,hk_x2⟩:=bs h
 clear h
 refine yfc (J:=fun (x:Int)=>[bR 3 a1,dL 7 eRt a0,pL 8 a0,pI 9 x]) hl_x2 wkk (fun x2 o_x2 h hy_x2=>?_)
 unfold yqs at h
 refine kG [bR 3 a1,dL 7 eRt a0,pL 8 a0,pI 9 x2,pB 10 (decide (x2<(a0.length:Int)))] [] trivial ?_
 refine yab (kI h (fun hc5_3 h=>?_) (fun hc5_3 h=>?_))
 ·refine yga (q_n (yab (yfa ?_)))
  obtain⟨v5,hv5,h⟩:=bs h
  refine kG [bR 3 a1,pI 5 x2,bR 6 v5,dL 7 eRt a0,pL 8 a0,pI 9 x2] [hR 1 (eRt v5)] (A2 (yba hv5).1 (yca eRt (yba hv5).2)) ?_
  refine kG [bR 3 a1,pI 5 x2,dL 7 eRt a0,pL 8 a0,pI 9 x2,pB 16 ((a1.1==v5.1)&&(a1.2==v5.2))] [(2,{pv:=some (.bool ((a1.1==v5.1)&&(a1.2==v5.2)))})] (A1 (show PureAt Tryz.prog (.binOp .eql 38 (.tmp 14) (.tmp 15) 38) [vRt a1,vRt v5] (.bool ((a1.1==v5.1)&&(a1.2==v5.2))) from(ylf (by kernel_rfl)))) ?_
  refine kI h (fun hc6_5 h=>?_) (fun hc6_5 h=>?_)
  ·refine kG [pI 4 x2] [] trivial ?_
   refine yra (b_r (q_r (lq_r ?_)))
   refine b_r (q_r ?_)
   have hyy:=hy_x2 _ (oi h).symm
   subst hyy
   have h:=hk_x2
   dsimp only[Sum.elim] at h
   obtain rfl:=oi h
   exact er [(.p (iV x2),4)]
  refine yga (b_n (q_n (yub (r_gq [bR 3 a1,dL 7 eRt a0,pL 8 a0,pI 9 (w64 (x2+1))] [] trivial) ?_)))
  exact lqn (w64 (x2+1)) h
 refine ywb (q_x (lq_x (b_x ?_)))
 have hyy:=hy_x2 _ (oi h).symm
 subst hyy
 have h:=hk_x2
 dsimp only[Sum.elim] at h
 refine q_n ?_
 exact jx () h
end Go.PV

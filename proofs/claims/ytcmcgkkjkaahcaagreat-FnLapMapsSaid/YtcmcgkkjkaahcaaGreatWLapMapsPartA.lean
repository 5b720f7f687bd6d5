/-
  Walks through the functions that the law reaches: each answers as its plain definition does.
  Conditions: none.
-/
import Derived.KernelRfl
import Derived.Test.YtcmcgkkjkaahcaaGreatDf
import Derived.Test.YtcmcgkkjkaahcaaGreatProg
import Derived.Test.YtcmcgkkjkaahcaaGreatSrtYtcmcgkkjkaahcaaGreat
import Derived.Test.YtcmcgkkjkaahcaaGreatPvCx
open Go Go.PV Go.Proofs
set_option linter.all false
namespace Go.PV
attribute [local irreducible] pvC pvL pvD sOp seqQ blockQ Meets MeetsB Ok OkL RegOk agree endQ seqL blockL loopQ endL endLB OkD TakesR MeetsD
theorem yfa:Tryz.prog.follows .mixedOrders=true:=by kernel_rfl
theorem yrp1:Tryz.prog.underlying 5=some (.int .u8):=by kernel_rfl
theorem ydd1:Tryz.prog.underlying 3=some (.int .i64):=by kernel_rfl
theorem yif1:Tryz.prog.underlying 71=some (.int .u64):=by kernel_rfl
theorem ysj1 {a0:(List Int)} {a1:(List Int)}  {r:Bool} (h:yee1 a0 a1=some r):Meets Tryz.prog 22 [.d false [.sl none (a0.map (eU .u8))],.d false [.sl none (a1.map (eU .u8))]] { vals:=[.p (.bool r)] }:=by
 refine mo Tryz.func22 [dL 0 (eU .u8) a0,dL 1 (eU .u8) a1] ?_
 unfold yee1 at h
 refine kG [dL 0 (eU .u8) a0,dL 1 (eU .u8) a1] [] trivial ?_
 refine ylb (l1:=[pB 4 ((decide ((a0.length:Int)>1048576))||(decide ((a1.length:Int)>(w64 (1048576-(a0.length:Int))))))]) ?_ ?_
 ·rcases ft (decide ((a0.length:Int)>1048576)) with ha0 | ha0
  ·exact RegOk.of_eq (r_gq [pB 4 true] [hN 1 a0,(4,gT),(5,gT),(6,gT),(7,gT),(8,gT),(9,gT),(10,bT)] (B6 (lF (eU .u8) a0) ha0 ha0 ha0 ha0 ha0 (A2 ha0 ha0))) (by simp[ha0])
  exact RegOk.of_eq (r_gq [pB 4 (decide ((a1.length:Int)>(w64 (1048576-(a0.length:Int)))))] [hN 1 a0,(4,gF),(5,{g:=some false,n:=some a1.length}),(6,gF),(7,{g:=some false,n:=some a0.length}),(8,gF),(9,gF),(10,bF)] (B6 (lF (eU .u8) a0) ha0 ha0 (lF (eU .u8) a1) ha0 ha0 (A4 (lF (eU .u8) a0) ha0 ha0 ha0))) (by simp[ha0])
 refine yra ?_
 obtain rfl:=oi h
 exact er [(.p (.bool ((decide ((a0.length:Int)>1048576))||(decide ((a1.length:Int)>(w64 (1048576-(a0.length:Int))))))),4)]
theorem ymq {a0:Cu}  {r:(Int×Cu)} (h:ygh a0=some r):MeetsB Tryz.prog 156 (.box (eCu a0)) [] [.p (iV r.1)] (.box (eCu r.2)):=by
 refine mob Tryz.func156 [bC 0 a0] ?_
 unfold ygh at h
 refine kG [bC 0 a0] [] trivial ?_
 refine kG [bC 0 a0,pI 3 0] [] trivial ?_
 refine ywb (J:=fun (x:Int)=>[bC 0 a0,pI 3 x]) (K:=fun x=>yzd a0 x=some r) (fun x1 h=>?_) ?_
 ·unfold yzd at h
  refine kG [bX 0 [.sl none (a0.1.map (eU .u8)),rI (w64 (a0.2.1+1)),.raw (.int .u64 a0.2.2)],pI 3 x1] [] trivial ?_
  refine kG [bX 0 [.sl none (a0.1.map (eU .u8)),rI (w64 (a0.2.1+1)),.raw (.int .u64 (IntKind.wrap .u64 ((IntKind.wrap .u64 ((IntKind.wrap .u64 (a0.2.2*6364136223846793005))+(IntKind.wrap .u64 x1)))+1442695040888963407)))],pI 3 x1] [(7,{pv:=some (.int .u64 (IntKind.wrap .u64 x1))})] (A1 (show PureAt Tryz.prog (.convert 3 71 (.tmp 38)) [.int .i64 x1] (.int .u64 (IntKind.wrap .u64 x1)) from(ybd1 ydd1 yif1))) ?_
  refine yib (ylb (r_dq yfa 9 [] [bX 0 [.sl none (a0.1.map (eU .u8)),rI (w64 (a0.2.1+1)),.raw (.int .u64 (IntKind.wrap .u64 ((IntKind.wrap .u64 ((IntKind.wrap .u64 (a0.2.2*6364136223846793005))+(IntKind.wrap .u64 x1)))+1442695040888963407)))],pI 3 x1,pB 53 (decide ((w64 (a0.2.1+1))<=(a0.1.length:Int)))] [(7,bT),hN 8 a0.1] (A2 (show frR [.sl none (a0.1.map (eU .u8))]=true from(frR1 (yii1 (fr_U .u8)) rfl)) (lF (eU .u8) a0.1))) ?_)
  refine kI h (fun hc2_1 h=>?_) (fun hc2_1 h=>?_)
  ·refine kG [bX 0 [.sl none (a0.1.map (eU .u8)),rI (w64 (a0.2.1+1)),.raw (.int .u64 (IntKind.wrap .u64 ((IntKind.wrap .u64 ((IntKind.wrap .u64 (a0.2.2*6364136223846793005))+(IntKind.wrap .u64 x1)))+1442695040888963407)))],pI 2 x1] [] trivial ?_
   refine yra (q_r ?_)
   obtain rfl:=oi h
   exact ebr [(.p (iV x1),2)]
  refine yia (q_n (kG [bX 0 [.sl none (a0.1.map (eU .u8)),rI (w64 (a0.2.1+1)),.raw (.int .u64 (IntKind.wrap .u64 ((IntKind.wrap .u64 ((IntKind.wrap .u64 (a0.2.2*6364136223846793005))+(IntKind.wrap .u64 x1)))+1442695040888963407)))],pI 2 (IntKind.wrap .i64 (iand .u64 (ishr .u64 (IntKind.wrap .u64 ((IntKind.wrap .u64 ((IntKind.wrap .u64 (a0.2.2*6364136223846793005))+(IntKind.wrap .u64 x1)))+1442695040888963407)) 40) 255))] [(4,{pv:=some (.int .u64 (ishr .u64 (IntKind.wrap .u64 ((IntKind.wrap .u64 ((IntKind.wrap .u64 (a0.2.2*6364136223846793005))+(IntKind.wrap .u64 x1)))+1442695040888963407)) 40))}),(5,{pv:=some (.int .u64 (iand .u64 (ishr .u64 (IntKind.wrap .u64 ((IntKind.wrap .u64 ((IntKind.wrap .u64 (a0.2.2*6364136223846793005))+(IntKind.wrap .u64 x1)))+1442695040888963407)) 40) 255))}),(6,{pv:=some (iV (IntKind.wrap .i64 (iand .u64 (ishr .u64 (IntKind.wrap .u64 ((IntKind.wrap .u64 ((IntKind.wrap .u64 (a0.2.2*6364136223846793005))+(IntKind.wrap .u64 x1)))+1442695040888963407)) 40) 255)))})] (A3 (show PureAt Tryz.prog (.binOp .shr 71 (.tmp 58) (.const (.int .u64 40)) 136) [.int .u64 (IntKind.wrap .u64 ((IntKind.wrap .u64 ((IntKind.wrap .u64 (a0.2.2*6364136223846793005))+(IntKind.wrap .u64 x1)))+1442695040888963407)),.int .u64 40] (.int .u64 (ishr .u64 (IntKind.wrap .u64 ((IntKind.wrap .u64 ((IntKind.wrap .u64 (a0.2.2*6364136223846793005))+(IntKind.wrap .u64 x1)))+1442695040888963407)) 40)) from(yrt1 (by decide))) (show PureAt Tryz.prog (.binOp .and 71 (.tmp 59) (.const (.int .u64 255)) 71) [.int .u64 (ishr .u64 (IntKind.wrap .u64 ((IntKind.wrap .u64 ((IntKind.wrap .u64 (a0.2.2*6364136223846793005))+(IntKind.wrap .u64 x1)))+1442695040888963407)) 40),.int .u64 255] (.int .u64 (iand .u64 (ishr .u64 (IntKind.wrap .u64 ((IntKind.wrap .u64 ((IntKind.wrap .u64 (a0.2.2*6364136223846793005))+(IntKind.wrap .u64 x1)))+1442695040888963407)) 40) 255)) from(yqt1)) (show PureAt Tryz.prog (.convert 71 3 (.tmp 60)) [.int .u64 (iand .u64 (ishr .u64 (IntKind.wrap .u64 ((IntKind.wrap .u64 ((IntKind.wrap .u64 (a0.2.2*6364136223846793005))+(IntKind.wrap .u64 x1)))+1442695040888963407)) 40) 255)] (iV (IntKind.wrap .i64 (iand .u64 (ishr .u64 (IntKind.wrap .u64 ((IntKind.wrap .u64 ((IntKind.wrap .u64 (a0.2.2*6364136223846793005))+(IntKind.wrap .u64 x1)))+1442695040888963407)) 40) 255))) from(ybd1 yif1 ydd1))) ?_))
  refine yra ?_
  obtain rfl:=oi h
  exact ebr [(.p (iV (IntKind.wrap .i64 (iand .u64 (ishr .u64 (IntKind.wrap .u64 ((IntKind.wrap .u64 ((IntKind.wrap .u64 (a0.2.2*6364136223846793005))+(IntKind.wrap .u64 x1)))+1442695040888963407)) 40) 255))),2)]
 refine ylb (r_dq yfa 9 [] [bC 0 a0,pI 3 0,pB 13 (decide (a0.2.1<(a0.1.length:Int)))] [(7,bT),hN 8 a0.1] (A2 (show frR [.sl none (a0.1.map (eU .u8))]=true from(frR1 (yii1 (fr_U .u8)) rfl)) (lF (eU .u8) a0.1))) ?_
 refine kI h (fun hc2_2 h=>?_) (fun hc2_2 h=>?_)
 ·obtain⟨v4,hv4,h⟩:=bs h
  refine yrc (r_dq yfa 8 [] [bC 0 a0,pI 3 (IntKind.wrap .i64 v4)] [(3,bT),hR 8 [.raw (.int .u8 v4)],(10,{pv:=some (iV (IntKind.wrap .i64 v4))})] (A4 (show frR [.sl none (a0.1.map (eU .u8))]=true from(frR1 (yii1 (fr_U .u8)) rfl)) (yba hv4).1 (yda (eU .u8) (yba hv4).2) (show PureAt Tryz.prog (.convert 5 3 (.tmp 23)) [.int .u8 v4] (iV (IntKind.wrap .i64 v4)) from(ybd1 yrp1 ydd1)))) ?_
  refine q_n ?_
  exact jx (IntKind.wrap .i64 v4) h
 refine yia (q_n ?_)
 exact jx 0 h
theorem ydb {a0:Cu} {a1:Int}  {r:(Int×Cu)} (h:ybb a0 a1=some r):MeetsB Tryz.prog 113 (.box (eCu a0)) [wI a1] [.p (iV r.1)] (.box (eCu r.2)):=by
 refine mob Tryz.func113 [bC 0 a0,pI 1 a1] ?_
 unfold ybb at h
 refine kG [bC 0 a0,pI 1 a1] [] trivial ?_
 refine yib (kG [bC 0 a0,pI 1 a1,pB 7 (decide (a1<=1))] [] trivial ?_)
 refine kI h (fun hc2_0 h=>?_) (fun hc2_0 h=>?_)
 ·refine kG [bC 0 a0,pI 4 0] [] trivial ?_
  refine yra (q_r ?_)
  obtain rfl:=oi h
  exact ebr [(.p (iV 0),4)]
 refine yia (q_n ?_)
 obtain⟨v2,hv2,h⟩:=bs h
 refine kG [bC 0 v2.2,pI 1 a1,pI 5 v2.1] [hF 1 [.p (iV v2.1)] (.box (eCu v2.2))] (A1 (ymq hv2)) ?_
 refine ywb (J:=fun (x:((List Int)×Int×Int×Int))=>[bC 0 (x.1,x.2.1,x.2.2.1),pI 1 a1,pI 5 x.2.2.2]) (K:=fun x=>yae a1 x=some r) (fun x3 h=>?_) ?_
 ·unfold yae at h
  obtain⟨u4,hu4,h⟩:=bs h
  refine kG [bC 0 (x3.1,x3.2.1,x3.2.2.1),pI 4 (Int.tmod x3.2.2.2 a1)] [] (A1 (ycb hu4)) ?_
  refine yra ?_
  obtain rfl:=oi h
  exact ebr [(.p (iV (Int.tmod x3.2.2.2 a1)),4)]
 refine kG [bC 0 v2.2,pI 1 a1,pI 5 v2.1,pB 11 (decide (a1>200))] [] trivial ?_
 refine kI h (fun hc2_4 h=>?_) (fun hc2_4 h=>?_)
 ·obtain⟨v6,hv6,h⟩:=bs h
  refine yrc (r_gq [bC 0 v6.2,pI 1 a1,pI 5 (w64 ((w64 (v2.1*256))+v6.1))] [hF 3 [.p (iV v6.1)] (.box (eCu v6.2))] (A1 (ymq hv6))) ?_
  refine q_n ?_
  exact jx (v6.2.1,v6.2.2.1,v6.2.2.2,(w64 ((w64 (v2.1*256))+v6.1))) h
 refine yia (q_n ?_)
 exact jx (v2.2.1,v2.2.2.1,v2.2.2.2,v2.1) h
theorem yad {a0:Cu} {a1:Int}  {r:(Bool×Cu)} (h:yjc a0 a1=some r):MeetsB Tryz.prog 103 (.box (eCu a0)) [wI a1] [.p (.bool r.1)] (.box (eCu r.2)):=by
 refine mob Tryz.func103 [bC 0 a0,pI 1 a1] ?_
 unfold yjc at h
 refine kG [bC 0 a0,pI 1 a1] [] trivial ?_
 obtain⟨v1,hv1,h⟩:=bs h
 refine kG [bC 0 v1.2,pB 4 (v1.1==0)] [hF 2 [.p (iV v1.1)] (.box (eCu v1.2))] (A1 (ydb hv1)) ?_
 refine yra ?_
 obtain rfl:=oi h
 exact ebr [(.p (.bool (v1.1==0)),4)]
theorem yeb {a0:Cu} {a1:(List Int)}  {r:(Int×Cu)} (h:yab a0 a1=some r):MeetsB Tryz.prog 68 (.box (eCu a0)) [.d false [.sl none (a1.map eI)]] [.p (iV r.1)] (.box (eCu r.2)):=by
 refine mob Tryz.func68 [bC 0 a0,dL 1 eI a1] ?_
 unfold yab at h
 refine kG [bC 0 a0,dL 1 eI a1] [] trivial ?_
 obtain⟨v1,hv1,h⟩:=bs h
 obtain⟨v2,hv2,h⟩:=bs h
 refine kG [bC 0 v1.2,pI 4 v2] [hN 3 a1,hF 4 [.p (iV v1.1)] (.box (eCu v1.2)),hR 5 (eI v2)] (A4 (lF eI a1) (ydb hv1) (yba hv2).1 (yda eI (yba hv2).2)) ?_
 refine yra ?_
 obtain rfl:=oi h
 exact ebr [(.p (iV v2),4)]
theorem yla {a0:Int}  {r:Qr} (h:yoa a0=some r):Meets Tryz.prog 83 [wI a0] { vals:=[.p (vRt r)] }:=by
 refine mo Tryz.func83 [pI 0 a0] ?_
 unfold yoa at h
 refine kG [pI 0 a0,bX 2 zR] [] trivial ?_
 refine kG [bX 2 [rI a0,rI 1]] [] trivial ?_
 refine yra ?_
 obtain rfl:=oi h
 exact er [(.p (.agg #[.int .i64 a0,.int .i64 1]),2)]
theorem yed1 {a0:Int} {a1:Int}  {r:Int} (h:ykt a0 a1=some r):Meets Tryz.prog 172 [wI a0,wI a1] { vals:=[.p (iV r)] }:=by
 refine mo Tryz.func172 [pI 0 a0,pI 1 a1] ?_
 unfold ykt at h
 refine kG [pI 0 a0,pI 1 a1] [] trivial ?_
 refine yib (kG [pI 0 a0,pI 1 a1,pB 7 (decide (a0>a1))] [] trivial ?_)
 refine kI h (fun hc2_0 h=>?_) (fun hc2_0 h=>?_)
 ·refine kG [pI 4 a0] [] trivial ?_
  refine yra (q_r ?_)
  obtain rfl:=oi h
  exact er [(.p (iV a0),4)]
 refine yia (q_n (kG [pI 4 a1] [] trivial ?_))
 refine yra ?_
 obtain rfl:=oi h
 exact er [(.p (iV a1),4)]
theorem yip {a0:Int}  {r:Int} (h:ycn a0=some r):Meets Tryz.prog 137 [wI a0] { vals:=[.p (iV r)] }:=by
 refine mo Tryz.func137 [pI 0 a0] ?_
 unfold ycn at h
 refine kG [pI 0 a0] [] trivial ?_
 obtain⟨v1,hv1,h⟩:=bs h
 refine kG [pI 2 v1] [hC 3 [.p (iV v1)]] (A1 (yed1 hv1)) ?_
 refine yra ?_
 obtain rfl:=oi h
 exact er [(.p (iV v1),2)]
theorem yis {a0:Int} {a1:Int}  {r:Int} (h:yik a0 a1=some r):Meets Tryz.prog 158 [wI a0,wI a1] { vals:=[.p (iV r)] }:=by
 refine mo Tryz.func158 [pI 0 a0,pI 1 a1] ?_
 unfold yik at h
 refine kG [pI 0 a0,pI 1 a1] [] trivial ?_
 refine ywb (J:=fun (x:Int)=>[pI 0 x]) (K:=fun x=>ypo x=some r) (fun x1 h=>?_) ?_
 ·unfold ypo at h
  refine kG [pI 4 x1] [] trivial ?_
  refine yra ?_
  obtain rfl:=oi h
  exact er [(.p (iV x1),4)]
 refine yja ?_
 obtain⟨y3,hl_x2,hk_x2⟩:=bs h
 clear h
 refine yfd (J:=fun (x:Qr)=>[pI 0 x.1,pI 1 x.2]) hl_x2 wkk (fun x2 o_x2 h hy_x2=>?_)
 unfold yyh at h
 refine yib (kG [pI 0 x2.1,pI 1 x2.2,pB 7 (decide (x2.2>0))] [] trivial ?_)
 refine kI h (fun hc5_3 h=>?_) (fun hc5_3 h=>?_)
 ·refine yia (q_n (yja ?_))
  obtain⟨u5,hu5,h⟩:=bs h
  refine kG [pI 1 x2.2,pI 5 (Int.tmod x2.1 x2.2)] [] (A1 (ycb hu5)) ?_
  refine kG [pI 0 x2.2,pI 5 (Int.tmod x2.1 x2.2)] [] trivial ?_
  refine yrc (r_gq [pI 0 x2.2,pI 1 (Int.tmod x2.1 x2.2)] [] trivial) ?_
  refine b_n ?_
  exact lqn (x2.2,(Int.tmod x2.1 x2.2)) h
 refine yzc (q_x (lq_x (b_x ?_)))
 have hyy:=hy_x2 _ (oi h).symm
 subst hyy
 have h:=hk_x2
 refine q_n ?_
 exact jx x2.1 h
theorem yng {a0:Int} {a1:Int} {a2:Int}  {r:Bool} (h:yrm a0 a1 a2=some r):Meets Tryz.prog 70 [wI a0,wI a1,wI a2] { vals:=[.p (.bool r)] }:=by
 refine mo Tryz.func70 [pI 0 a0,pI 1 a1,pI 2 a2] ?_
 unfold yrm at h
 refine kG [pI 0 a0,pI 1 a1,pI 2 a2] [] trivial ?_
 refine ylb (l1:=[pB 6 ((decide (a0>=a1))&&(decide (a0<=a2)))]) ?_ ?_
 ·rcases ft (decide (a0>=a1)) with ha0 | ha0
  ·exact RegOk.of_eq (r_gq [pB 6 (decide (a0<=a2))] [(4,gT),(5,gT),(6,gT),(7,bT)] (A4 ha0 ha0 ha0 ha0)) (by simp[ha0])
  exact RegOk.of_eq (r_gq [pB 6 false] [(4,gF),(5,gF),(6,gF),(7,bF)] (A4 ha0 ha0 ha0 ha0)) (by simp[ha0])
 refine yra ?_
 obtain rfl:=oi h
 exact er [(.p (.bool ((decide (a0>=a1))&&(decide (a0<=a2)))),6)]
theorem ybr {a0:Qr}  {r:Bool} (h:yco a0=some r):Meets Tryz.prog 126 [.v (vRt a0)] { vals:=[.p (.bool r)] }:=by
 refine mo Tryz.func126 [(0,.p (vRt a0))] ?_
 unfold yco at h
 refine kG [bR 1 a0] [] trivial ?_
 obtain⟨v1,hv1,h⟩:=bs h
 obtain⟨w5,hw5,h⟩:=bs h
 refine ylb (l1:=[pB 2 w5]) ?_ ?_
 ·clear h
  rcases ft v1 with ha0 | ha0
  ·obtain⟨v2,hv2,hw5⟩:=bs (yon ha0 hw5)
   rcases ft v2 with ha1 | ha1
   ·obtain⟨v3,hv3,hw5⟩:=bs (yon ha1 hw5)
    obtain⟨v4,hv4,hw5⟩:=bs hw5
    have hw5:=oi hw5
    subst hw5
    exact(r_dq yfa 14 [] [pB 2 (v4==1)] [hC 2 [.p (.bool v1)],(4,gT),(5,gT),(6,{g:=some true,call:=some (none,[.p (.bool v2)],true)}),(7,bT),(9,gT),(10,gT),(11,{g:=some true,call:=some (none,[.p (iV v3)],true)}),(12,gT),(13,gT),(14,{g:=some true,call:=some (none,[.p (iV v4)],true)}),(15,gT),(16,bT)] (B6 (yng hv1) ha0 ha0 ha0 (yng hv2) ha0 (B6 ha1 ha1 ha1 (yip hv3) ha1 ha1 (A4 ha1 (yis hv4) ha1 ha1))))
   replace hw5:=ypn ha1 hw5
   have hw5:=oi hw5
   subst hw5
   exact(r_dq yfa 14 [] [pB 2 false] [hC 2 [.p (.bool v1)],(4,gT),(5,gT),(6,{g:=some true,call:=some (none,[.p (.bool v2)],true)}),(7,bT),(9,gF),(10,gF),(11,gF),(12,gF),(13,gF),(14,gF),(15,gF),(16,bF)] (B6 (yng hv1) ha0 ha0 ha0 (yng hv2) ha0 (B6 ha1 ha1 ha1 ha1 ha1 ha1 (A2 ha1 ha1))))
  replace hw5:=ypn ha0 hw5
  have hw5:=oi hw5
  subst hw5
  exact(r_dq yfa 14 [] [pB 2 false] [hC 2 [.p (.bool v1)],(4,gF),(5,gF),(6,gF),(7,bF),(9,gF),(10,gF),(11,gF),(12,gF),(13,gF),(14,gF),(15,gF),(16,bF)] (B6 (yng hv1) ha0 ha0 ha0 ha0 fF (B6 fF fF fF fF fF fF (A1 fF))))
 refine yra ?_
 obtain rfl:=oi h
 exact er [(.p (.bool w5),2)]
theorem yyb {a0:Int} {a1:Int}  {r:(Qr×Bool)} (h:yub a0 a1=some r):Meets Tryz.prog 116 [wI a0,wI a1] { vals:=[.p (vRt r.1),.p (.bool r.2)] }:=by
 refine mo Tryz.func116 [pI 0 a0,pI 1 a1] ?_
 unfold yub at h
 refine kG [pI 0 a0,pI 1 a1,bX 4 zR] [] trivial ?_
 refine yib (kG [pI 0 a0,pI 1 a1,bX 4 zR,pB 9 (a1==0)] [] trivial ?_)
 refine kI h (fun hc2_0 h=>?_) (fun hc2_0 h=>?_)
 ·refine kG [bX 4 zR,pB 5 false] [] trivial ?_
  refine yra (q_r ?_)
  obtain rfl:=oi h
  exact er [(.p (.agg #[.int .i64 0,.int .i64 0]),4),(.p (.bool false),5)]
 refine yia (q_n ?_)
 obtain⟨v2,hv2,h⟩:=bs h
 obtain⟨v3,hv3,h⟩:=bs h
 obtain⟨v4,hv4,h⟩:=bs h
 refine kG [pI 0 a0,pI 1 a1,bX 4 zR,pI 6 v4] [hC 1 [.p (iV v2)],hC 3 [.p (iV v3)],hC 4 [.p (iV v4)]] (A3 (yip hv2) (yip hv3) (yis hv4)) ?_
 refine ywb (J:=fun (x:Int)=>[pI 0 a0,pI 1 a1,bX 4 zR,pI 6 x]) (K:=fun x=>yni a0 a1 x=some r) (fun x5 h=>?_) ?_
 ·unfold yni at h
  obtain⟨u6,hu6,h⟩:=bs h
  refine ylb (r_dq yfa 8 [] [bX 4 zR,bX 7 [rI (w64 (Int.tdiv a0 x5)),rI (w64 (Int.tdiv a1 x5))]] [] (A2 (ycb hu6) (ycb hu6))) ?_
  refine yib ?_
  obtain⟨v7,hv7,h⟩:=bs h
  refine kG [bX 4 zR,bX 7 [rI (w64 (Int.tdiv a0 x5)),rI (w64 (Int.tdiv a1 x5))],pB 29 (!v7)] [hC 1 [.p (.bool v7)]] (A1 (ybr hv7)) ?_
  refine kI h (fun hc2_7 h=>?_) (fun hc2_7 h=>?_)
  ·refine kG [bX 4 zR,pB 5 false] [] trivial ?_
   refine yra (q_r ?_)
   obtain rfl:=oi h
   exact er [(.p (.agg #[.int .i64 0,.int .i64 0]),4),(.p (.bool false),5)]
  refine yia (q_n (kG [bX 4 [rI (w64 (Int.tdiv a0 x5)),rI (w64 (Int.tdiv a1 x5))],pB 5 true] [] trivial ?_))
  refine yra ?_
  obtain rfl:=oi h
  exact er [(.p (.agg #[.int .i64 (w64 (Int.tdiv a0 x5)),.int .i64 (w64 (Int.tdiv a1 x5))]),4),(.p (.bool true),5)]
 refine kG [pI 0 a0,pI 1 a1,bX 4 zR,pI 6 v4,pB 17 (decide (a1<0))] [] trivial ?_
 refine kI h (fun hc2_8 h=>?_) (fun hc2_8 h=>?_)
 ·refine yrc (r_gq [pI 0 a0,pI 1 a1,bX 4 zR,pI 6 (w64 (0-v4))] [] trivial) ?_
  refine q_n ?_
  exact jx (w64 (0-v4)) h
 refine yia (q_n ?_)
 exact jx v4 h
theorem ysf {a0:Cu} {a1:Int}  {r:(Qr×Cu)} (h:yqc a0 a1=some r):MeetsB Tryz.prog 117 (.box (eCu a0)) [wI a1] [.p (vRt r.1)] (.box (eCu r.2)):=by
 refine mob Tryz.func117 [bC 0 a0,pI 1 a1] ?_
 unfold yqc at h
 refine kG [bC 0 a0,pI 1 a1,bX 4 zR] [] trivial ?_
 obtain⟨v1,hv1,h⟩:=bs h
 obtain⟨v2,hv2,h⟩:=bs h
 refine kG [bC 0 v1.2,bX 4 zR,bR 5 v2.1] [hF 3 [.p (iV v1.1)] (.box (eCu v1.2)),hC 5 [.p (vRt v2.1),.p (.bool v2.2)]] (A2 (ydb hv1) (yyb hv2)) ?_
 refine kG [bC 0 v1.2,bR 4 v2.1] [] trivial ?_
 refine yra ?_
 obtain rfl:=oi h
 exact ebr [(.p (vRt v2.1),4)]
theorem ygv {a0:Int}  {r:Int} (h:yjk a0=some r):Meets Tryz.prog 145 [wI a0] { vals:=[.p (iV r)] }:=by
 refine mo Tryz.func145 [pI 0 a0] ?_
 unfold yjk at h
 refine kG [pI 0 a0] [] trivial ?_
 refine yib (yja (kG [pI 0 a0,pB 3 (decide (a0>0))] [] trivial ?_))
 refine kI h (fun hc3_0 h=>?_) (fun hc3_0 h=>?_)
 ·refine kG [pI 2 1] [] trivial ?_
  refine yra (b_r (q_r ?_))
  obtain rfl:=oi h
  exact er [(.p (iV 1),2)]
 refine kG [pB 6 (decide (a0<0))] [] trivial ?_
 refine kI h (fun hc3_1 h=>?_) (fun hc3_1 h=>?_)
 ·refine kG [pI 2 (-1)] [] trivial ?_
  refine yra (b_r (q_r ?_))
  obtain rfl:=oi h
  exact er [(.p (iV (-1)),2)]
 refine yia (b_n (q_n (kG [pI 2 0] [] trivial ?_)))
 refine yra ?_
 obtain rfl:=oi h
 exact er [(.p (iV 0),2)]
theorem ybc {a0:Qr} {a1:Qr}  {r:Int} (h:yhb a0 a1=some r):Meets Tryz.prog 97 [.v (vRt a0),.v (vRt a1)] { vals:=[.p (iV r)] }:=by
 refine mo Tryz.func97 [(0,.p (vRt a0)),(1,.p (vRt a1))] ?_
 unfold yhb at h
 refine kG [bR 2 a0,bR 3 a1] [] trivial ?_
 obtain⟨v1,hv1,h⟩:=bs h
 refine kG [pI 4 v1] [hC 11 [.p (iV v1)]] (A1 (ygv hv1)) ?_
 refine yra ?_
 obtain rfl:=oi h
 exact er [(.p (iV v1),4)]
theorem ywm {a0:(List Qr)} {a1:Qr}  {r:(List Qr)} (h:ybf a0 a1=some r):MeetsB Tryz.prog 184 (.ov false [.sl (some 27) (a0.map eRt)]) [.v (vRt a1)] [rO 27 eRt r] (.u):=by
 refine mob Tryz.func184 [vL 0 27 eRt a0,(1,.p (vRt a1))] ?_
 unfold ybf at h
 refine kG [vL 0 27 eRt a0,bR 3 a1] [] trivial ?_
 refine kG [vL 0 27 eRt a0,bR 3 a1,pI 5 0] [] trivial ?_
 refine ywb (J:=fun (x:Int)=>[vL 0 27 eRt a0,bR 3 a1,pI 5 x]) (K:=fun x=>ygn a0 a1 x=some r) (fun x1 h=>?_) ?_
 ·unfold ygn at h
  refine yib ?_
  obtain⟨w3,hw3,h⟩:=bs h
  refine ylb (l1:=[vL 0 27 eRt a0,bR 3 a1,pI 5 x1,pB 32 w3]) ?_ ?_
  ·clear h
   rcases ft (decide (x1<(a0.length:Int))) with ha0 | ha0
   ·obtain⟨v2,hv2,hw3⟩:=bs (yon ha0 hw3)
    have hw3:=oi hw3
    subst hw3
    exact(r_dq yfa 10 [] [vL 0 27 eRt a0,bR 3 a1,pI 5 x1,pB 32 ((v2.1==a1.1)&&(v2.2==a1.2))] [hN 2 a0,(5,gT),(6,gT),(7,{g:=some true,row:=some (eRt v2)}),(8,{g:=some true,row:=some (eRt v2)}),(9,gT),(10,{g:=some true,pv:=some (.bool ((v2.1==a1.1)&&(v2.2==a1.2)))}),(11,bT)] (B6 (lF eRt a0) ha0 ha0 ha0 (yba hv2).1 (yda eRt (yba hv2).2) (A6 ha0 (gW 27 eRt hv2) ha0 ha0 (show PureAt Tryz.prog (.binOp .eql 27 (.tmp 29) (.tmp 30) 27) [vRt v2,vRt a1] (.bool ((v2.1==a1.1)&&(v2.2==a1.2))) from(yxb (by kernel_rfl))) ha0)))
   replace hw3:=ypn ha0 hw3
   have hw3:=oi hw3
   subst hw3
   exact(r_dq yfa 10 [] [vL 0 27 eRt a0,bR 3 a1,pI 5 x1,pB 32 false] [hN 2 a0,(5,gF),(6,gF),(7,gF),(8,gF),(9,gF),(10,gF),(11,bF)] (B6 (lF eRt a0) ha0 ha0 ha0 ha0 ha0 (A2 ha0 ha0)))
  refine kI h (fun hc2_3 h=>?_) (fun hc2_3 h=>?_)
  ·refine kG [vL 4 27 eRt a0] [] trivial ?_
   refine yra (q_r ?_)
   obtain rfl:=oi h
   exact ebr [(.ov false [.sl (some 27) (a0.map eRt)],4)]
  refine yia (q_n (ylb2 0 (g:=false) (cs:=[.sl (some 27) (a0.map eRt)]) [.sl none (a0.map eRt)] [dL 0 eRt a0,bR 3 a1,pI 5 x1,pB 32 w3] (ybs (ywa (yyx er_I er_I)) rfl) ?_))
  obtain⟨u5,hu5,h⟩:=bs h
  obtain⟨u6,hu6,h⟩:=bs h
  obtain⟨u7,hu7,h⟩:=bs h
  obtain⟨u8,hu8,h⟩:=bs h
  refine ylb (r_dq yfa 11 [(4,34),(7,38),(4096,34),(4097,38)] [vL 4 27 eRt (((a0.take (Int.toNat x1))++[a1])++(a0.drop (Int.toNat x1)))] [(3,{fix:=some (dL 37 eRt (a0.take (Int.toNat x1)))}),(6,{pre:=some (0,.u),fix:=some (dL 40 eRt ([a1]))}),(7,{fix:=some (vL 41 27 eRt ((a0.take (Int.toNat x1))++[a1]))}),(10,{fix:=some (dL 44 eRt (a0.drop (Int.toNat x1)))}),(11,{fix:=some (vL 45 27 eRt (((a0.take (Int.toNat x1))++[a1])++(a0.drop (Int.toNat x1))))})] (B6 (show 0<=(Int.toNat x1) from(by have hg:=(ycb hu5);first | (simp only[List.length_map];omega) | omega)) (show(Int.toNat x1)<=(a0.map eRt).length from(by have hg:=(ycb hu5);first | (simp only[List.length_map];omega) | omega)) (show ∀ row∈(a0.map eRt),row.length=2 from(ynb fun _=>rfl)) (show(0:Int)<=x1 from(by have hg:=(ycb hu5);omega)) (show(SV.d false [.sl none (((a0.map eRt).take (Int.toNat x1)).drop 0)]:SV)=.d false [.sl none ((a0.take (Int.toNat x1)).map eRt)] from(congrArg (fun z=>SV.d false [.sl none z]) yfb2)) (show List.length ([]:List (List C))+List.length (((a0.take (Int.toNat x1)).map eRt):List (List C))<=1099511627776 from(by have hg:=(ycb hu6);simpa using hg)) (B6 (show ∀ row∈(((a0.take (Int.toNat x1)).map eRt):List (List C)),row.length=2 from(ynb fun _=>rfl)) (show(SV.d false (eraR [.sl (some 27) (([a1]).map eRt)]):SV)=.d false [.sl none (([a1]).map eRt)] from(congrArg (fun z=>SV.d false z) (ybs (ywa (yyx er_I er_I)) rfl))) (lG' eRt hu7) (show ∀ row∈((([a1]).map eRt):List (List C)),row.length=2 from(ynb fun _=>rfl)) (aP' 27 eRt (a0.take (Int.toNat x1)) ([a1])) (show(Int.toNat x1)<=(a0.map eRt).length from(by have hg:=(ycb hu5);first | (simp only[List.length_map];omega) | omega)) (B6 (show(a0.map eRt).length<=(a0.map eRt).length from(Nat.le_refl _)) (show ∀ row∈(a0.map eRt),row.length=2 from(ynb fun _=>rfl)) (show(0:Int)<=x1 from(by have hg:=(ycb hu5);omega)) (show(SV.d false [.sl none (((a0.map eRt).take (a0.map eRt).length).drop (Int.toNat x1))]:SV)=.d false [.sl none ((a0.drop (Int.toNat x1)).map eRt)] from(congrArg (fun z=>SV.d false [.sl none z]) yxz1)) (lG' eRt hu8) (show ∀ row∈(((a0.drop (Int.toNat x1)).map eRt):List (List C)),row.length=2 from(ynb fun _=>rfl)) (A1 (aP' 27 eRt ((a0.take (Int.toNat x1))++[a1]) (a0.drop (Int.toNat x1)))))))) ?_
  refine yra ?_
  obtain rfl:=oi h
  exact ebr [(.ov false [.sl (some 27) ((((a0.take (Int.toNat x1))++[a1])++(a0.drop (Int.toNat x1))).map eRt)],4)]
 refine yja ?_
 obtain⟨y10,hl_x9,hk_x9⟩:=bs h
 clear h
 refine yfd (J:=fun (x:Int)=>[vL 0 27 eRt a0,bR 3 a1,pI 5 x]) hl_x9 wkk (fun x9 o_x9 h hy_x9=>?_)
 unfold yhn at h
 refine yib ?_
 obtain⟨w13,hw13,h⟩:=bs h
 refine ylb (l1:=[vL 0 27 eRt a0,bR 3 a1,pI 5 x9,pB 18 w13]) ?_ ?_
 ·clear h
  rcases ft (decide (x9<(a0.length:Int))) with ha0 | ha0
  ·obtain⟨v11,hv11,hw13⟩:=bs (yon ha0 hw13)
   obtain⟨v12,hv12,hw13⟩:=bs hw13
   have hw13:=oi hw13
   subst hw13
   exact(r_dq yfa 10 [] [vL 0 27 eRt a0,bR 3 a1,pI 5 x9,pB 18 (decide (v12<0))] [hN 2 a0,(5,gT),(6,gT),(7,{g:=some true,row:=some (eRt v11)}),(8,{g:=some true,row:=some (eRt v11)}),(9,gT),(10,{g:=some true,call:=some (none,[.p (iV v12)],true)}),(11,gT),(12,bT)] (B6 (lF eRt a0) ha0 ha0 ha0 (yba hv11).1 (yda eRt (yba hv11).2) (B6 ha0 (gW 27 eRt hv11) ha0 ha0 (ybc hv12) ha0 (A1 ha0))))
  replace hw13:=ypn ha0 hw13
  have hw13:=oi hw13
  subst hw13
  exact(r_dq yfa 10 [] [vL 0 27 eRt a0,bR 3 a1,pI 5 x9,pB 18 false] [hN 2 a0,(5,gF),(6,gF),(7,gF),(8,gF),(9,gF),(10,gF),(11,gF),(12,bF)] (B6 (lF eRt a0) ha0 ha0 ha0 ha0 ha0 (A3 ha0 ha0 ha0)))
 refine kI h (fun hc5_13 h=>?_) (fun hc5_13 h=>?_)
 ·refine yia (q_n (yja (yrc (r_gq [vL 0 27 eRt a0,bR 3 a1,pI 5 (w64 (x9+1))] [] trivial) ?_)))
  refine b_n ?_
  exact lqn (w64 (x9+1)) h
 refine yzc (q_x (lq_x (b_x ?_)))
 have hyy:=hy_x9 _ (oi h).symm
 subst hyy
 have h:=hk_x9
 refine q_n ?_
 exact jx x9 h
theorem yfu {a0:Cu} {a1:Int}  {r:((List Qp)×Cu)} (h:ybh a0 a1=some r):MeetsB Tryz.prog 186 (.box (eCu a0)) [wI a1] [.ov false (oP 85 r.1)] (.box (eCu r.2)):=by
 refine mob Tryz.func186 [bC 0 a0,pI 1 a1] ?_
 unfold ybh at h
 refine kG [bC 0 a0,pI 1 a1] [] trivial ?_
 obtain⟨v1,hv1,h⟩:=bs h
 refine kG [bC 0 v1.2,pI 1 a1,pI 5 v1.1] [(2,{lend:=some (some [.d false [.sl none (([0,1,1,2,3]).map eI)]],[.p (iV v1.1)],.box (eCu v1.2),false),fix:=some (dL 12 eI ([0,1,1,2,3]))})] (A3 (show([.d false [.sl none (eraL (([0,1,1,2,3]).map eI))]]:List Arg)=[.d false [.sl none (([0,1,1,2,3]).map eI)]] from(by simp only[ywa (h:=eI) er_I])) (yeb hv1) (show(SV.d false (eraR [.sl (some 3) (([0,1,1,2,3]).map eI)]):SV)=.d false [.sl none (([0,1,1,2,3]).map eI)] from(congrArg (fun z=>SV.d false z) (ybs (ywa er_I) rfl)))) ?_
 refine ywb (J:=fun (x:((List Int)×Int×Int×Int))=>[bC 0 (x.1,x.2.1,x.2.2.1),pI 1 a1,pI 5 x.2.2.2]) (K:=fun x=>yid a1 x=some r) (fun x2 h=>?_) ?_
 ·unfold yid at h
  obtain⟨v3,hv3,h⟩:=bs h
  obtain⟨v4,hv4,h⟩:=bs h
  refine kG [bC 0 (x2.1,x2.2.1,x2.2.2.1),pI 1 a1,pI 5 x2.2.2.2,vL 6 27 eRt ([v3,v4])] [hC 0 [.p (vRt v3)],hC 1 [.p (vRt v4)]] (A2 (yla hv3) (yla hv4)) ?_
  refine ywb (J:=fun (x:((List Int)×Int×Int×(List Qr)))=>[bC 0 (x.1,x.2.1,x.2.2.1),pI 1 a1,vL 6 27 eRt x.2.2.2]) (K:=fun x=>ysg a1 x=some r) (fun x5 h=>?_) ?_
  ·unfold ysg at h
   refine kG [bC 0 (x5.1,x5.2.1,x5.2.2.1),pI 1 a1,vL 6 27 eRt x5.2.2.2,vN 8 85] [] trivial ?_
   refine ywb (J:=fun (x:((List Int)×Int×Int×(List Qp)))=>[bC 0 (x.1,x.2.1,x.2.2.1),vP 8 85 x.2.2.2]) (K:=fun x=>ydk x=some r) (fun x6 h=>?_) ?_
   ·unfold ydk at h
    refine kG [bC 0 (x6.1,x6.2.1,x6.2.2.1),vP 4 85 x6.2.2.2] [] trivial ?_
    refine yra ?_
    obtain rfl:=oi h
    exact ebr [(.ov false (oP 85 x6.2.2.2),4)]
   refine kG [bC 0 (x5.1,x5.2.1,x5.2.2.1),pI 1 a1,vL 6 27 eRt x5.2.2.2,vN 8 85,rF 35 6,pL 36 x5.2.2.2,pI 37 0] [hN 1 x5.2.2.2] (A1 (lF eRt x5.2.2.2)) ?_
   refine yja ?_
   obtain⟨y8,hl_x7,hk_x7⟩:=bs h
   clear h
   refine yfd (J:=fun (x:((List Int)×Int×Int×(List Qp)×Int))=>[bC 0 (x.1,x.2.1,x.2.2.1),pI 1 a1,vL 6 27 eRt x5.2.2.2,vP 8 85 x.2.2.2.1,rF 35 6,pL 36 x5.2.2.2,pI 37 x.2.2.2.2]) hl_x7 wkk (fun x7 o_x7 h hy_x7=>?_)
   unfold yek at h
   refine kG [bC 0 (x7.1,x7.2.1,x7.2.2.1),pI 1 a1,vL 6 27 eRt x5.2.2.2,vP 8 85 x7.2.2.2.1,rF 35 6,pL 36 x5.2.2.2,pI 37 x7.2.2.2.2,pB 38 (decide (x7.2.2.2.2<(x5.2.2.2.length:Int)))] [] trivial ?_
   refine yib (kI h (fun hc5_8 h=>?_) (fun hc5_8 h=>?_))
   ·refine yia (q_n (yib (yja ?_)))
    obtain⟨v10,hv10,h⟩:=bs h
    refine kG [bC 0 (x7.1,x7.2.1,x7.2.2.1),pI 1 a1,vL 6 27 eRt x5.2.2.2,vP 8 85 x7.2.2.2.1,bR 10 v10,rF 35 6,pL 36 x5.2.2.2,pI 37 x7.2.2.2.2] [hR 0 (eRt v10),hR 1 (eRt v10)] (A3 (yba hv10).1 (yda eRt (yba hv10).2) (gW 27 eRt hv10)) ?_
    obtain⟨v11,hv11,h⟩:=bs h
    obtain⟨u12,hu12,h⟩:=bs h
    refine yrc (r_dq yfa 7 [(4,0)] [bC 0 v11.2,pI 1 a1,vL 6 27 eRt x5.2.2.2,vP 8 85 (x7.2.2.2.1++[(v10,v11.1)]),rF 35 6,pL 36 x5.2.2.2,pI 37 x7.2.2.2.2] [hF 4 [.p (vRt v11.1)] (.box (eCu v11.2)),(7,{fix:=some (vP 48 85 (x7.2.2.2.1++[(v10,v11.1)]))})] (A4 (ysf hv11) (lG' ePt hu12) (show ∀ row∈((([(v10,v11.1)]).map ePt):List (List C)),row.length=4 from(ynb fun _=>rfl)) (aP' 85 ePt x7.2.2.2.1 ([(v10,v11.1)])))) ?_
    refine b_n (q_n (yrc (r_gq [bC 0 v11.2,pI 1 a1,vL 6 27 eRt x5.2.2.2,vP 8 85 (x7.2.2.2.1++[(v10,v11.1)]),rF 35 6,pL 36 x5.2.2.2,pI 37 (w64 (x7.2.2.2.2+1))] [] trivial) ?_))
    exact lqn (v11.2.1,v11.2.2.1,v11.2.2.2,(x7.2.2.2.1++[(v10,v11.1)]),(w64 (x7.2.2.2.2+1))) h
   refine yzc (q_x (lq_x (b_x ?_)))
   have hyy:=hy_x7 _ (oi h).symm
   subst hyy
   have h:=hk_x7
   refine q_n ?_
   exact jx (x7.1,x7.2.1,x7.2.2.1,x7.2.2.2.1) h
  refine kG [bC 0 (x2.1,x2.2.1,x2.2.2.1),pI 1 a1,pI 5 x2.2.2.2,vL 6 27 eRt ([v3,v4]),pI 7 0] [] trivial ?_
  refine yja ?_
  obtain⟨y14,hl_x13,hk_x13⟩:=bs h
  clear h
  refine yfd (J:=fun (x:((List Int)×Int×Int×(List Qr)×Int))=>[bC 0 (x.1,x.2.1,x.2.2.1),pI 1 a1,pI 5 x2.2.2.2,vL 6 27 eRt x.2.2.2.1,pI 7 x.2.2.2.2]) hl_x13 wkk (fun x13 o_x13 h hy_x13=>?_)
  unfold yfk at h
  refine yib (ylb (l1:=[bC 0 (x13.1,x13.2.1,x13.2.2.1),pI 1 a1,pI 5 x2.2.2.2,vL 6 27 eRt x13.2.2.2.1,pI 7 x13.2.2.2.2,pB 27 ((decide ((x13.2.2.2.1.length:Int)<(w64 (x2.2.2.2+2))))&&(decide (x13.2.2.2.2<60)))]) ?_ ?_)
  ·rcases ft (decide ((x13.2.2.2.1.length:Int)<(w64 (x2.2.2.2+2)))) with ha0 | ha0
   ·exact RegOk.of_eq (r_gq [bC 0 (x13.1,x13.2.1,x13.2.2.1),pI 1 a1,pI 5 x2.2.2.2,vL 6 27 eRt x13.2.2.2.1,pI 7 x13.2.2.2.2,pB 27 (decide (x13.2.2.2.2<60))] [hN 1 x13.2.2.2.1,(6,gT),(7,gT),(8,bT)] (A4 (lF eRt x13.2.2.2.1) ha0 ha0 ha0)) (by simp[ha0])
   exact RegOk.of_eq (r_gq [bC 0 (x13.1,x13.2.1,x13.2.2.1),pI 1 a1,pI 5 x2.2.2.2,vL 6 27 eRt x13.2.2.2.1,pI 7 x13.2.2.2.2,pB 27 false] [hN 1 x13.2.2.2.1,(6,gF),(7,gF),(8,bF)] (A4 (lF eRt x13.2.2.2.1) ha0 ha0 ha0)) (by simp[ha0])
  refine kI h (fun hc5_14 h=>?_) (fun hc5_14 h=>?_)
  ·refine yia (q_n (yib (yja ?_)))
   obtain⟨v16,hv16,h⟩:=bs h
   obtain⟨v17,hv17,h⟩:=bs h
   refine yrc (r_gq [bC 0 v16.2,pI 1 a1,pI 5 x2.2.2.2,vL 6 27 eRt v17,pI 7 x13.2.2.2.2] [hF 3 [.p (vRt v16.1)] (.box (eCu v16.2)),(4,{lend:=some (none,[rO 27 eRt v17],.u,true)})] (A3 (ysf hv16) (ywm hv17) (sR' 27 v17))) ?_
   refine b_n (q_n (yrc (r_gq [bC 0 v16.2,pI 1 a1,pI 5 x2.2.2.2,vL 6 27 eRt v17,pI 7 (w64 (x13.2.2.2.2+1))] [] trivial) ?_))
   exact lqn (v16.2.1,v16.2.2.1,v16.2.2.2,v17,(w64 (x13.2.2.2.2+1))) h
  refine yzc (q_x (lq_x (b_x ?_)))
  have hyy:=hy_x13 _ (oi h).symm
  subst hyy
  have h:=hk_x13
  refine q_n ?_
  exact jx (x13.1,x13.2.1,x13.2.2.1,x13.2.2.2.1) h
 obtain⟨v18,hv18,h⟩:=bs h
 refine kG [bC 0 v18.2,pI 1 a1,pI 5 v1.1,pB 15 v18.1] [hF 1 [.p (.bool v18.1)] (.box (eCu v18.2))] (A1 (yad hv18)) ?_
 refine kI h (fun hc2_18 h=>?_) (fun hc2_18 h=>?_)
 ·refine yrc (r_gq [bC 0 v18.2,pI 1 a1,pI 5 10] [] trivial) ?_
  refine q_n ?_
  exact jx (v18.2.1,v18.2.2.1,v18.2.2.2,10) h
 refine yia (q_n ?_)
 exact jx (v18.2.1,v18.2.2.1,v18.2.2.2,v1.1) h
theorem yvz {a0:Cu}  {r:((List Qp)×Cu)} (h:yin a0=some r):MeetsB Tryz.prog 154 (.box (eCu a0)) [] [.ov false (oP 85 r.1)] (.box (eCu r.2)):=by
 refine mob Tryz.func154 [bC 0 a0] ?_
 unfold yin at h
 refine kG [bC 0 a0] [] trivial ?_
 obtain⟨v1,hv1,h⟩:=bs h
 refine kG [bC 0 v1.2,pI 3 v1.1] [(2,{lend:=some (some [.d false [.sl none (([1,2,2,3,4,4,6,12,100]).map eI)]],[.p (iV v1.1)],.box (eCu v1.2),false),fix:=some (dL 10 eI ([1,2,2,3,4,4,6,12,100]))})] (A3 (show([.d false [.sl none (eraL (([1,2,2,3,4,4,6,12,100]).map eI))]]:List Arg)=[.d false [.sl none (([1,2,2,3,4,4,6,12,100]).map eI)]] from(by simp only[ywa (h:=eI) er_I])) (yeb hv1) (show(SV.d false (eraR [.sl (some 3) (([1,2,2,3,4,4,6,12,100]).map eI)]):SV)=.d false [.sl none (([1,2,2,3,4,4,6,12,100]).map eI)] from(congrArg (fun z=>SV.d false z) (ybs (ywa er_I) rfl)))) ?_
 obtain⟨v2,hv2,h⟩:=bs h
 refine kG [bC 0 v2.2,pI 3 v1.1,vP 4 85 v2.1] [hF 2 [.ov false (oP 85 v2.1)] (.box (eCu v2.2))] (A1 (yfu hv2)) ?_
 refine ywb (J:=fun (x:((List Int)×Int×Int×(List Qp)))=>[bC 0 (x.1,x.2.1,x.2.2.1),vP 4 85 x.2.2.2]) (K:=fun x=>yfe x=some r) (fun x3 h=>?_) ?_
 ·unfold yfe at h
  refine kG [bC 0 (x3.1,x3.2.1,x3.2.2.1),vP 2 85 x3.2.2.2] [] trivial ?_
  refine yra ?_
  obtain rfl:=oi h
  exact ebr [(.ov false (oP 85 x3.2.2.2),2)]
 obtain⟨v4,hv4,h⟩:=bs h
 refine kG [bC 0 v4.2,pI 3 v1.1,vP 4 85 v2.1,pB 16 v4.1] [hF 1 [.p (.bool v4.1)] (.box (eCu v4.2))] (A1 (yad hv4)) ?_
 refine kI h (fun hc2_4 h=>?_) (fun hc2_4 h=>?_)
 ·obtain⟨v6,hv6,h⟩:=bs h
  refine kG [bC 0 v6.2,pI 3 v1.1,pI 5 v6.1] [(2,{lend:=some (some [.d false [.sl none (([2,2,3,4]).map eI)]],[.p (iV v6.1)],.box (eCu v6.2),false),fix:=some (dL 18 eI ([2,2,3,4]))})] (A3 (show([.d false [.sl none (eraL (([2,2,3,4]).map eI))]]:List Arg)=[.d false [.sl none (([2,2,3,4]).map eI)]] from(by simp only[ywa (h:=eI) er_I])) (yeb hv6) (show(SV.d false (eraR [.sl (some 3) (([2,2,3,4]).map eI)]):SV)=.d false [.sl none (([2,2,3,4]).map eI)] from(congrArg (fun z=>SV.d false z) (ybs (ywa er_I) rfl)))) ?_
  refine kG [bC 0 v6.2,pI 3 v1.1,vN 4 85,pI 5 v6.1] [] trivial ?_
  refine ywb (J:=fun (x:(List Qp))=>[bC 0 v6.2,pI 3 v1.1,vP 4 85 x]) (K:=fun x=>yel v1 v6 x=some r) (fun x7 h=>?_) ?_
  ·unfold yel at h
   obtain⟨v8,hv8,h⟩:=bs h
   refine kG [bC 0 v8.2,pI 3 v1.1,vP 4 85 x7,pB 40 v8.1] [hF 1 [.p (.bool v8.1)] (.box (eCu v8.2))] (A1 (yad hv8)) ?_
   refine kI h (fun hc2_8 h=>?_) (fun hc2_8 h=>?_)
   ·obtain⟨v10,hv10,h⟩:=bs h
    obtain⟨v11,hv11,h⟩:=bs h
    refine yrc (r_gq [bC 0 v10.2,vP 4 85 (x7.set (Int.toNat 1) (v11.1,v10.1))] [hF 3 [.p (vRt v10.1)] (.box (eCu v10.2)),hR 4 (ePt v11),(6,{row:=some (eRt v11.2),fix:=some (vP 4 85 (x7.set (Int.toNat 1) (v11.1,v10.1)))})] (A5 (ysf hv10) (yba hv11).1 (yda ePt (yba hv11).2) (show getRow [(oP 85 x7)] [(0,0),((Int.toNat 1),2)]=some (eRt v11.2) from((gr0 rfl).trans (gre (yda ePt (yba hv11).2)))) (show(SV.ov false [.sl (some 85) (setL (x7.map ePt) [((Int.toNat 1),2)] (eRt v10.1))]:SV)=.ov false (oP 85 (x7.set (Int.toNat 1) (v11.1,v10.1))) from(congrArg (fun z=>SV.ov false [.sl (some 85) z]) (set1 (f:=ePt) (y:=(v11.1,v10.1)) (yba hv11).2 rfl))))) ?_
    refine q_n ?_
    exact jx (v10.2.1,v10.2.2.1,v10.2.2.2,(x7.set (Int.toNat 1) (v11.1,v10.1))) h
   refine yia (q_n ?_)
   exact jx (v8.2.1,v8.2.2.1,v8.2.2.2,x7) h
  refine kG [bC 0 v6.2,pI 3 v1.1,vN 4 85,pI 5 v6.1,pI 6 0] [] trivial ?_
  refine yja ?_
  obtain⟨y13,hl_x12,hk_x12⟩:=bs h
  clear h
  refine yfd (J:=fun (x:((List Qp)×Int))=>[bC 0 v6.2,pI 3 v1.1,vP 4 85 x.1,pI 5 v6.1,pI 6 x.2]) hl_x12 wkk (fun x12 o_x12 h hy_x12=>?_)
  unfold yvo at h
  refine yib (kG [bC 0 v6.2,pI 3 v1.1,vP 4 85 x12.1,pI 5 v6.1,pI 6 x12.2,pB 22 (decide (x12.2<=v6.1))] [] trivial ?_)
  refine kI h (fun hc6_13 h=>?_) (fun hc6_13 h=>?_)
  ·refine yia (q_n (yib (yja ?_)))
   obtain⟨v15,hv15,h⟩:=bs h
   refine kG [bC 0 v6.2,pI 3 v1.1,vP 4 85 x12.1,pI 5 v6.1,pI 6 x12.2,bR 7 v15.1] [hC 2 [.p (vRt v15.1),.p (.bool v15.2)]] (A1 (yyb hv15)) ?_
   obtain⟨v16,hv16,h⟩:=bs h
   obtain⟨u17,hu17,h⟩:=bs h
   refine yrc (r_dq yfa 7 [] [bC 0 v6.2,pI 3 v1.1,vP 4 85 (x12.1++[(v15.1,v16)]),pI 5 v6.1,pI 6 x12.2] [hC 4 [.p (vRt v16)],(7,{fix:=some (vP 38 85 (x12.1++[(v15.1,v16)]))})] (A5 (show 2≠(0:Int) from(by decide)) (yla hv16) (lG' ePt hu17) (show ∀ row∈((([(v15.1,v16)]).map ePt):List (List C)),row.length=4 from(ynb fun _=>rfl)) (aP' 85 ePt x12.1 ([(v15.1,v16)])))) ?_
   refine b_n (q_n (yrc (r_gq [bC 0 v6.2,pI 3 v1.1,vP 4 85 (x12.1++[(v15.1,v16)]),pI 5 v6.1,pI 6 (w64 (x12.2+1))] [] trivial) ?_))
   exact lqn ((x12.1++[(v15.1,v16)]),(w64 (x12.2+1))) h
  refine yzc (q_x (lq_x (b_x ?_)))
  have hyy:=hy_x12 _ (oi h).symm
  subst hyy
  have h:=hk_x12
  refine q_n ?_
  exact jx x12.1 h
 refine yia (q_n ?_)
 exact jx (v4.2.1,v4.2.2.1,v4.2.2.2,v2.1) h
theorem yjy {a0:Cu}  {r:(Qr×Cu)} (h:yfl a0=some r):MeetsB Tryz.prog 157 (.box (eCu a0)) [] [.p (vRt r.1)] (.box (eCu r.2)):=by
 refine mob Tryz.func157 [bC 0 a0] ?_
 unfold yfl at h
 refine kG [bC 0 a0,bX 2 zR] [] trivial ?_
 obtain⟨v1,hv1,h⟩:=bs h
 obtain⟨v2,hv2,h⟩:=bs h
 obtain⟨v3,hv3,h⟩:=bs h
 obtain⟨v4,hv4,h⟩:=bs h
 obtain⟨v5,hv5,h⟩:=bs h
 obtain⟨v6,hv6,h⟩:=bs h
 obtain⟨v7,hv7,h⟩:=bs h
 refine kG [bC 0 v6.2,bX 2 zR,bR 3 v7.1,pB 4 v7.2] [hF 2 [.p (iV v1.1)] (.box (eCu v1.2)),hF 5 [.p (iV v2.1)] (.box (eCu v2.2)),(8,{lend:=some (some [.d false [.sl none (([0,1,2,3,(-1),(-5),(w64 (v1.1-20)),(w64 (v2.1-1000)),1000000000,(-1000000000)]).map eI)]],[.p (iV v3.1)],.box (eCu v3.2),false),fix:=some (dL 13 eI ([0,1,2,3,(-1),(-5),(w64 (v1.1-20)),(w64 (v2.1-1000)),1000000000,(-1000000000)]))}),hF 11 [.p (iV v4.1)] (.box (eCu v4.2)),hF 14 [.p (iV v5.1)] (.box (eCu v5.2)),(17,{lend:=some (some [.d false [.sl none (([1,2,3,4,8,7,(w64 (1+v4.1)),(w64 (1+v5.1)),1000000000,999999999]).map eI)]],[.p (iV v6.1)],.box (eCu v6.2),false),fix:=some (dL 22 eI ([1,2,3,4,8,7,(w64 (1+v4.1)),(w64 (1+v5.1)),1000000000,999999999]))}),hC 18 [.p (vRt v7.1),.p (.bool v7.2)]] (B6 (ydb hv1) (ydb hv2) (show([.d false [.sl none (eraL (([0,1,2,3,(-1),(-5),(w64 (v1.1-20)),(w64 (v2.1-1000)),1000000000,(-1000000000)]).map eI))]]:List Arg)=[.d false [.sl none (([0,1,2,3,(-1),(-5),(w64 (v1.1-20)),(w64 (v2.1-1000)),1000000000,(-1000000000)]).map eI)]] from(by simp only[ywa (h:=eI) er_I])) (yeb hv3) (show(SV.d false (eraR [.sl (some 3) (([0,1,2,3,(-1),(-5),(w64 (v1.1-20)),(w64 (v2.1-1000)),1000000000,(-1000000000)]).map eI)]):SV)=.d false [.sl none (([0,1,2,3,(-1),(-5),(w64 (v1.1-20)),(w64 (v2.1-1000)),1000000000,(-1000000000)]).map eI)] from(congrArg (fun z=>SV.d false z) (ybs (ywa er_I) rfl))) (ydb hv4) (A5 (ydb hv5) (show([.d false [.sl none (eraL (([1,2,3,4,8,7,(w64 (1+v4.1)),(w64 (1+v5.1)),1000000000,999999999]).map eI))]]:List Arg)=[.d false [.sl none (([1,2,3,4,8,7,(w64 (1+v4.1)),(w64 (1+v5.1)),1000000000,999999999]).map eI)]] from(by simp only[ywa (h:=eI) er_I])) (yeb hv6) (show(SV.d false (eraR [.sl (some 3) (([1,2,3,4,8,7,(w64 (1+v4.1)),(w64 (1+v5.1)),1000000000,999999999]).map eI)]):SV)=.d false [.sl none (([1,2,3,4,8,7,(w64 (1+v4.1)),(w64 (1+v5.1)),1000000000,999999999]).map eI)] from(congrArg (fun z=>SV.d false z) (ybs (ywa er_I) rfl))) (yyb hv7))) ?_
 refine yib (kG [bC 0 v6.2,bX 2 zR,bR 3 v7.1,pB 28 (!v7.2)] [] trivial ?_)
 refine kI h (fun hc2_7 h=>?_) (fun hc2_7 h=>?_)
 ·obtain⟨v9,hv9,h⟩:=bs h
  refine kG [bC 0 v6.2,bR 2 v9] [hC 0 [.p (vRt v9)]] (A1 (yla hv9)) ?_
  refine yra (q_r ?_)
  obtain rfl:=oi h
  exact ebr [(.p (vRt v9),2)]
 refine yia (q_n (kG [bC 0 v6.2,bR 2 v7.1] [] trivial ?_))
 refine yra ?_
 obtain rfl:=oi h
 exact ebr [(.p (vRt v7.1),2)]
theorem ylo {a0:Cu}  {r:(Qr×Cu)} (h:ype a0=some r):MeetsB Tryz.prog 114 (.box (eCu a0)) [] [.p (vRt r.1)] (.box (eCu r.2)):=by
 refine mob Tryz.func114 [bC 0 a0] ?_
 unfold ype at h
 refine kG [bC 0 a0,bX 2 zR] [] trivial ?_
 obtain⟨v1,hv1,h⟩:=bs h
 refine kG [bC 0 v1.2,bX 2 zR,bR 3 v1.1] [hF 1 [.p (vRt v1.1)] (.box (eCu v1.2))] (A1 (yjy hv1)) ?_
 refine yib ?_
 obtain⟨v2,hv2,h⟩:=bs h
 refine kG [bC 0 v2.2,bX 2 zR,bR 3 v1.1,pI 7 v2.1] [hF 1 [.p (iV v2.1)] (.box (eCu v2.2))] (A1 (ydb hv2)) ?_
 refine yja (kG [bC 0 v2.2,bX 2 zR,bR 3 v1.1,pI 7 v2.1,pB 8 (v2.1==0)] [] trivial ?_)
 refine kI h (fun hc3_2 h=>?_) (fun hc3_2 h=>?_)
 ·obtain⟨v4,hv4,h⟩:=bs h
  refine yrc (r_gq [bC 0 v4.2,bX 2 zR,bX 3 [rI v1.1.1,rI v4.1]] [(2,{lend:=some (some [.d false [.sl none (([0,(-1),1000000001]).map eI)]],[.p (iV v4.1)],.box (eCu v4.2),false),fix:=some (dL 11 eI ([0,(-1),1000000001]))})] (A3 (show([.d false [.sl none (eraL (([0,(-1),1000000001]).map eI))]]:List Arg)=[.d false [.sl none (([0,(-1),1000000001]).map eI)]] from(by simp only[ywa (h:=eI) er_I])) (yeb hv4) (show(SV.d false (eraR [.sl (some 3) (([0,(-1),1000000001]).map eI)]):SV)=.d false [.sl none (([0,(-1),1000000001]).map eI)] from(congrArg (fun z=>SV.d false z) (ybs (ywa er_I) rfl))))) ?_
  refine b_n (q_n (kG [bC 0 v4.2,bX 2 [rI v1.1.1,rI v4.1]] [] trivial ?_))
  refine yra ?_
  obtain rfl:=oi h
  exact ebr [(.p (.agg #[.int .i64 v1.1.1,.int .i64 v4.1]),2)]
 refine kG [bC 0 v2.2,bX 2 zR,bR 3 v1.1,pI 7 v2.1,pB 14 (v2.1==1)] [] trivial ?_
 refine kI h (fun hc3_4 h=>?_) (fun hc3_4 h=>?_)
 ·obtain⟨v6,hv6,h⟩:=bs h
  refine yrc (r_gq [bC 0 v6.2,bX 2 zR,bX 3 [rI v6.1,rI v1.1.2]] [(2,{lend:=some (some [.d false [.sl none (([1000000001,(-1000000001),(-9223372036854775808)]).map eI)]],[.p (iV v6.1)],.box (eCu v6.2),false),fix:=some (dL 17 eI ([1000000001,(-1000000001),(-9223372036854775808)]))})] (A3 (show([.d false [.sl none (eraL (([1000000001,(-1000000001),(-9223372036854775808)]).map eI))]]:List Arg)=[.d false [.sl none (([1000000001,(-1000000001),(-9223372036854775808)]).map eI)]] from(by simp only[ywa (h:=eI) er_I])) (yeb hv6) (show(SV.d false (eraR [.sl (some 3) (([1000000001,(-1000000001),(-9223372036854775808)]).map eI)]):SV)=.d false [.sl none (([1000000001,(-1000000001),(-9223372036854775808)]).map eI)] from(congrArg (fun z=>SV.d false z) (ybs (ywa er_I) rfl))))) ?_
  refine b_n (q_n (kG [bC 0 v6.2,bX 2 [rI v6.1,rI v1.1.2]] [] trivial ?_))
  refine yra ?_
  obtain rfl:=oi h
  exact ebr [(.p (.agg #[.int .i64 v6.1,.int .i64 v1.1.2]),2)]
 refine kG [bC 0 v2.2,bX 2 zR,bR 3 v1.1,pB 20 (v2.1==2)] [] trivial ?_
 refine kI h (fun hc3_6 h=>?_) (fun hc3_6 h=>?_)
 ·obtain⟨v8,hv8,h⟩:=bs h
  obtain⟨v9,hv9,h⟩:=bs h
  refine yrc (r_gq [bC 0 v9.2,bX 2 zR,bX 3 [rI v8.1,rI v9.1]] [(2,{lend:=some (some [.d false [.sl none (([2,0,(-4)]).map eI)]],[.p (iV v8.1)],.box (eCu v8.2),false),fix:=some (dL 23 eI ([2,0,(-4)]))}),(5,{lend:=some (some [.d false [.sl none (([2,4,6]).map eI)]],[.p (iV v9.1)],.box (eCu v9.2),false),fix:=some (dL 26 eI ([2,4,6]))})] (A6 (show([.d false [.sl none (eraL (([2,0,(-4)]).map eI))]]:List Arg)=[.d false [.sl none (([2,0,(-4)]).map eI)]] from(by simp only[ywa (h:=eI) er_I])) (yeb hv8) (show(SV.d false (eraR [.sl (some 3) (([2,0,(-4)]).map eI)]):SV)=.d false [.sl none (([2,0,(-4)]).map eI)] from(congrArg (fun z=>SV.d false z) (ybs (ywa er_I) rfl))) (show([.d false [.sl none (eraL (([2,4,6]).map eI))]]:List Arg)=[.d false [.sl none (([2,4,6]).map eI)]] from(by simp only[ywa (h:=eI) er_I])) (yeb hv9) (show(SV.d false (eraR [.sl (some 3) (([2,4,6]).map eI)]):SV)=.d false [.sl none (([2,4,6]).map eI)] from(congrArg (fun z=>SV.d false z) (ybs (ywa er_I) rfl))))) ?_
  refine b_n (q_n (kG [bC 0 v9.2,bX 2 [rI v8.1,rI v9.1]] [] trivial ?_))
  refine yra ?_
  obtain rfl:=oi h
  exact ebr [(.p (.agg #[.int .i64 v8.1,.int .i64 v9.1]),2)]
 refine yia (b_n (q_n (kG [bC 0 v2.2,bR 2 v1.1] [] trivial ?_)))
 refine yra ?_
 obtain rfl:=oi h
 exact ebr [(.p (vRt v1.1),2)]
theorem yjp {a0:Cu}  {r:((List Qp)×Cu)} (h:ywf a0=some r):MeetsB Tryz.prog 104 (.box (eCu a0)) [] [.ov false (oP 85 r.1)] (.box (eCu r.2)):=by
 refine mob Tryz.func104 [bC 0 a0] ?_
 unfold ywf at h
 refine kG [bC 0 a0] [] trivial ?_
 obtain⟨v1,hv1,h⟩:=bs h
 refine kG [bC 0 v1.2,vP 3 85 v1.1] [hF 1 [.ov false (oP 85 v1.1)] (.box (eCu v1.2))] (A1 (yvz hv1)) ?_
 obtain⟨v2,hv2,h⟩:=bs h
 obtain⟨v3,hv3,h⟩:=bs h
 refine kG [bC 0 v2.2,vP 3 85 v1.1,(4,.addr 3 [(0,0),((Int.toNat v2.1),0)])] [hN 3 v1.1,hF 4 [.p (iV v2.1)] (.box (eCu v2.2)),hR 5 (ePt v3)] (A4 (lnP v1.1) (ydb hv2) (yba hv3).1 (yda ePt (yba hv3).2)) ?_
 refine ywb (J:=fun (x:((List Int)×Int×Int×(List Qp)))=>[bC 0 (x.1,x.2.1,x.2.2.1),vP 3 85 x.2.2.2]) (K:=fun x=>yrb x=some r) (fun x4 h=>?_) ?_
 ·unfold yrb at h
  refine kG [bC 0 (x4.1,x4.2.1,x4.2.2.1),vP 2 85 x4.2.2.2] [] trivial ?_
  refine yra ?_
  obtain rfl:=oi h
  exact ebr [(.ov false (oP 85 x4.2.2.2),2)]
 obtain⟨v5,hv5,h⟩:=bs h
 refine kG [bC 0 v5.2,vP 3 85 v1.1,(4,.addr 3 [(0,0),((Int.toNat v2.1),0)]),pI 16 v5.1] [hF 1 [.p (iV v5.1)] (.box (eCu v5.2))] (A1 (ydb hv5)) ?_
 refine yja (kG [bC 0 v5.2,vP 3 85 v1.1,(4,.addr 3 [(0,0),((Int.toNat v2.1),0)]),pI 16 v5.1,pB 17 (v5.1==0)] [] trivial ?_)
 refine kI h (fun hc3_5 h=>?_) (fun hc3_5 h=>?_)
 ·obtain⟨v7,hv7,h⟩:=bs h
  refine yrc (r_gq [bC 0 v7.2,vP 3 85 (v1.1.set (Int.toNat v2.1) (v7.1,v3.2))] [hF 2 [.p (vRt v7.1)] (.box (eCu v7.2)),(5,{row:=some (ePt v3),fix:=some (vP 3 85 (v1.1.set (Int.toNat v2.1) (v7.1,v3.2)))})] (A3 (ylo hv7) (gW 85 ePt hv3) (show(SV.ov false [.sl (some 85) (setL (v1.1.map ePt) [((Int.toNat v2.1),0)] (eRt v7.1))]:SV)=.ov false (oP 85 (v1.1.set (Int.toNat v2.1) (v7.1,v3.2))) from(congrArg (fun z=>SV.ov false [.sl (some 85) z]) (set1 (f:=ePt) (y:=(v7.1,v3.2)) (yba hv3).2 rfl))))) ?_
  refine b_n (q_n ?_)
  exact jx (v7.2.1,v7.2.2.1,v7.2.2.2,(v1.1.set (Int.toNat v2.1) (v7.1,v3.2))) h
 refine kG [bC 0 v5.2,vP 3 85 v1.1,(4,.addr 3 [(0,0),((Int.toNat v2.1),0)]),pI 16 v5.1,pB 24 (v5.1==1)] [] trivial ?_
 refine kI h (fun hc3_7 h=>?_) (fun hc3_7 h=>?_)
 ·obtain⟨v9,hv9,h⟩:=bs h
  refine yrc (r_gq [bC 0 v9.2,vP 3 85 (v1.1.set (Int.toNat v2.1) (v3.1,v9.1))] [hF 2 [.p (vRt v9.1)] (.box (eCu v9.2)),(5,{row:=some (eRt v3.2),fix:=some (vP 3 85 (v1.1.set (Int.toNat v2.1) (v3.1,v9.1)))})] (A3 (ylo hv9) (show getRow [(oP 85 v1.1)] [(0,0),((Int.toNat v2.1),2)]=some (eRt v3.2) from((gr0 rfl).trans (gre (yda ePt (yba hv3).2)))) (show(SV.ov false [.sl (some 85) (setL (v1.1.map ePt) [((Int.toNat v2.1),2)] (eRt v9.1))]:SV)=.ov false (oP 85 (v1.1.set (Int.toNat v2.1) (v3.1,v9.1))) from(congrArg (fun z=>SV.ov false [.sl (some 85) z]) (set1 (f:=ePt) (y:=(v3.1,v9.1)) (yba hv3).2 rfl))))) ?_
  refine b_n (q_n ?_)
  exact jx (v9.2.1,v9.2.2.1,v9.2.2.2,(v1.1.set (Int.toNat v2.1) (v3.1,v9.1))) h
 refine kG [bC 0 v5.2,vP 3 85 v1.1,(4,.addr 3 [(0,0),((Int.toNat v2.1),0)]),pI 16 v5.1,pB 31 (v5.1==2)] [] trivial ?_
 refine kI h (fun hc3_9 h=>?_) (fun hc3_9 h=>?_)
 ·obtain⟨v11,hv11,h⟩:=bs h
  obtain⟨v12,hv12,h⟩:=bs h
  refine yrc (r_gq [bC 0 v11.2,vP 3 85 (v1.1.set (Int.toNat v2.1) (v3.1,v12.1))] [hF 2 [.p (iV v11.1)] (.box (eCu v11.2)),hC 3 [.p (vRt v12.1),.p (.bool v12.2)],(9,{row:=some (eRt v3.2),fix:=some (vP 3 85 (v1.1.set (Int.toNat v2.1) (v3.1,v12.1)))})] (A4 (ydb hv11) (yyb hv12) (show getRow [(oP 85 v1.1)] [(0,0),((Int.toNat v2.1),2)]=some (eRt v3.2) from((gr0 rfl).trans (gre (yda ePt (yba hv3).2)))) (show(SV.ov false [.sl (some 85) (setL (v1.1.map ePt) [((Int.toNat v2.1),2)] (eRt v12.1))]:SV)=.ov false (oP 85 (v1.1.set (Int.toNat v2.1) (v3.1,v12.1))) from(congrArg (fun z=>SV.ov false [.sl (some 85) z]) (set1 (f:=ePt) (y:=(v3.1,v12.1)) (yba hv3).2 rfl))))) ?_
  refine b_n (q_n ?_)
  exact jx (v11.2.1,v11.2.2.1,v11.2.2.2,(v1.1.set (Int.toNat v2.1) (v3.1,v12.1))) h
 refine kG [bC 0 v5.2,vP 3 85 v1.1,pI 16 v5.1,pB 42 (v5.1==3)] [] trivial ?_
 refine kI h (fun hc3_12 h=>?_) (fun hc3_12 h=>?_)
 ·obtain⟨u14,hu14,h⟩:=bs h
  refine yrc (r_gq [bC 0 v5.2,vL 3 85 ePt (v1.1.take (Int.toNat (w64 ((v1.1.length:Int)-1))))] [hN 2 v1.1,(4,{fix:=some (vL 48 85 ePt (v1.1.take (Int.toNat (w64 ((v1.1.length:Int)-1)))))})] (A4 (lnP v1.1) (ycb hu14).1 (show(w64 ((v1.1.length:Int)-1))<=(List.length (v1.1.map ePt):Int) from(by have hg:=(ycb hu14).2;simpa using hg)) (show(SV.ov false [.sl (some 85) ((v1.1.map ePt).take (Int.toNat (w64 ((v1.1.length:Int)-1))))]:SV)=.ov false [.sl (some 85) ((v1.1.take (Int.toNat (w64 ((v1.1.length:Int)-1)))).map ePt)] from(congrArg (fun z=>SV.ov false [.sl (some 85) z]) (List.map_take ..).symm)))) ?_
  refine b_n (q_n ?_)
  exact jx (v5.2.1,v5.2.2.1,v5.2.2.2,(v1.1.take (Int.toNat (w64 ((v1.1.length:Int)-1))))) h
 refine kG [bC 0 v5.2,vP 3 85 v1.1,pB 49 (v5.1==4)] [] trivial ?_
 refine kI h (fun hc3_14 h=>?_) (fun hc3_14 h=>?_)
 ·refine kG [bC 0 v5.2,vN 3 85] [] trivial ?_
  refine yja ?_
  obtain⟨y17,hl_x16,hk_x16⟩:=bs h
  clear h
  refine yfd (J:=fun (x:(List Qp))=>[bC 0 v5.2,vP 3 85 x]) hl_x16 wkk (fun x16 o_x16 h hy_x16=>?_)
  unfold ygl at h
  refine yib (kG [bC 0 v5.2,vP 3 85 x16,pB 53 (decide ((x16.length:Int)<13))] [hN 1 x16] (A1 (lnP x16)) ?_)
  refine kI h (fun hc6_17 h=>?_) (fun hc6_17 h=>?_)
  ·refine yia (q_n (yja ?_))
   obtain⟨v19,hv19,h⟩:=bs h
   refine kG [bC 0 v5.2,vP 3 85 x16,bR 5 v19.1] [hN 1 x16,hC 2 [.p (vRt v19.1),.p (.bool v19.2)]] (A2 (lnP x16) (yyb hv19)) ?_
   obtain⟨v20,hv20,h⟩:=bs h
   obtain⟨u21,hu21,h⟩:=bs h
   refine yrc (r_dq yfa 5 [] [bC 0 v5.2,vP 3 85 (x16++[(v19.1,v20)])] [hC 2 [.p (vRt v20)],(5,{fix:=some (vP 65 85 (x16++[(v19.1,v20)]))})] (A4 (yla hv20) (lG' ePt hu21) (show ∀ row∈((([(v19.1,v20)]).map ePt):List (List C)),row.length=4 from(ynb fun _=>rfl)) (aP' 85 ePt x16 ([(v19.1,v20)])))) ?_
   refine b_n ?_
   exact lqn (x16++[(v19.1,v20)]) h
  refine yzc (q_x (lq_x (b_x (b_n ?_))))
  have hyy:=hy_x16 _ (oi h).symm
  subst hyy
  have h:=hk_x16
  refine q_n ?_
  exact jx (v5.2.1,v5.2.2.1,v5.2.2.2,x16) h
 refine yia (b_n (q_n ?_))
 exact jx (v5.2.1,v5.2.2.1,v5.2.2.2,v1.1) h
theorem ywz {a0:Qr}  {r:Qr} (h:ypp a0=some r):Meets Tryz.prog 146 [.v (vRt a0)] { vals:=[.p (vRt r)] }:=by
 refine mo Tryz.func146 [(0,.p (vRt a0))] ?_
 unfold ypp at h
 refine kG [bR 1 a0,bX 2 zR] [] trivial ?_
 refine kG [bX 2 [rI (w64 (a0.2-a0.1)),rI a0.2]] [] trivial ?_
 refine yra ?_
 obtain rfl:=oi h
 exact er [(.p (.agg #[.int .i64 (w64 (a0.2-a0.1)),.int .i64 a0.2]),2)]
theorem ykh {a0:Cu}  {r:((List Qp)×Cu)} (h:ylc a0=some r):MeetsB Tryz.prog 98 (.box (eCu a0)) [] [.ov false (oP 85 r.1)] (.box (eCu r.2)):=by
 refine mob Tryz.func98 [bC 0 a0] ?_
 unfold ylc at h
 refine kG [bC 0 a0] [] trivial ?_
 refine yib ?_
 obtain⟨v1,hv1,h⟩:=bs h
 refine kG [bC 0 v1.2,pB 17 v1.1] [hF 1 [.p (.bool v1.1)] (.box (eCu v1.2))] (A1 (yad hv1)) ?_
 refine kI h (fun hc2_1 h=>?_) (fun hc2_1 h=>?_)
 ·obtain⟨v3,hv3,h⟩:=bs h
  refine kG [bC 0 v3.2,vP 2 85 v3.1] [hF 1 [.ov false (oP 85 v3.1)] (.box (eCu v3.2))] (A1 (yjp hv3)) ?_
  refine yra (q_r ?_)
  obtain rfl:=oi h
  exact ebr [(.ov false (oP 85 v3.1),2)]
 refine yia (q_n ?_)
 obtain⟨v4,hv4,h⟩:=bs h
 refine kG [bC 0 v4.2,pI 3 v4.1] [(2,{lend:=some (some [.d false [.sl none (([2,3,4,4,6]).map eI)]],[.p (iV v4.1)],.box (eCu v4.2),false),fix:=some (dL 21 eI ([2,3,4,4,6]))})] (A3 (show([.d false [.sl none (eraL (([2,3,4,4,6]).map eI))]]:List Arg)=[.d false [.sl none (([2,3,4,4,6]).map eI)]] from(by simp only[ywa (h:=eI) er_I])) (yeb hv4) (show(SV.d false (eraR [.sl (some 3) (([2,3,4,4,6]).map eI)]):SV)=.d false [.sl none (([2,3,4,4,6]).map eI)] from(congrArg (fun z=>SV.d false z) (ybs (ywa er_I) rfl)))) ?_
 refine kG [bC 0 v4.2,pI 3 v4.1,vN 4 85] [] trivial ?_
 refine ywb (J:=fun (x:((List Int)×Int×Int×(List Qp)))=>[bC 0 (x.1,x.2.1,x.2.2.1),vP 4 85 x.2.2.2]) (K:=fun x=>yle x=some r) (fun x5 h=>?_) ?_
 ·unfold yle at h
  refine ywb (J:=fun (x:((List Int)×Int×Int×(List Qp)))=>[bC 0 (x.1,x.2.1,x.2.2.1),vP 4 85 x.2.2.2]) (K:=fun x=>yec x=some r) (fun x6 h=>?_) ?_
  ·unfold yec at h
   refine yib ?_
   obtain⟨v7,hv7,h⟩:=bs h
   refine kG [bC 0 v7.2,vP 4 85 x6.2.2.2,pB 96 v7.1] [hF 1 [.p (.bool v7.1)] (.box (eCu v7.2))] (A1 (yad hv7)) ?_
   refine kI h (fun hc2_7 h=>?_) (fun hc2_7 h=>?_)
   ·obtain⟨v9,hv9,h⟩:=bs h
    obtain⟨v10,hv10,h⟩:=bs h
    refine kG [bC 0 v9.2,bR 12 v10.1] [hF 1 [.p (iV v9.1)] (.box (eCu v9.2)),hC 3 [.p (vRt v10.1),.p (.bool v10.2)]] (A2 (ydb hv9) (yyb hv10)) ?_
    obtain⟨v11,hv11,h⟩:=bs h
    obtain⟨v12,hv12,h⟩:=bs h
    refine kG [bC 0 v11.2,bR 12 v10.1,bR 14 v12.1] [hF 1 [.p (iV v11.1)] (.box (eCu v11.2)),hC 3 [.p (vRt v12.1),.p (.bool v12.2)]] (A2 (ydb hv11) (yyb hv12)) ?_
    obtain⟨v13,hv13,h⟩:=bs h
    obtain⟨v14,hv14,h⟩:=bs h
    obtain⟨v15,hv15,h⟩:=bs h
    obtain⟨v16,hv16,h⟩:=bs h
    refine yrc (r_dq yfa 9 [] [bC 0 v11.2,vP 4 85 ([(v13,v14),(v10.1,v12.1),(v15,v16)])] [hC 0 [.p (vRt v13)],hC 1 [.p (vRt v14)],hC 6 [.p (vRt v15)],hC 7 [.p (vRt v16)]] (A4 (yla hv13) (yla hv14) (yla hv15) (yla hv16))) ?_
    refine q_n (kG [bC 0 v11.2,vP 2 85 ([(v13,v14),(v10.1,v12.1),(v15,v16)])] [] trivial ?_)
    refine yra ?_
    obtain rfl:=oi h
    exact ebr [(.ov false (oP 85 ([(v13,v14),(v10.1,v12.1),(v15,v16)])),2)]
   refine yia (q_n (kG [bC 0 v7.2,vP 2 85 x6.2.2.2] [] trivial ?_))
   refine yra ?_
   obtain rfl:=oi h
   exact ebr [(.ov false (oP 85 x6.2.2.2),2)]
  obtain⟨v17,hv17,h⟩:=bs h
  refine kG [bC 0 v17.2,vP 4 85 x5.2.2.2,pB 77 v17.1] [hF 1 [.p (.bool v17.1)] (.box (eCu v17.2))] (A1 (yad hv17)) ?_
  refine kI h (fun hc2_17 h=>?_) (fun hc2_17 h=>?_)
  ·refine kG [bC 0 v17.2,vN 4 85] [] trivial ?_
   refine kG [bC 0 v17.2,vN 4 85,pI 9 0] [] trivial ?_
   refine yja ?_
   obtain⟨y20,hl_x19,hk_x19⟩:=bs h
   clear h
   refine yfd (J:=fun (x:((List Qp)×Int))=>[bC 0 v17.2,vP 4 85 x.1,pI 9 x.2]) hl_x19 wkk (fun x19 o_x19 h hy_x19=>?_)
   unfold ymh at h
   refine yib (kG [bC 0 v17.2,vP 4 85 x19.1,pI 9 x19.2,pB 79 (decide (x19.2<12))] [] trivial ?_)
   refine kI h (fun hc5_20 h=>?_) (fun hc5_20 h=>?_)
   ·refine yia (q_n (yib (yja ?_)))
    obtain⟨v22,hv22,h⟩:=bs h
    refine kG [bC 0 v17.2,vP 4 85 x19.1,pI 9 x19.2,bR 10 v22.1] [hC 1 [.p (vRt v22.1),.p (.bool v22.2)]] (A1 (yyb hv22)) ?_
    obtain⟨v23,hv23,h⟩:=bs h
    obtain⟨u24,hu24,h⟩:=bs h
    refine yrc (r_dq yfa 7 [] [bC 0 v17.2,vP 4 85 (x19.1++[(v22.1,v23)]),pI 9 x19.2] [hC 4 [.p (vRt v23)],(7,{fix:=some (vP 94 85 (x19.1++[(v22.1,v23)]))})] (A5 (show 2≠(0:Int) from(by decide)) (yla hv23) (lG' ePt hu24) (show ∀ row∈((([(v22.1,v23)]).map ePt):List (List C)),row.length=4 from(ynb fun _=>rfl)) (aP' 85 ePt x19.1 ([(v22.1,v23)])))) ?_
    refine b_n (q_n (yrc (r_gq [bC 0 v17.2,vP 4 85 (x19.1++[(v22.1,v23)]),pI 9 (w64 (x19.2+1))] [] trivial) ?_))
    exact lqn ((x19.1++[(v22.1,v23)]),(w64 (x19.2+1))) h
   refine yzc (q_x (lq_x (b_x ?_)))
   have hyy:=hy_x19 _ (oi h).symm
   subst hyy
   have h:=hk_x19
   refine q_n ?_
   exact jx (v17.2.1,v17.2.2.1,v17.2.2.2,x19.1) h
  refine yia (q_n ?_)
  exact jx (v17.2.1,v17.2.2.1,v17.2.2.2,x5.2.2.2) h
 refine kG [bC 0 v4.2,pI 3 v4.1,vN 4 85,pI 5 0] [] trivial ?_
 refine yja ?_
 obtain⟨y26,hl_x25,hk_x25⟩:=bs h
 clear h
 refine yfd (J:=fun (x:((List Int)×Int×Int×(List Qp)×Int))=>[bC 0 (x.1,x.2.1,x.2.2.1),pI 3 v4.1,vP 4 85 x.2.2.2.1,pI 5 x.2.2.2.2]) hl_x25 wkk (fun x25 o_x25 h hy_x25=>?_)
 unfold ynh at h
 refine yib (kG [bC 0 (x25.1,x25.2.1,x25.2.2.1),pI 3 v4.1,vP 4 85 x25.2.2.2.1,pI 5 x25.2.2.2.2,pB 25 (decide (x25.2.2.2.2<=v4.1))] [] trivial ?_)
 refine kI h (fun hc5_26 h=>?_) (fun hc5_26 h=>?_)
 ·refine yia (q_n (yib (yja ?_)))
  obtain⟨v28,hv28,h⟩:=bs h
  refine kG [bC 0 (x25.1,x25.2.1,x25.2.2.1),pI 3 v4.1,vP 4 85 x25.2.2.2.1,pI 5 x25.2.2.2.2,bR 6 v28.1] [hC 2 [.p (vRt v28.1),.p (.bool v28.2)]] (A1 (yyb hv28)) ?_
  obtain⟨v29,hv29,h⟩:=bs h
  refine kG [bC 0 v29.2,pI 3 v4.1,vP 4 85 x25.2.2.2.1,pI 5 x25.2.2.2.2,bR 6 v28.1,bR 8 v29.1] [hF 2 [.p (vRt v29.1)] (.box (eCu v29.2))] (A1 (ysf hv29)) ?_
  refine ywb (J:=fun (x:((List Int)×Int×Int×Int×Int))=>[bC 0 (x.1,x.2.1,x.2.2.1),pI 3 v4.1,vP 4 85 x25.2.2.2.1,pI 5 x25.2.2.2.2,bR 6 v28.1,bR 8 x.2.2.2]) (K:=fun x=>ypb x25 v28 x=some o_x25) (fun x30 h=>?_) ?_
  ·unfold ypb at h
   obtain⟨u31,hu31,h⟩:=bs h
   refine yrc (r_gq [bC 0 (x30.1,x30.2.1,x30.2.2.1),pI 3 v4.1,vP 4 85 (x25.2.2.2.1++[(v28.1,x30.2.2.2)]),pI 5 x25.2.2.2.2] [(5,{fix:=some (vP 75 85 (x25.2.2.2.1++[(v28.1,x30.2.2.2)]))})] (A3 (lG' ePt hu31) (show ∀ row∈((([(v28.1,x30.2.2.2)]).map ePt):List (List C)),row.length=4 from(ynb fun _=>rfl)) (aP' 85 ePt x25.2.2.2.1 ([(v28.1,x30.2.2.2)])))) ?_
   refine b_n (q_n (yrc (r_gq [bC 0 (x30.1,x30.2.1,x30.2.2.1),pI 3 v4.1,vP 4 85 (x25.2.2.2.1++[(v28.1,x30.2.2.2)]),pI 5 (w64 (x25.2.2.2.2+1))] [] trivial) ?_))
   exact lqn (x30.1,x30.2.1,x30.2.2.1,(x25.2.2.2.1++[(v28.1,x30.2.2.2)]),(w64 (x25.2.2.2.2+1))) h
  obtain⟨w34,hw34,h⟩:=bs h
  refine ylb (l1:=[bC 0 (w34.1,w34.2.1,w34.2.2.1),pI 3 v4.1,vP 4 85 x25.2.2.2.1,pI 5 x25.2.2.2.2,bR 6 v28.1,bR 8 v29.1,pB 55 w34.2.2.2]) ?_ ?_
  ·clear h
   rcases ft (decide ((x25.2.2.2.1.length:Int)>0)) with ha2 | ha2
   ·obtain⟨v32,hv32,hw34⟩:=bs (yon ha2 hw34)
    rcases ft ((v29.1.1==v32.2.1)&&(v29.1.2==v32.2.2)) with ha3 | ha3
    ·obtain⟨v33,hv33,hw34⟩:=bs (yon ha3 hw34)
     have hw34:=oi hw34
     subst hw34
     exact(r_dq yfa 12 [] [bC 0 v33.2,pI 3 v4.1,vP 4 85 x25.2.2.2.1,pI 5 x25.2.2.2.2,bR 6 v28.1,bR 8 v29.1,pB 55 (!v33.1)] [hN 1 x25.2.2.2.1,(4,gT),(5,gT),(6,gT),(7,{g:=some true,n:=some x25.2.2.2.1.length}),(8,gT),(9,{g:=some true,row:=some (ePt v32)}),(10,gT),(11,{g:=some true,row:=some (eRt v32.2)}),(12,{g:=some true,pv:=some (.bool ((v29.1.1==v32.2.1)&&(v29.1.2==v32.2.2)))}),(13,bT),(15,gT),(16,{g:=some true,lend:=some (none,[.p (.bool v33.1)],.box (eCu v33.2),false)}),(17,gT),(18,bT)] (B6 (lnP x25.2.2.2.1) ha2 ha2 ha2 ha2 (lnP x25.2.2.2.1) (B6 ha2 ha2 (yba hv32).1 (yda ePt (yba hv32).2) ha2 ha2 (B6 (show getRow [(oP 85 x25.2.2.2.1)] [(0,0),((Int.toNat (w64 ((x25.2.2.2.1.length:Int)-1))),2)]=some (eRt v32.2) from((gr0 rfl).trans (gre (yda ePt (yba hv32).2)))) ha2 (show PureAt Tryz.prog (.binOp .eql 27 (.tmp 41) (.tmp 48) 27) [vRt v29.1,vRt v32.2] (.bool ((v29.1.1==v32.2.1)&&(v29.1.2==v32.2.2))) from(yxb (by kernel_rfl))) ha2 ha3 ha3 (A3 (yad hv33) ha3 ha3)))))
    replace hw34:=ypn ha3 hw34
    have hw34:=oi hw34
    subst hw34
    exact(r_dq yfa 12 [] [bC 0 v29.2,pI 3 v4.1,vP 4 85 x25.2.2.2.1,pI 5 x25.2.2.2.2,bR 6 v28.1,bR 8 v29.1,pB 55 false] [hN 1 x25.2.2.2.1,(4,gT),(5,gT),(6,gT),(7,{g:=some true,n:=some x25.2.2.2.1.length}),(8,gT),(9,{g:=some true,row:=some (ePt v32)}),(10,gT),(11,{g:=some true,row:=some (eRt v32.2)}),(12,{g:=some true,pv:=some (.bool ((v29.1.1==v32.2.1)&&(v29.1.2==v32.2.2)))}),(13,bT),(15,gF),(16,gF),(17,gF),(18,bF)] (B6 (lnP x25.2.2.2.1) ha2 ha2 ha2 ha2 (lnP x25.2.2.2.1) (B6 ha2 ha2 (yba hv32).1 (yda ePt (yba hv32).2) ha2 ha2 (B6 (show getRow [(oP 85 x25.2.2.2.1)] [(0,0),((Int.toNat (w64 ((x25.2.2.2.1.length:Int)-1))),2)]=some (eRt v32.2) from((gr0 rfl).trans (gre (yda ePt (yba hv32).2)))) ha2 (show PureAt Tryz.prog (.binOp .eql 27 (.tmp 41) (.tmp 48) 27) [vRt v29.1,vRt v32.2] (.bool ((v29.1.1==v32.2.1)&&(v29.1.2==v32.2.2))) from(yxb (by kernel_rfl))) ha2 ha3 ha3 (A2 ha3 ha3)))))
   replace hw34:=ypn ha2 hw34
   have hw34:=oi hw34
   subst hw34
   exact(r_dq yfa 12 [] [bC 0 v29.2,pI 3 v4.1,vP 4 85 x25.2.2.2.1,pI 5 x25.2.2.2.2,bR 6 v28.1,bR 8 v29.1,pB 55 false] [hN 1 x25.2.2.2.1,(4,gF),(5,gF),(6,gF),(7,gF),(8,gF),(9,gF),(10,gF),(11,gF),(12,gF),(13,bF),(15,gF),(16,gF),(17,gF),(18,bF)] (B6 (lnP x25.2.2.2.1) ha2 ha2 ha2 ha2 ha2 (B6 ha2 ha2 ha2 ha2 ha2 fF (A3 fF fF fF))))
  refine kI h (fun hc7_34 h=>?_) (fun hc7_34 h=>?_)
  ·obtain⟨v36,hv36,h⟩:=bs h
   refine kG [bC 0 (w34.1,w34.2.1,w34.2.2.1),pI 3 v4.1,vP 4 85 x25.2.2.2.1,pI 5 x25.2.2.2.2,bR 6 v28.1,bR 8 v36] [hC 1 [.p (vRt v36)]] (A1 (ywz hv36)) ?_
   obtain⟨v37,hv37,h⟩:=bs h
   refine ylb (r_dq yfa 8 [] [bC 0 (w34.1,w34.2.1,w34.2.2.1),pI 3 v4.1,vP 4 85 x25.2.2.2.1,pI 5 x25.2.2.2.2,bR 6 v28.1,bR 8 v36,pB 66 ((v36.1==v37.2.1)&&(v36.2==v37.2.2))] [hN 3 x25.2.2.2.1,hR 5 (ePt v37),hR 7 (eRt v37.2),(8,{pv:=some (.bool ((v36.1==v37.2.1)&&(v36.2==v37.2.2)))})] (A5 (lnP x25.2.2.2.1) (yba hv37).1 (yda ePt (yba hv37).2) (show getRow [(oP 85 x25.2.2.2.1)] [(0,0),((Int.toNat (w64 ((x25.2.2.2.1.length:Int)-1))),2)]=some (eRt v37.2) from((gr0 rfl).trans (gre (yda ePt (yba hv37).2)))) (show PureAt Tryz.prog (.binOp .eql 27 (.tmp 58) (.tmp 65) 27) [vRt v36,vRt v37.2] (.bool ((v36.1==v37.2.1)&&(v36.2==v37.2.2))) from(yxb (by kernel_rfl))))) ?_
   refine kI h (fun hc7_37 h=>?_) (fun hc7_37 h=>?_)
   ·obtain⟨v39,hv39,h⟩:=bs h
    refine yrc (r_gq [bC 0 (w34.1,w34.2.1,w34.2.2.1),pI 3 v4.1,vP 4 85 x25.2.2.2.1,pI 5 x25.2.2.2.2,bR 6 v28.1,bR 8 v39] [hC 2 [.p (vRt v39)]] (A2 (show 2≠(0:Int) from(by decide)) (yla hv39))) ?_
    refine q_n ?_
    exact jx (w34.1,w34.2.1,w34.2.2.1,v39.1,v39.2) h
   refine yia (q_n ?_)
   exact jx (w34.1,w34.2.1,w34.2.2.1,v36.1,v36.2) h
  refine yia (q_n ?_)
  exact jx (w34.1,w34.2.1,w34.2.2.1,v29.1.1,v29.1.2) h
 refine yzc (q_x (lq_x (b_x ?_)))
 have hyy:=hy_x25 _ (oi h).symm
 subst hyy
 have h:=hk_x25
 refine q_n ?_
 exact jx (x25.1,x25.2.1,x25.2.2.1,x25.2.2.2.1) h
theorem ypt {a0:Cu}  {r:(Int×Cu)} (h:yfg a0=some r):MeetsB Tryz.prog 99 (.box (eCu a0)) [] [.p (iV r.1)] (.box (eCu r.2)):=by
 refine mob Tryz.func99 [bC 0 a0] ?_
 unfold yfg at h
 refine kG [bC 0 a0] [] trivial ?_
 obtain⟨v1,hv1,h⟩:=bs h
 obtain⟨v2,hv2,h⟩:=bs h
 refine kG [bC 0 v2.2,pI 2 v2.1] [(3,{lend:=some (some [.d false [.sl none (([13,(-1)]).map eI)]],[.p (iV v1.1)],.box (eCu v1.2),false),fix:=some (dL 5 eI ([13,(-1)]))}),(5,{lend:=some (some [.d false [.sl none (([0,1,2,3,4,6,12,v1.1]).map eI)]],[.p (iV v2.1)],.box (eCu v2.2),false),fix:=some (dL 7 eI ([0,1,2,3,4,6,12,v1.1]))})] (A6 (show([.d false [.sl none (eraL (([13,(-1)]).map eI))]]:List Arg)=[.d false [.sl none (([13,(-1)]).map eI)]] from(by simp only[ywa (h:=eI) er_I])) (yeb hv1) (show(SV.d false (eraR [.sl (some 3) (([13,(-1)]).map eI)]):SV)=.d false [.sl none (([13,(-1)]).map eI)] from(congrArg (fun z=>SV.d false z) (ybs (ywa er_I) rfl))) (show([.d false [.sl none (eraL (([0,1,2,3,4,6,12,v1.1]).map eI))]]:List Arg)=[.d false [.sl none (([0,1,2,3,4,6,12,v1.1]).map eI)]] from(by simp only[ywa (h:=eI) er_I])) (yeb hv2) (show(SV.d false (eraR [.sl (some 3) (([0,1,2,3,4,6,12,v1.1]).map eI)]):SV)=.d false [.sl none (([0,1,2,3,4,6,12,v1.1]).map eI)] from(congrArg (fun z=>SV.d false z) (ybs (ywa er_I) rfl)))) ?_
 refine yra ?_
 obtain rfl:=oi h
 exact ebr [(.p (iV v2.1),2)]
theorem yqt {a0:(List Int)}  {r:((List Qp)×Int)} (h:ygg a0=some r):Meets Tryz.prog 41 [.d false [.sl none (a0.map (eU .u8))]] { vals:=[.ov false (oP 85 r.1),.p (iV r.2)] }:=by
 refine mo Tryz.func41 [dL 0 (eU .u8) a0] ?_
 unfold ygg at h
 refine kG [dL 0 (eU .u8) a0] [] trivial ?_
 refine kG [(4,.addr 7 [(0,0)]),bC 7 (a0,0,0)] [] trivial ?_
 obtain⟨v1,hv1,h⟩:=bs h
 obtain⟨v2,hv2,h⟩:=bs h
 refine kG [vP 2 85 v1.1,pI 3 v2.1] [hF 1 [.ov false (oP 85 v1.1)] (.box (eCu v1.2)),hF 3 [.p (iV v2.1)] (.box (eCu v2.2))] (A2 (ykh hv1) (ypt hv2)) ?_
 refine yra ?_
 obtain rfl:=oi h
 exact er [(.ov false (oP 85 v1.1),2),(.p (iV v2.1),3)]
theorem yud {a0:Int} {a1:Int} {a2:Int}  {r:Bool} (h:yli a0 a1 a2=some r):Meets Tryz.prog 62 [wI a0,wI a1,wI a2] { vals:=[.p (.bool r)] }:=by
 refine mo Tryz.func62 [pI 0 a0,pI 1 a1,pI 2 a2] ?_
 unfold yli at h
 refine kG [pI 0 a0,pI 1 a1,pI 2 a2] [] trivial ?_
 refine ylb (l1:=[pB 6 ((decide (a1<=a0))&&(decide (a0<=a2)))]) ?_ ?_
 ·rcases ft (decide (a1<=a0)) with ha0 | ha0
  ·exact RegOk.of_eq (r_gq [pB 6 (decide (a0<=a2))] [(4,gT),(5,gT),(6,gT),(7,bT)] (A4 ha0 ha0 ha0 ha0)) (by simp[ha0])
  exact RegOk.of_eq (r_gq [pB 6 false] [(4,gF),(5,gF),(6,gF),(7,bF)] (A4 ha0 ha0 ha0 ha0)) (by simp[ha0])
 refine yra ?_
 obtain rfl:=oi h
 exact er [(.p (.bool ((decide (a1<=a0))&&(decide (a0<=a2)))),6)]
theorem yog {a0:(List Qp)} {a1:(Qp->Option Bool)} {F1:FuncId} (hp1:∀ x0 y,a1 x0=some y->Meets Tryz.prog F1 ([.v (vPt x0)]++[]) { vals:=[.p (.bool y)] }) {r:Int} (h:yga a0 a1=some r):Meets Tryz.prog 159 [.d false (sP a0),.v (.func (.func F1) #[] #[])] { vals:=[.p (iV r)] }:=by
 refine mo Tryz.func159 [dP 0 a0,(1,.p (.func (.func F1) #[] #[]))] ?_
 unfold yga at h
 refine kG [dP 0 a0,(1,.p (.func (.func F1) #[] #[]))] [] trivial ?_
 refine ywb (J:=fun (x:Unit)=>[]) (K:=fun x=>ypa x=some r) (fun x1 h=>?_) ?_
 ·unfold ypa at h
  refine kG [pI 4 (-1)] [] trivial ?_
  refine yra ?_
  obtain rfl:=oi h
  exact er [(.p (iV (-1)),4)]
 refine kG [dP 0 a0,(1,.p (.func (.func F1) #[] #[])),pL 7 a0,pI 8 0] [hN 1 a0] (A1 (lnP a0)) ?_
 refine yja ?_
 obtain⟨y3,hl_x2,hk_x2⟩:=bs h
 clear h
 refine yfd (J:=fun (x:Int)=>[dP 0 a0,(1,.p (.func (.func F1) #[] #[])),pL 7 a0,pI 8 x]) hl_x2 wkk (fun x2 o_x2 h hy_x2=>?_)
 unfold yca at h
 refine kG [dP 0 a0,(1,.p (.func (.func F1) #[] #[])),pL 7 a0,pI 8 x2,pB 9 (decide (x2<(a0.length:Int)))] [] trivial ?_
 refine yib (kI h (fun hc5_3 h=>?_) (fun hc5_3 h=>?_))
 ·refine yia (q_n (yib (yja (kG [dP 0 a0,(1,.p (.func (.func F1) #[] #[])),pI 5 x2,pL 7 a0,pI 8 x2] [] trivial ?_))))
  obtain⟨v5,hv5,h⟩:=bs h
  obtain⟨v6,hv6,h⟩:=bs h
  refine kG [dP 0 a0,(1,.p (.func (.func F1) #[] #[])),pI 5 x2,pL 7 a0,pI 8 x2,pB 16 v6] [hR 3 (ePt v5),hC 5 [.p (.bool v6)]] (A3 (yba hv5).1 (yda ePt (yba hv5).2) (hp1 _ _ hv6)) ?_
  refine kI h (fun hc6_6 h=>?_) (fun hc6_6 h=>?_)
  ·refine kG [pI 4 x2] [] trivial ?_
   refine yra (b_r (q_r (lq_r ?_)))
   refine b_r (q_r ?_)
   have hyy:=hy_x2 _ (oi h).symm
   subst hyy
   have h:=hk_x2
   dsimp only[Sum.elim] at h
   obtain rfl:=oi h
   exact er [(.p (iV x2),4)]
  refine yia (b_n (q_n (yrc (r_gq [dP 0 a0,(1,.p (.func (.func F1) #[] #[])),pL 7 a0,pI 8 (w64 (x2+1))] [] trivial) ?_)))
  exact lqn (w64 (x2+1)) h
 refine yzc (q_x (lq_x (b_x ?_)))
 have hyy:=hy_x2 _ (oi h).symm
 subst hyy
 have h:=hk_x2
 dsimp only[Sum.elim] at h
 refine q_n ?_
 exact jx () h
theorem ykc {a0:(List Qp)} {a1:(Qp->Option Bool)} {F1:FuncId} (hp1:∀ x0 y,a1 x0=some y->Meets Tryz.prog F1 ([.v (vPt x0)]++[]) { vals:=[.p (.bool y)] }) {r:Bool} (h:yha a0 a1=some r):Meets Tryz.prog 118 [.d false (sP a0),.v (.func (.func F1) #[] #[])] { vals:=[.p (.bool r)] }:=by
 refine mo Tryz.func118 [dP 0 a0,(1,.p (.func (.func F1) #[] #[]))] ?_
 unfold yha at h
 refine kG [dP 0 a0,(1,.p (.func (.func F1) #[] #[]))] [] trivial ?_
 obtain⟨v1,hv1,h⟩:=bs h
 refine kG [pB 4 (decide (v1>=0))] [hC 2 [.p (iV v1)]] (A1 (show Meets Tryz.prog 159 ([.d false (sP a0),.v (.func (.func F1) #[] #[])]++[]) { vals:=[.p (iV v1)] } from(yog hp1 hv1))) ?_
 refine yra ?_
 obtain rfl:=oi h
 exact er [(.p (.bool (decide (v1>=0))),4)]
theorem ypc1 {a0:Int}  {r:Int} (h:yqx a0=some r):Meets Tryz.prog 187 [wI a0] { vals:=[.p (iV r)] }:=by
 refine mo Tryz.func187 [pI 0 a0] ?_
 unfold yqx at h
 refine kG [pI 0 a0] [] trivial ?_
 refine yib (kG [pI 0 a0,pB 4 (decide (a0<0))] [] trivial ?_)
 refine kI h (fun hc2_0 h=>?_) (fun hc2_0 h=>?_)
 ·refine kG [pI 2 (w64 (0-a0))] [] trivial ?_
  refine yra (q_r ?_)
  obtain rfl:=oi h
  exact er [(.p (iV (w64 (0-a0))),2)]
 refine yia (q_n (kG [pI 2 a0] [] trivial ?_))
 refine yra ?_
 obtain rfl:=oi h
 exact er [(.p (iV a0),2)]
theorem yyl {a0:Int} {a1:Int}  {r:Int} (h:yhd a0 a1=some r):Meets Tryz.prog 161 [wI a0,wI a1] { vals:=[.p (iV r)] }:=by
 refine mo Tryz.func161 [pI 0 a0,pI 1 a1] ?_
 unfold yhd at h
 refine kG [pI 0 a0,pI 1 a1] [] trivial ?_
 obtain⟨v1,hv1,h⟩:=bs h
 obtain⟨v2,hv2,h⟩:=bs h
 refine kG [pI 0 v1,pI 1 v2] [hC 1 [.p (iV v1)],hC 3 [.p (iV v2)]] (A2 (ypc1 hv1) (ypc1 hv2)) ?_
 refine ywb (J:=fun (x:Int)=>[pI 0 x]) (K:=fun x=>yje x=some r) (fun x3 h=>?_) ?_
 ·unfold yje at h
  refine kG [pI 4 x3] [] trivial ?_
  refine yra ?_
  obtain rfl:=oi h
  exact er [(.p (iV x3),4)]
 refine yja ?_
 obtain⟨y5,hl_x4,hk_x4⟩:=bs h
 clear h
 refine yfd (J:=fun (x:Qr)=>[pI 0 x.1,pI 1 x.2]) hl_x4 wkk (fun x4 o_x4 h hy_x4=>?_)
 unfold ydd at h
 refine yib (kG [pI 0 x4.1,pI 1 x4.2,pB 10 (x4.2 != 0)] [] trivial ?_)
 refine kI h (fun hc5_5 h=>?_) (fun hc5_5 h=>?_)
 ·refine yia (q_n (yja ?_))
  obtain⟨u7,hu7,h⟩:=bs h
  refine yrc (r_dq yfa 5 [] [pI 0 x4.2,pI 1 (Int.tmod x4.1 x4.2)] [] (A1 (ycb hu7))) ?_
  refine b_n ?_
  exact lqn (x4.2,(Int.tmod x4.1 x4.2)) h
 refine yzc (q_x (lq_x (b_x ?_)))
 have hyy:=hy_x4 _ (oi h).symm
 subst hyy
 have h:=hk_x4
 refine q_n ?_
 exact jx x4.1 h
theorem yxm {a0:Qr}  {r:Bool} (h:yqo a0=some r):Meets Tryz.prog 121 [.v (vRt a0)] { vals:=[.p (.bool r)] }:=by
 refine mo Tryz.func121 [(0,.p (vRt a0))] ?_
 unfold yqo at h
 refine kG [bR 1 a0] [] trivial ?_
 obtain⟨v1,hv1,h⟩:=bs h
 obtain⟨w4,hw4,h⟩:=bs h
 refine ylb (l1:=[pB 2 w4]) ?_ ?_
 ·clear h
  rcases ft v1 with ha0 | ha0
  ·obtain⟨v2,hv2,hw4⟩:=bs (yon ha0 hw4)
   rcases ft v2 with ha1 | ha1
   ·obtain⟨v3,hv3,hw4⟩:=bs (yon ha1 hw4)
    have hw4:=oi hw4
    subst hw4
    exact(r_gq [pB 2 (v3==1)] [hC 2 [.p (.bool v1)],(4,gT),(5,gT),(6,{g:=some true,call:=some (none,[.p (.bool v2)],true)}),(7,bT),(9,gT),(10,gT),(11,gT),(12,gT),(13,{g:=some true,call:=some (none,[.p (iV v3)],true)}),(14,gT),(15,bT)] (B6 (yud hv1) ha0 ha0 ha0 (yud hv2) ha0 (B6 ha1 ha1 ha1 ha1 ha1 (yyl hv3) (A2 ha1 ha1))))
   replace hw4:=ypn ha1 hw4
   have hw4:=oi hw4
   subst hw4
   exact(r_gq [pB 2 false] [hC 2 [.p (.bool v1)],(4,gT),(5,gT),(6,{g:=some true,call:=some (none,[.p (.bool v2)],true)}),(7,bT),(9,gF),(10,gF),(11,gF),(12,gF),(13,gF),(14,gF),(15,bF)] (B6 (yud hv1) ha0 ha0 ha0 (yud hv2) ha0 (B6 ha1 ha1 ha1 ha1 ha1 ha1 (A1 ha1))))
  replace hw4:=ypn ha0 hw4
  have hw4:=oi hw4
  subst hw4
  exact(r_gq [pB 2 false] [hC 2 [.p (.bool v1)],(4,gF),(5,gF),(6,gF),(7,bF),(9,gF),(10,gF),(11,gF),(12,gF),(13,gF),(14,gF),(15,bF)] (B6 (yud hv1) ha0 ha0 ha0 ha0 fF (A6 fF fF fF fF fF fF)))
 refine yra ?_
 obtain rfl:=oi h
 exact er [(.p (.bool w4),2)]
theorem yhv {a0:Qr}  {r:Bool} (h:ydo a0=some r):Meets Tryz.prog 160 [.v (vRt a0)] { vals:=[.p (.bool r)] }:=by
 refine mo Tryz.func160 [(0,.p (vRt a0))] ?_
 unfold ydo at h
 refine kG [bR 1 a0] [] trivial ?_
 obtain⟨v1,hv1,h⟩:=bs h
 refine ylb (l1:=[pB 2 (v1&&((decide (a0.1>=0))&&(decide (a0.1<=a0.2))))]) ?_ ?_
 ·rcases ft v1 with ha0 | ha0
  ·rcases ft (decide (a0.1>=0)) with ha1 | ha1
   ·exact RegOk.of_eq (r_gq [pB 2 (decide (a0.1<=a0.2))] [hC 1 [.p (.bool v1)],(3,gT),(4,gT),(5,gT),(6,bT),(8,gT),(9,gT),(10,gT),(11,gT),(12,gT),(13,bT)] (B6 (yxm hv1) ha0 ha0 ha0 ha0 ha1 (A5 ha1 ha1 ha1 ha1 ha1))) (by simp[ha0,ha1])
   exact RegOk.of_eq (r_gq [pB 2 false] [hC 1 [.p (.bool v1)],(3,gT),(4,gT),(5,gT),(6,bT),(8,gF),(9,gF),(10,gF),(11,gF),(12,gF),(13,bF)] (B6 (yxm hv1) ha0 ha0 ha0 ha0 ha1 (A5 ha1 ha1 ha1 ha1 ha1))) (by simp[ha0,ha1])
  exact RegOk.of_eq (r_gq [pB 2 false] [hC 1 [.p (.bool v1)],(3,gF),(4,gF),(5,gF),(6,bF),(8,gF),(9,gF),(10,gF),(11,gF),(12,gF),(13,bF)] (B6 (yxm hv1) ha0 ha0 ha0 ha0 fF (A5 fF fF fF fF fF))) (by simp[ha0])
 refine yra ?_
 obtain rfl:=oi h
 exact er [(.p (.bool (v1&&((decide (a0.1>=0))&&(decide (a0.1<=a0.2))))),2)]
theorem yvp {a0:Qr}  {r:Bool} (h:yhm a0=some r):Meets Tryz.prog 120 [.v (vRt a0)] { vals:=[.p (.bool r)] }:=by
 refine mo Tryz.func120 [(0,.p (vRt a0))] ?_
 unfold yhm at h
 refine kG [bR 1 a0] [] trivial ?_
 obtain⟨v1,hv1,h⟩:=bs h
 refine ylb (l1:=[pB 2 (v1&&(decide (a0.2<=100)))]) ?_ ?_
 ·rcases ft v1 with ha0 | ha0
  ·exact RegOk.of_eq (r_gq [pB 2 (decide (a0.2<=100))] [hC 1 [.p (.bool v1)],(3,gT),(4,gT),(5,gT),(6,bT)] (A5 (yhv hv1) ha0 ha0 ha0 ha0)) (by simp[ha0])
  exact RegOk.of_eq (r_gq [pB 2 false] [hC 1 [.p (.bool v1)],(3,gF),(4,gF),(5,gF),(6,bF)] (A5 (yhv hv1) ha0 ha0 ha0 ha0)) (by simp[ha0])
 refine yra ?_
 obtain rfl:=oi h
 exact er [(.p (.bool (v1&&(decide (a0.2<=100)))),2)]
theorem yqb1 {a0:Qp}  {r:Bool} (h:yim a0=some r):Meets Tryz.prog 138 [.v (vPt a0)] { vals:=[.p (.bool r)] }:=by
 refine mo Tryz.func138 [(0,.p (vPt a0))] ?_
 unfold yim at h
 refine kG [bP 1 a0] [] trivial ?_
 obtain⟨v1,hv1,h⟩:=bs h
 obtain⟨w3,hw3,h⟩:=bs h
 refine ylb (l1:=[pB 2 w3]) ?_ ?_
 ·clear h
  rcases ft (!v1) with ha0 | ha0
  ·replace hw3:=yon ha0 hw3
   have hw3:=oi hw3
   subst hw3
   exact(r_gq [pB 2 true] [hC 2 [.p (.bool v1)],(5,gT),(6,gT),(7,gT),(8,gT),(9,bT)] (A6 (yvp hv1) ha0 ha0 ha0 ha0 ha0))
  obtain⟨v2,hv2,hw3⟩:=bs (ypn ha0 hw3)
  have hw3:=oi hw3
  subst hw3
  exact(r_gq [pB 2 (!v2)] [hC 2 [.p (.bool v1)],(5,gF),(6,gF),(7,(gN [.p (.bool v2)])),(8,gF),(9,bF)] (B6 (yvp hv1) ha0 ha0 ha0 (yvp hv2) ha0 (A1 ha0)))
 refine yra ?_
 obtain rfl:=oi h
 exact er [(.p (.bool w3),2)]
theorem ybe   {r:Qr} (h:yke =some r):Meets Tryz.prog 106 [] { vals:=[.p (vRt r)] }:=by
 refine mo Tryz.func106 [] ?_
 unfold yke at h
 refine kG [bX 0 zR] [] trivial ?_
 refine kG [bX 0 [rI 0,rI 1]] [] trivial ?_
 refine yra ?_
 obtain rfl:=oi h
 exact er [(.p (.agg #[.int .i64 0,.int .i64 1]),0)]
theorem yki   {r:Qr} (h:yoe =some r):Meets Tryz.prog 108 [] { vals:=[.p (vRt r)] }:=by
 refine mo Tryz.func108 [] ?_
 unfold yoe at h
 refine kG [bX 0 zR] [] trivial ?_
 refine kG [bX 0 [rI 1,rI 1]] [] trivial ?_
 refine yra ?_
 obtain rfl:=oi h
 exact er [(.p (.agg #[.int .i64 1,.int .i64 1]),0)]
theorem yxz {a0:(List Qp)}  {r:(List Qr)} (h:ynp a0=some r):Meets Tryz.prog 140 [.d false (sP a0)] { vals:=[rO 27 eRt r] }:=by
 refine mo Tryz.func140 [dP 0 a0] ?_
 unfold ynp at h
 refine kG [dP 0 a0] [] trivial ?_
 refine kG [dP 0 a0,vN 3 27] [] trivial ?_
 refine ywb (J:=fun (x:(List Qr))=>[vL 3 27 eRt x]) (K:=fun x=>yqu x=some r) (fun x1 h=>?_) ?_
 ·unfold yqu at h
  refine kG [vL 2 27 eRt x1] [] trivial ?_
  refine yra ?_
  obtain rfl:=oi h
  exact er [(.ov false [.sl (some 27) (x1.map eRt)],2)]
 refine kG [vN 3 27,dP 6 a0,pL 7 a0,pI 8 0] [hN 1 a0] (A1 (lnP a0)) ?_
 refine yja ?_
 obtain⟨y3,hl_x2,hk_x2⟩:=bs h
 clear h
 refine yfd (J:=fun (x:((List Qr)×Int))=>[vL 3 27 eRt x.1,dP 6 a0,pL 7 a0,pI 8 x.2]) hl_x2 wkk (fun x2 o_x2 h hy_x2=>?_)
 unfold yrg at h
 refine kG [vL 3 27 eRt x2.1,dP 6 a0,pL 7 a0,pI 8 x2.2,pB 9 (decide (x2.2<(a0.length:Int)))] [] trivial ?_
 refine yib (kI h (fun hc5_3 h=>?_) (fun hc5_3 h=>?_))
 ·refine yia (q_n (yib (yja ?_)))
  obtain⟨v5,hv5,h⟩:=bs h
  refine kG [vL 3 27 eRt x2.1,bP 5 v5,dP 6 a0,pL 7 a0,pI 8 x2.2] [hR 0 (ePt v5)] (A2 (yba hv5).1 (yda ePt (yba hv5).2)) ?_
  obtain⟨u6,hu6,h⟩:=bs h
  refine yrc (r_gq [vL 3 27 eRt (x2.1++[v5.1]),dP 6 a0,pL 7 a0,pI 8 x2.2] [(4,{fix:=some (vL 16 27 eRt (x2.1++[v5.1]))})] (A3 (lG' eRt hu6) (show ∀ row∈((([v5.1]).map eRt):List (List C)),row.length=2 from(ynb fun _=>rfl)) (aP' 27 eRt x2.1 ([v5.1])))) ?_
  refine b_n (q_n (yrc (r_gq [vL 3 27 eRt (x2.1++[v5.1]),dP 6 a0,pL 7 a0,pI 8 (w64 (x2.2+1))] [] trivial) ?_))
  exact lqn ((x2.1++[v5.1]),(w64 (x2.2+1))) h
 refine yzc (q_x (lq_x (b_x ?_)))
 have hyy:=hy_x2 _ (oi h).symm
 subst hyy
 have h:=hk_x2
 refine q_n ?_
 exact jx x2.1 h
theorem ynm {a0:Qr} {a1:Qr}  {r:Int} (h:yac a0 a1=some r):Meets Tryz.prog 95 [.v (vRt a0),.v (vRt a1)] { vals:=[.p (iV r)] }:=by
 refine mo Tryz.func95 [(0,.p (vRt a0)),(1,.p (vRt a1))] ?_
 unfold yac at h
 refine kG [bR 2 a0,bR 3 a1] [] trivial ?_
 refine yib (ylb (r_dq yfa 11 [] [pI 5 (w64 (a0.1*a1.2)),pI 6 (w64 (a1.1*a0.2))] [] trivial) ?_)
 refine yja (kG [pI 5 (w64 (a0.1*a1.2)),pI 6 (w64 (a1.1*a0.2)),pB 17 (decide ((w64 (a0.1*a1.2))<(w64 (a1.1*a0.2))))] [] trivial ?_)
 refine kI h (fun hc3_0 h=>?_) (fun hc3_0 h=>?_)
 ·refine kG [pI 4 (-1)] [] trivial ?_
  refine yra (b_r (q_r ?_))
  obtain rfl:=oi h
  exact er [(.p (iV (-1)),4)]
 refine kG [pB 21 (decide ((w64 (a0.1*a1.2))>(w64 (a1.1*a0.2))))] [] trivial ?_
 refine kI h (fun hc3_1 h=>?_) (fun hc3_1 h=>?_)
 ·refine kG [pI 4 1] [] trivial ?_
  refine yra (b_r (q_r ?_))
  obtain rfl:=oi h
  exact er [(.p (iV 1),4)]
 refine yia (b_n (q_n (kG [pI 4 0] [] trivial ?_)))
 refine yra ?_
 obtain rfl:=oi h
 exact er [(.p (iV 0),4)]
theorem ypg {a0:Qr} {a1:Qr}  {r:Bool} (h:yvd a0 a1=some r):Meets Tryz.prog 122 [.v (vRt a0),.v (vRt a1)] { vals:=[.p (.bool r)] }:=by
 refine mo Tryz.func122 [(0,.p (vRt a0)),(1,.p (vRt a1))] ?_
 unfold yvd at h
 refine kG [bR 2 a0,bR 3 a1] [] trivial ?_
 obtain⟨v1,hv1,h⟩:=bs h
 refine kG [pB 4 (decide (v1<0))] [hC 2 [.p (iV v1)]] (A1 (ynm hv1)) ?_
 refine yra ?_
 obtain rfl:=oi h
 exact er [(.p (.bool (decide (v1<0))),4)]
theorem yyz {a0:(List Qr)}  {r:Bool} (h:yen a0=some r):Meets Tryz.prog 139 [.d false [.sl none (a0.map eRt)]] { vals:=[.p (.bool r)] }:=by
 refine mo Tryz.func139 [dL 0 eRt a0] ?_
 unfold yen at h
 refine kG [dL 0 eRt a0] [] trivial ?_
 refine ywb (J:=fun (x:Unit)=>[]) (K:=fun x=>ydl x=some r) (fun x1 h=>?_) ?_
 ·unfold ydl at h
  refine kG [pB 2 true] [] trivial ?_
  refine yra ?_
  obtain rfl:=oi h
  exact er [(.p (.bool true),2)]
 refine kG [dL 0 eRt a0,pI 3 1] [] trivial ?_
 refine yja ?_
 obtain⟨y3,hl_x2,hk_x2⟩:=bs h
 clear h
 refine yfd (J:=fun (x:Int)=>[dL 0 eRt a0,pI 3 x]) hl_x2 wkk (fun x2 o_x2 h hy_x2=>?_)
 unfold yci at h
 refine yib (kG [dL 0 eRt a0,pI 3 x2,pB 7 (decide (x2<(a0.length:Int)))] [hN 2 a0] (A1 (lF eRt a0)) ?_)
 refine kI h (fun hc5_3 h=>?_) (fun hc5_3 h=>?_)
 ·refine yia (q_n (yib (yja ?_)))
  obtain⟨v5,hv5,h⟩:=bs h
  obtain⟨v6,hv6,h⟩:=bs h
  obtain⟨v7,hv7,h⟩:=bs h
  refine ylb (r_dq yfa 9 [] [dL 0 eRt a0,pI 3 x2,pB 20 (!v7)] [hR 3 (eRt v5),hR 7 (eRt v6),hC 9 [.p (.bool v7)]] (A5 (yba hv5).1 (yda eRt (yba hv5).2) (yba hv6).1 (yda eRt (yba hv6).2) (ypg hv7))) ?_
  refine kI h (fun hc6_7 h=>?_) (fun hc6_7 h=>?_)
  ·refine kG [pB 2 false] [] trivial ?_
   refine yra (b_r (q_r (lq_r ?_)))
   refine b_r (q_r ?_)
   have hyy:=hy_x2 _ (oi h).symm
   subst hyy
   have h:=hk_x2
   dsimp only[Sum.elim] at h
   obtain rfl:=oi h
   exact er [(.p (.bool false),2)]
  refine yia (b_n (q_n (yrc (r_gq [dL 0 eRt a0,pI 3 (w64 (x2+1))] [] trivial) ?_)))
  exact lqn (w64 (x2+1)) h
 refine yzc (q_x (lq_x (b_x ?_)))
 have hyy:=hy_x2 _ (oi h).symm
 subst hyy
 have h:=hk_x2
 dsimp only[Sum.elim] at h
 refine q_n ?_
 exact jx () h
theorem yve {a0:(List Qp)}  {r:Bool} (h:yed a0=some r):Meets Tryz.prog 89 [.d false (sP a0)] { vals:=[.p (.bool r)] }:=by
 refine mo Tryz.func89 [dP 0 a0] ?_
 unfold yed at h
 refine kG [dP 0 a0] [] trivial ?_
 refine yib ?_
 obtain⟨v1,hv1,h⟩:=bs h
 obtain⟨w3,hw3,h⟩:=bs h
 refine ylb (l1:=[dP 0 a0,pB 10 w3]) ?_ ?_
 ·clear h
  rcases ft (!v1) with ha0 | ha0
  ·replace hw3:=yon ha0 hw3
   have hw3:=oi hw3
   subst hw3
   exact(r_gq [dP 0 a0,pB 10 true] [hN 1 a0,hC 2 [.p (.bool v1)],(5,gT),(6,gT),(7,bT)] (A5 (lnP a0) (yud hv1) ha0 ha0 ha0))
  obtain⟨v2,hv2,hw3⟩:=bs (ypn ha0 hw3)
  have hw3:=oi hw3
  subst hw3
  exact(r_gq [dP 0 a0,pB 10 v2] [hN 1 a0,hC 2 [.p (.bool v1)],(5,gF),(6,(gN [.p (.bool v2)])),(7,bF)] (A6 (lnP a0) (yud hv1) ha0 ha0 (show Meets Tryz.prog 118 ([.d false (sP a0),.v (.func (.func 138) #[] #[])]++[]) { vals:=[.p (.bool v2)] } from(ykc (fun x0 y hy=>yqb1 hy) hv2)) ha0))
 refine kI h (fun hc2_3 h=>?_) (fun hc2_3 h=>?_)
 ·refine kG [pB 2 false] [] trivial ?_
  refine yra (q_r ?_)
  obtain rfl:=oi h
  exact er [(.p (.bool false),2)]
 refine yia (q_n ?_)
 obtain⟨v5,hv5,h⟩:=bs h
 obtain⟨v6,hv6,h⟩:=bs h
 obtain⟨w11,hw11,h⟩:=bs h
 refine ylb (l1:=[pB 2 w11]) ?_ ?_
 ·clear h
  rcases ft ((v5.1.1==v6.1)&&(v5.1.2==v6.2)) with ha1 | ha1
  ·obtain⟨v7,hv7,hw11⟩:=bs (yon ha1 hw11)
   obtain⟨v8,hv8,hw11⟩:=bs hw11
   rcases ft ((v7.1.1==v8.1)&&(v7.1.2==v8.2)) with ha2 | ha2
   ·obtain⟨v9,hv9,hw11⟩:=bs (yon ha2 hw11)
    obtain⟨v10,hv10,hw11⟩:=bs hw11
    have hw11:=oi hw11
    subst hw11
    exact(r_dq yfa 15 [] [pB 2 v10] [hR 1 (ePt v5),hC 4 [.p (vRt v6)],(5,{pv:=some (.bool ((v5.1.1==v6.1)&&(v5.1.2==v6.2)))}),(7,gT),(8,gT),(9,{g:=some true,n:=some a0.length}),(10,gT),(11,{g:=some true,row:=some (ePt v7)}),(12,gT),(13,gT),(14,{g:=some true,call:=some (none,[.p (vRt v8)],true)}),(15,{g:=some true,pv:=some (.bool ((v7.1.1==v8.1)&&(v7.1.2==v8.2)))}),(16,bT),(18,gT),(19,{g:=some true,call:=some (none,[rO 27 eRt v9],true)}),(20,{g:=some true,call:=some (some [.d false [.sl none (v9.map eRt)]],[.p (.bool v10)],true)}),(21,bT)] (B6 (yba hv5).1 (yda ePt (yba hv5).2) (ybe hv6) (show PureAt Tryz.prog (.binOp .eql 27 (.tmp 14) (.tmp 15) 27) [vRt v5.1,vRt v6] (.bool ((v5.1.1==v6.1)&&(v5.1.2==v6.2))) from(yxb (by kernel_rfl))) ha1 ha1 (B6 ha1 (lnP a0) ha1 ha1 (yba hv7).1 (yda ePt (yba hv7).2) (B6 ha1 ha1 ha1 (yki hv8) ha1 (show PureAt Tryz.prog (.binOp .eql 27 (.tmp 24) (.tmp 25) 27) [vRt v7.1,vRt v8] (.bool ((v7.1.1==v8.1)&&(v7.1.2==v8.2))) from(yxb (by kernel_rfl))) (B6 ha1 ha2 ha2 (yxz hv9) (sR' 27 v9) ha2 (A3 (show([.d false [.sl none (eraL (v9.map eRt))]]:List Arg)=[.d false [.sl none (v9.map eRt)]] from(by simp only[ywa (h:=eRt) (yyx er_I er_I)])) (yyz hv10) ha2))))))
   replace hw11:=ypn ha2 hw11
   have hw11:=oi hw11
   subst hw11
   exact(r_dq yfa 15 [] [pB 2 false] [hR 1 (ePt v5),hC 4 [.p (vRt v6)],(5,{pv:=some (.bool ((v5.1.1==v6.1)&&(v5.1.2==v6.2)))}),(7,gT),(8,gT),(9,{g:=some true,n:=some a0.length}),(10,gT),(11,{g:=some true,row:=some (ePt v7)}),(12,gT),(13,gT),(14,{g:=some true,call:=some (none,[.p (vRt v8)],true)}),(15,{g:=some true,pv:=some (.bool ((v7.1.1==v8.1)&&(v7.1.2==v8.2)))}),(16,bT),(18,gF),(19,gF),(20,gF),(21,bF)] (B6 (yba hv5).1 (yda ePt (yba hv5).2) (ybe hv6) (show PureAt Tryz.prog (.binOp .eql 27 (.tmp 14) (.tmp 15) 27) [vRt v5.1,vRt v6] (.bool ((v5.1.1==v6.1)&&(v5.1.2==v6.2))) from(yxb (by kernel_rfl))) ha1 ha1 (B6 ha1 (lnP a0) ha1 ha1 (yba hv7).1 (yda ePt (yba hv7).2) (B6 ha1 ha1 ha1 (yki hv8) ha1 (show PureAt Tryz.prog (.binOp .eql 27 (.tmp 24) (.tmp 25) 27) [vRt v7.1,vRt v8] (.bool ((v7.1.1==v8.1)&&(v7.1.2==v8.2))) from(yxb (by kernel_rfl))) (A5 ha1 ha2 ha2 ha2 ha2)))))
  replace hw11:=ypn ha1 hw11
  have hw11:=oi hw11
  subst hw11
  exact(r_dq yfa 15 [] [pB 2 false] [hR 1 (ePt v5),hC 4 [.p (vRt v6)],(5,{pv:=some (.bool ((v5.1.1==v6.1)&&(v5.1.2==v6.2)))}),(7,gF),(8,gF),(9,gF),(10,gF),(11,gF),(12,gF),(13,gF),(14,gF),(15,gF),(16,bF),(18,gF),(19,gF),(20,gF),(21,bF)] (B6 (yba hv5).1 (yda ePt (yba hv5).2) (ybe hv6) (show PureAt Tryz.prog (.binOp .eql 27 (.tmp 14) (.tmp 15) 27) [vRt v5.1,vRt v6] (.bool ((v5.1.1==v6.1)&&(v5.1.2==v6.2))) from(yxb (by kernel_rfl))) ha1 ha1 (B6 ha1 ha1 ha1 ha1 ha1 ha1 (A6 ha1 ha1 fF fF fF fF))))
 refine yra ?_
 obtain rfl:=oi h
 exact er [(.p (.bool w11),2)]
theorem yrb1 {a0:Qr}  {r:Qr} (h:ylr a0=some r):Meets Tryz.prog 165 [.v (vRt a0)] { vals:=[.p (vRt r)] }:=by
 refine mo Tryz.func165 [(0,.p (vRt a0))] ?_
 unfold ylr at h
 refine kG [bR 1 a0,bX 2 zR] [] trivial ?_
 refine kG [bX 2 [rI (w64 (0-a0.1)),rI a0.2]] [] trivial ?_
 refine yra ?_
 obtain rfl:=oi h
 exact er [(.p (.agg #[.int .i64 (w64 (0-a0.1)),.int .i64 a0.2]),2)]
theorem yom {a0:(List Qr)}  {r:Bool} (h:yyj a0=some r):Meets Tryz.prog 166 [.d false [.sl none (a0.map eRt)]] { vals:=[.p (.bool r)] }:=by
 refine mo Tryz.func166 [dL 0 eRt a0] ?_
 unfold yyj at h
 refine kG [dL 0 eRt a0] [] trivial ?_
 refine ywb (J:=fun (x:Unit)=>[]) (K:=fun x=>ycq x=some r) (fun x1 h=>?_) ?_
 ·unfold ycq at h
  refine kG [pB 2 true] [] trivial ?_
  refine yra ?_
  obtain rfl:=oi h
  exact er [(.p (.bool true),2)]
 refine kG [dL 5 eRt a0,pL 6 a0,pI 7 0] [hN 1 a0] (A1 (lF eRt a0)) ?_
 refine yja ?_
 obtain⟨y3,hl_x2,hk_x2⟩:=bs h
 clear h
 refine yfd (J:=fun (x:Int)=>[dL 5 eRt a0,pL 6 a0,pI 7 x]) hl_x2 wkk (fun x2 o_x2 h hy_x2=>?_)
 unfold yfj at h
 refine kG [dL 5 eRt a0,pL 6 a0,pI 7 x2,pB 8 (decide (x2<(a0.length:Int)))] [] trivial ?_
 refine yib (kI h (fun hc5_3 h=>?_) (fun hc5_3 h=>?_))
 ·refine yia (q_n (yib (yja ?_)))
  obtain⟨v5,hv5,h⟩:=bs h
  refine kG [bR 4 v5,dL 5 eRt a0,pL 6 a0,pI 7 x2] [hR 0 (eRt v5)] (A2 (yba hv5).1 (yda eRt (yba hv5).2)) ?_
  obtain⟨v6,hv6,h⟩:=bs h
  refine kG [dL 5 eRt a0,pL 6 a0,pI 7 x2,pB 13 (!v6)] [hC 1 [.p (.bool v6)]] (A1 (yxm hv6)) ?_
  refine kI h (fun hc6_6 h=>?_) (fun hc6_6 h=>?_)
  ·refine kG [pB 2 false] [] trivial ?_
   refine yra (b_r (q_r (lq_r ?_)))
   refine b_r (q_r ?_)
   have hyy:=hy_x2 _ (oi h).symm
   subst hyy
   have h:=hk_x2
   dsimp only[Sum.elim] at h
   obtain rfl:=oi h
   exact er [(.p (.bool false),2)]
  refine yia (b_n (q_n (yrc (r_gq [dL 5 eRt a0,pL 6 a0,pI 7 (w64 (x2+1))] [] trivial) ?_)))
  exact lqn (w64 (x2+1)) h
 refine yzc (q_x (lq_x (b_x ?_)))
 have hyy:=hy_x2 _ (oi h).symm
 subst hyy
 have h:=hk_x2
 dsimp only[Sum.elim] at h
 refine q_n ?_
 exact jx () h
theorem ycr {a0:Int} {a1:Int}  {r:(Qr×Bool)} (h:yfm a0 a1=some r):Meets Tryz.prog 167 [wI a0,wI a1] { vals:=[.p (vRt r.1),.p (.bool r.2)] }:=by
 refine mo Tryz.func167 [pI 0 a0,pI 1 a1] ?_
 unfold yfm at h
 refine kG [pI 0 a0,pI 1 a1,bX 4 zR] [] trivial ?_
 obtain⟨v1,hv1,h⟩:=bs h
 refine kG [pI 0 a0,pI 1 a1,bX 4 zR,pI 6 v1] [hC 2 [.p (iV v1)]] (A1 (yyl hv1)) ?_
 refine ywb (J:=fun (x:Int)=>[pI 0 a0,pI 1 a1,bX 4 zR,pI 6 x]) (K:=fun x=>ymi a0 a1 x=some r) (fun x2 h=>?_) ?_
 ·unfold ymi at h
  obtain⟨u3,hu3,h⟩:=bs h
  refine ylb (r_dq yfa 8 [] [bX 4 zR,bX 7 [rI (w64 (Int.tdiv a0 x2)),rI (w64 (Int.tdiv a1 x2))]] [] (A2 (ycb hu3) (ycb hu3))) ?_
  refine yib ?_
  obtain⟨v4,hv4,h⟩:=bs h
  refine kG [bX 4 zR,bX 7 [rI (w64 (Int.tdiv a0 x2)),rI (w64 (Int.tdiv a1 x2))],pB 24 (!v4)] [hC 1 [.p (.bool v4)]] (A1 (yxm hv4)) ?_
  refine kI h (fun hc2_4 h=>?_) (fun hc2_4 h=>?_)
  ·refine kG [bX 4 zR,pB 5 false] [] trivial ?_
   refine yra (q_r ?_)
   obtain rfl:=oi h
   exact er [(.p (.agg #[.int .i64 0,.int .i64 0]),4),(.p (.bool false),5)]
  refine yia (q_n (kG [bX 4 [rI (w64 (Int.tdiv a0 x2)),rI (w64 (Int.tdiv a1 x2))],pB 5 true] [] trivial ?_))
  refine yra ?_
  obtain rfl:=oi h
  exact er [(.p (.agg #[.int .i64 (w64 (Int.tdiv a0 x2)),.int .i64 (w64 (Int.tdiv a1 x2))]),4),(.p (.bool true),5)]
 refine kG [pI 0 a0,pI 1 a1,bX 4 zR,pI 6 v1,pB 12 (decide (a1<0))] [] trivial ?_
 refine kI h (fun hc2_5 h=>?_) (fun hc2_5 h=>?_)
 ·refine yrc (r_gq [pI 0 a0,pI 1 a1,bX 4 zR,pI 6 (w64 (0-v1))] [] trivial) ?_
  refine q_n ?_
  exact jx (w64 (0-v1)) h
 refine yia (q_n ?_)
 exact jx v1 h
theorem yvt {a0:Qr} {a1:Qr}  {r:(Qr×Bool)} (h:yzj a0 a1=some r):Meets Tryz.prog 130 [.v (vRt a0),.v (vRt a1)] { vals:=[.p (vRt r.1),.p (.bool r.2)] }:=by
 refine mo Tryz.func130 [(0,.p (vRt a0)),(1,.p (vRt a1))] ?_
 unfold yzj at h
 refine kG [bR 2 a0,bR 3 a1,bX 4 zR] [] trivial ?_
 refine yib ?_
 obtain⟨v1,hv1,h⟩:=bs h
 refine kG [bR 2 a0,bR 3 a1,bX 4 zR,pB 10 (!v1)] [(3,(cS [.d false [.sl none (([a0,a1]).map eRt)]] [.p (.bool v1)]))] (A2 (show([.d false [.sl none (eraL (([a0,a1]).map eRt))]]:List Arg)=[.d false [.sl none (([a0,a1]).map eRt)]] from(by simp only[ywa (h:=eRt) (yyx er_I er_I)])) (yom hv1)) ?_
 refine kI h (fun hc2_1 h=>?_) (fun hc2_1 h=>?_)
 ·refine kG [bX 4 zR,pB 5 false] [] trivial ?_
  refine yra (q_r ?_)
  obtain rfl:=oi h
  exact er [(.p (.agg #[.int .i64 0,.int .i64 0]),4),(.p (.bool false),5)]
 refine yia (q_n ?_)
 obtain⟨v3,hv3,h⟩:=bs h
 refine kG [bR 4 v3.1,pB 5 v3.2] [hC 16 [.p (vRt v3.1),.p (.bool v3.2)]] (A1 (ycr hv3)) ?_
 refine yra ?_
 obtain rfl:=oi h
 exact er [(.p (vRt v3.1),4),(.p (.bool v3.2),5)]
theorem ygu {a0:Qr} {a1:Qr}  {r:(Qr×Bool)} (h:yzg a0 a1=some r):Meets Tryz.prog 128 [.v (vRt a0),.v (vRt a1)] { vals:=[.p (vRt r.1),.p (.bool r.2)] }:=by
 refine mo Tryz.func128 [(0,.p (vRt a0)),(1,.p (vRt a1))] ?_
 unfold yzg at h
 refine kG [bR 2 a0,bR 3 a1,bX 4 zR] [] trivial ?_
 obtain⟨v1,hv1,h⟩:=bs h
 obtain⟨v2,hv2,h⟩:=bs h
 refine ylb (r_dq yfa 3 [] [bR 4 v2.1,pB 5 v2.2] [hC 2 [.p (vRt v1)],hC 3 [.p (vRt v2.1),.p (.bool v2.2)]] (A2 (yrb1 hv1) (yvt hv2))) ?_
 refine yra ?_
 obtain rfl:=oi h
 exact er [(.p (vRt v2.1),4),(.p (.bool v2.2),5)]
theorem ylj {a0:Bool} {a1:Qr} {a2:Bool}  {r:(Qr×Bool)} (h:ywe a0 a1 a2=some r):MeetsB Tryz.prog 129 (.box [.raw (.bool a0)]) [.v (vRt a1),.v (.bool a2)] [.p (vRt r.1)] (.box [.raw (.bool r.2)]):=by
 refine mob Tryz.func129 [bX 0 [.raw (.bool a0)],(1,.p (vRt a1)),pB 2 a2] ?_
 unfold ywe at h
 refine kG [bX 0 [.raw (.bool a0)],pB 2 a2,bR 4 a1,bX 6 zR] [] trivial ?_
 refine yib (kG [bX 0 [.raw (.bool a0)],bR 4 a1,bX 6 zR,pB 8 (!a2)] [] trivial ?_)
 refine kI h (fun hc2_0 h=>?_) (fun hc2_0 h=>?_)
 ·refine kG [bX 0 [.raw (.bool true)],bX 6 zR] [] trivial ?_
  obtain⟨v2,hv2,h⟩:=bs h
  refine kG [bX 0 [.raw (.bool true)],bR 6 v2] [hC 0 [.p (vRt v2)]] (A1 (ybe hv2)) ?_
  refine yra (q_r ?_)
  obtain rfl:=oi h
  exact ebr [(.p (vRt v2),6)]
 refine yia (q_n (kG [bX 0 [.raw (.bool a0)],bR 6 a1] [] trivial ?_))
 refine yra ?_
 obtain rfl:=oi h
 exact ebr [(.p (vRt a1),6)]
theorem yuh {a0:Bool} {a1:Qr} {a2:Qr}  {r:(Qr×Bool)} (h:yxe a0 a1 a2=some r):MeetsB Tryz.prog 132 (.box [.raw (.bool a0)]) [.v (vRt a1),.v (vRt a2)] [.p (vRt r.1)] (.box [.raw (.bool r.2)]):=by
 refine mob Tryz.func132 [bX 0 [.raw (.bool a0)],(1,.p (vRt a1)),(2,.p (vRt a2))] ?_
 unfold yxe at h
 refine kG [bX 0 [.raw (.bool a0)],bR 4 a1,bR 5 a2,bX 6 zR] [] trivial ?_
 obtain⟨v1,hv1,h⟩:=bs h
 obtain⟨v2,hv2,h⟩:=bs h
 refine kG [bX 0 [.raw (.bool v2.2)],bR 6 v2.1] [hC 3 [.p (vRt v1.1),.p (.bool v1.2)],hT 6 [.p (vRt v2.1)] (.box [.raw (.bool v2.2)])] (A2 (ygu hv1) (ylj hv2)) ?_
 refine yra ?_
 obtain rfl:=oi h
 exact ebr [(.p (vRt v2.1),6)]
theorem yax {a0:Qr} {a1:Qr}  {r:(Qr×Bool)} (h:yhj a0 a1=some r):Meets Tryz.prog 206 [.v (vRt a0),.v (vRt a1)] { vals:=[.p (vRt r.1),.p (.bool r.2)] }:=by
 refine mo Tryz.func206 [(0,.p (vRt a0)),(1,.p (vRt a1))] ?_
 unfold yhj at h
 refine kG [bR 2 a0,bR 3 a1,bX 4 zR] [] trivial ?_
 refine yib ?_
 obtain⟨v1,hv1,h⟩:=bs h
 refine ylb (l1:=[bR 2 a0,bR 3 a1,bX 4 zR,pB 15 ((!v1)||(a1.1==0))]) ?_ ?_
 ·rcases ft (!v1) with ha0 | ha0
  ·exact RegOk.of_eq (r_gq [bR 2 a0,bR 3 a1,bX 4 zR,pB 15 true] [(3,(cS [.d false [.sl none (([a0,a1]).map eRt)]] [.p (.bool v1)])),(6,gT),(7,gT),(8,gT),(9,bT)] (A6 (show([.d false [.sl none (eraL (([a0,a1]).map eRt))]]:List Arg)=[.d false [.sl none (([a0,a1]).map eRt)]] from(by simp only[ywa (h:=eRt) (yyx er_I er_I)])) (yom hv1) ha0 ha0 ha0 ha0)) (by simp[ha0])
  exact RegOk.of_eq (r_gq [bR 2 a0,bR 3 a1,bX 4 zR,pB 15 (a1.1==0)] [(3,(cS [.d false [.sl none (([a0,a1]).map eRt)]] [.p (.bool v1)])),(6,gF),(7,gF),(8,gF),(9,bF)] (A6 (show([.d false [.sl none (eraL (([a0,a1]).map eRt))]]:List Arg)=[.d false [.sl none (([a0,a1]).map eRt)]] from(by simp only[ywa (h:=eRt) (yyx er_I er_I)])) (yom hv1) ha0 ha0 ha0 ha0)) (by simp[ha0])
 refine kI h (fun hc2_1 h=>?_) (fun hc2_1 h=>?_)
 ·refine kG [bX 4 zR,pB 5 false] [] trivial ?_
  refine yra (q_r ?_)
  obtain rfl:=oi h
  exact er [(.p (.agg #[.int .i64 0,.int .i64 0]),4),(.p (.bool false),5)]
 refine yia (q_n ?_)
 obtain⟨v3,hv3,h⟩:=bs h
 refine kG [bR 4 v3.1,pB 5 v3.2] [hC 10 [.p (vRt v3.1),.p (.bool v3.2)]] (A1 (ycr hv3)) ?_
 refine yra ?_
 obtain rfl:=oi h
 exact er [(.p (vRt v3.1),4),(.p (.bool v3.2),5)]
theorem yjs {a0:Bool} {a1:Qr} {a2:Qr}  {r:(Qr×Bool)} (h:ykk a0 a1 a2=some r):MeetsB Tryz.prog 196 (.box [.raw (.bool a0)]) [.v (vRt a1),.v (vRt a2)] [.p (vRt r.1)] (.box [.raw (.bool r.2)]):=by
 refine mob Tryz.func196 [bX 0 [.raw (.bool a0)],(1,.p (vRt a1)),(2,.p (vRt a2))] ?_
 unfold ykk at h
 refine kG [bX 0 [.raw (.bool a0)],bR 4 a1,bR 5 a2,bX 6 zR] [] trivial ?_
 obtain⟨v1,hv1,h⟩:=bs h
 obtain⟨v2,hv2,h⟩:=bs h
 refine kG [bX 0 [.raw (.bool v2.2)],bR 6 v2.1] [hC 3 [.p (vRt v1.1),.p (.bool v1.2)],hT 6 [.p (vRt v2.1)] (.box [.raw (.bool v2.2)])] (A2 (yax hv1) (ylj hv2)) ?_
 refine yra ?_
 obtain rfl:=oi h
 exact ebr [(.p (vRt v2.1),6)]
theorem ycm {a0:Bool} {a1:Qp} {a2:Qp}  {r:(Qr×Bool)} (h:yjf a0 a1 a2=some r):MeetsB Tryz.prog 175 (.box [.raw (.bool a0)]) [.v (vPt a1),.v (vPt a2)] [.p (vRt r.1)] (.box [.raw (.bool r.2)]):=by
 refine mob Tryz.func175 [bX 0 [.raw (.bool a0)],(1,.p (vPt a1)),(2,.p (vPt a2))] ?_
 unfold yjf at h
 refine kG [bX 0 [.raw (.bool a0)],bP 4 a1,bP 5 a2,bX 6 zR] [] trivial ?_
 obtain⟨v1,hv1,h⟩:=bs h
 obtain⟨v2,hv2,h⟩:=bs h
 obtain⟨v3,hv3,h⟩:=bs h
 refine ylb (r_dq yfa 13 [(6,0),(12,0)] [bX 0 [.raw (.bool v3.2)],bR 6 v3.1] [hT 6 [.p (vRt v1.1)] (.box [.raw (.bool v1.2)]),hT 12 [.p (vRt v2.1)] (.box [.raw (.bool v2.2)]),hT 13 [.p (vRt v3.1)] (.box [.raw (.bool v3.2)])] (A3 (yuh hv1) (yuh hv2) (yjs hv3))) ?_
 refine yra ?_
 obtain rfl:=oi h
 exact ebr [(.p (vRt v3.1),6)]
theorem ydr {a0:(List Qp)}  {r:(List Qr)} (h:yqi a0=some r):Meets Tryz.prog 142 [.d false (sP a0)] { vals:=[rO 27 eRt r] }:=by
 refine mo Tryz.func142 [dP 0 a0] ?_
 unfold yqi at h
 refine kG [dP 0 a0] [] trivial ?_
 refine kG [dP 0 a0,bX 3 [.raw (.bool false)]] [] trivial ?_
 refine kG [dP 0 a0,bX 3 [.raw (.bool false)],vN 4 27] [] trivial ?_
 refine ywb (J:=fun (x:(List Qr))=>[vL 4 27 eRt x]) (K:=fun x=>ynr x=some r) (fun x1 h=>?_) ?_
 ·unfold ynr at h
  refine kG [vL 2 27 eRt x1] [] trivial ?_
  refine yra ?_
  obtain rfl:=oi h
  exact er [(.ov false [.sl (some 27) (x1.map eRt)],2)]
 refine kG [dP 0 a0,bX 3 [.raw (.bool false)],vN 4 27,pI 5 1] [] trivial ?_
 refine yja ?_
 obtain⟨y3,hl_x2,hk_x2⟩:=bs h
 clear h
 refine yfd (J:=fun (x:(Bool×(List Qr)×Int))=>[dP 0 a0,bX 3 [.raw (.bool x.1)],vL 4 27 eRt x.2.1,pI 5 x.2.2]) hl_x2 wkk (fun x2 o_x2 h hy_x2=>?_)
 unfold yze at h
 refine yib (kG [dP 0 a0,bX 3 [.raw (.bool x2.1)],vL 4 27 eRt x2.2.1,pI 5 x2.2.2,pB 9 (decide (x2.2.2<(a0.length:Int)))] [hN 2 a0] (A1 (lnP a0)) ?_)
 refine kI h (fun hc5_3 h=>?_) (fun hc5_3 h=>?_)
 ·refine yia (q_n (yib (yja ?_)))
  obtain⟨v5,hv5,h⟩:=bs h
  obtain⟨v6,hv6,h⟩:=bs h
  obtain⟨v7,hv7,h⟩:=bs h
  obtain⟨u8,hu8,h⟩:=bs h
  refine yrc (r_dq yfa 12 [(10,3)] [dP 0 a0,bX 3 [.raw (.bool v7.2)],vL 4 27 eRt (x2.2.1++[v7.1]),pI 5 x2.2.2] [hR 4 (ePt v5),hR 8 (ePt v6),hT 10 [.p (vRt v7.1)] (.box [.raw (.bool v7.2)]),(12,{fix:=some (vL 24 27 eRt (x2.2.1++[v7.1]))})] (B6 (yba hv5).1 (yda ePt (yba hv5).2) (yba hv6).1 (yda ePt (yba hv6).2) (ycm hv7) (lG' eRt hu8) (A2 (show ∀ row∈((([v7.1]).map eRt):List (List C)),row.length=2 from(ynb fun _=>rfl)) (aP' 27 eRt x2.2.1 ([v7.1]))))) ?_
  refine b_n (q_n (yrc (r_gq [dP 0 a0,bX 3 [.raw (.bool v7.2)],vL 4 27 eRt (x2.2.1++[v7.1]),pI 5 (w64 (x2.2.2+1))] [] trivial) ?_))
  exact lqn (v7.2,(x2.2.1++[v7.1]),(w64 (x2.2.2+1))) h
 refine yzc (q_x (lq_x (b_x ?_)))
 have hyy:=hy_x2 _ (oi h).symm
 subst hyy
 have h:=hk_x2
 refine q_n ?_
 exact jx x2.2.1 h
theorem yvh {a0:(List Qr)} {a1:(Qr->Option Bool)} {F1:FuncId} (hp1:∀ x0 y,a1 x0=some y->Meets Tryz.prog F1 ([.v (vRt x0)]++[]) { vals:=[.p (.bool y)] }) {r:Int} (h:yma a0 a1=some r):Meets Tryz.prog 195 [.d false [.sl none (a0.map eRt)],.v (.func (.func F1) #[] #[])] { vals:=[.p (iV r)] }:=by
 refine mo Tryz.func195 [dL 0 eRt a0,(1,.p (.func (.func F1) #[] #[]))] ?_
 unfold yma at h
 refine kG [dL 0 eRt a0,(1,.p (.func (.func F1) #[] #[]))] [] trivial ?_
 refine ywb (J:=fun (x:Unit)=>[]) (K:=fun x=>ysa x=some r) (fun x1 h=>?_) ?_
 ·unfold ysa at h
  refine kG [pI 4 (-1)] [] trivial ?_
  refine yra ?_
  obtain rfl:=oi h
  exact er [(.p (iV (-1)),4)]
 refine kG [dL 0 eRt a0,(1,.p (.func (.func F1) #[] #[])),pL 7 a0,pI 8 0] [hN 1 a0] (A1 (lF eRt a0)) ?_
 refine yja ?_
 obtain⟨y3,hl_x2,hk_x2⟩:=bs h
 clear h
 refine yfd (J:=fun (x:Int)=>[dL 0 eRt a0,(1,.p (.func (.func F1) #[] #[])),pL 7 a0,pI 8 x]) hl_x2 wkk (fun x2 o_x2 h hy_x2=>?_)
 unfold yka at h
 refine kG [dL 0 eRt a0,(1,.p (.func (.func F1) #[] #[])),pL 7 a0,pI 8 x2,pB 9 (decide (x2<(a0.length:Int)))] [] trivial ?_
 refine yib (kI h (fun hc5_3 h=>?_) (fun hc5_3 h=>?_))
 ·refine yia (q_n (yib (yja (kG [dL 0 eRt a0,(1,.p (.func (.func F1) #[] #[])),pI 5 x2,pL 7 a0,pI 8 x2] [] trivial ?_))))
  obtain⟨v5,hv5,h⟩:=bs h
  obtain⟨v6,hv6,h⟩:=bs h
  refine kG [dL 0 eRt a0,(1,.p (.func (.func F1) #[] #[])),pI 5 x2,pL 7 a0,pI 8 x2,pB 16 v6] [hR 3 (eRt v5),hC 5 [.p (.bool v6)]] (A3 (yba hv5).1 (yda eRt (yba hv5).2) (hp1 _ _ hv6)) ?_
  refine kI h (fun hc6_6 h=>?_) (fun hc6_6 h=>?_)
  ·refine kG [pI 4 x2] [] trivial ?_
   refine yra (b_r (q_r (lq_r ?_)))
   refine b_r (q_r ?_)
   have hyy:=hy_x2 _ (oi h).symm
   subst hyy
   have h:=hk_x2
   dsimp only[Sum.elim] at h
   obtain rfl:=oi h
   exact er [(.p (iV x2),4)]
  refine yia (b_n (q_n (yrc (r_gq [dL 0 eRt a0,(1,.p (.func (.func F1) #[] #[])),pL 7 a0,pI 8 (w64 (x2+1))] [] trivial) ?_)))
  exact lqn (w64 (x2+1)) h
 refine yzc (q_x (lq_x (b_x ?_)))
 have hyy:=hy_x2 _ (oi h).symm
 subst hyy
 have h:=hk_x2
 dsimp only[Sum.elim] at h
 refine q_n ?_
 exact jx () h
theorem yyg {a0:(List Qr)} {a1:(Qr->Option Bool)} {F1:FuncId} (hp1:∀ x0 y,a1 x0=some y->Meets Tryz.prog F1 ([.v (vRt x0)]++[]) { vals:=[.p (.bool y)] }) {r:Bool} (h:yta a0 a1=some r):Meets Tryz.prog 173 [.d false [.sl none (a0.map eRt)],.v (.func (.func F1) #[] #[])] { vals:=[.p (.bool r)] }:=by
 refine mo Tryz.func173 [dL 0 eRt a0,(1,.p (.func (.func F1) #[] #[]))] ?_
 unfold yta at h
 refine kG [dL 0 eRt a0,(1,.p (.func (.func F1) #[] #[]))] [] trivial ?_
 obtain⟨v1,hv1,h⟩:=bs h
 refine kG [pB 4 (decide (v1>=0))] [hC 2 [.p (iV v1)]] (A1 (show Meets Tryz.prog 195 ([.d false [.sl none (a0.map eRt)],.v (.func (.func F1) #[] #[])]++[]) { vals:=[.p (iV v1)] } from(yvh hp1 hv1))) ?_
 refine yra ?_
 obtain rfl:=oi h
 exact er [(.p (.bool (decide (v1>=0))),4)]
theorem ybx {a0:Qr}  {r:Bool} (h:ysm a0=some r):Meets Tryz.prog 174 [.v (vRt a0)] { vals:=[.p (.bool r)] }:=by
 refine mo Tryz.func174 [(0,.p (vRt a0))] ?_
 unfold ysm at h
 refine kG [bR 1 a0] [] trivial ?_
 refine kG [pB 2 (a0.1==0)] [] trivial ?_
 refine yra ?_
 obtain rfl:=oi h
 exact er [(.p (.bool (a0.1==0)),2)]
theorem yzz {a0:(List Qp)}  {r:Bool} (h:yfn a0=some r):Meets Tryz.prog 141 [.d false (sP a0)] { vals:=[.p (.bool r)] }:=by
 refine mo Tryz.func141 [dP 0 a0] ?_
 unfold yfn at h
 refine kG [dP 0 a0] [] trivial ?_
 obtain⟨v1,hv1,h⟩:=bs h
 obtain⟨w4,hw4,h⟩:=bs h
 refine ylb (l1:=[pB 2 w4]) ?_ ?_
 ·clear h
  rcases ft v1 with ha0 | ha0
  ·obtain⟨v2,hv2,hw4⟩:=bs (yon ha0 hw4)
   obtain⟨v3,hv3,hw4⟩:=bs hw4
   have hw4:=oi hw4
   subst hw4
   exact(r_gq [pB 2 (!v3)] [hC 1 [.p (.bool v1)],(3,gT),(4,{g:=some true,call:=some (none,[rO 27 eRt v2],true)}),(5,{g:=some true,call:=some (some [.d false [.sl none (v2.map eRt)],.v (.func (.func 174) #[] #[])],[.p (.bool v3)],true)}),(6,gT),(7,bT)] (B6 (yve hv1) ha0 ha0 (ydr hv2) (sR' 27 v2) ha0 (A4 (show([.d false [.sl none (eraL (v2.map eRt))],.v (.func (.func 174) #[] #[])]:List Arg)=[.d false [.sl none (v2.map eRt)],.v (.func (.func 174) #[] #[])] from(by simp only[ywa (h:=eRt) (yyx er_I er_I)])) (show Meets Tryz.prog 173 ([.d false [.sl none (v2.map eRt)],.v (.func (.func 174) #[] #[])]++[]) { vals:=[.p (.bool v3)] } from(yyg (fun x0 y hy=>ybx hy) hv3)) ha0 ha0)))
  replace hw4:=ypn ha0 hw4
  have hw4:=oi hw4
  subst hw4
  exact(r_gq [pB 2 false] [hC 1 [.p (.bool v1)],(3,gF),(4,gF),(5,gF),(6,gF),(7,bF)] (A6 (yve hv1) ha0 ha0 ha0 ha0 ha0))
 refine yra ?_
 obtain rfl:=oi h
 exact er [(.p (.bool w4),2)]
theorem ywh {a0:(List Qp)}  {r:Bool} (h:yaf a0=some r):Meets Tryz.prog 90 [.d false (sP a0)] { vals:=[.p (.bool r)] }:=by
 refine mo Tryz.func90 [dP 0 a0] ?_
 unfold yaf at h
 refine kG [dP 0 a0] [] trivial ?_
 obtain⟨v1,hv1,h⟩:=bs h
 refine kG [pB 2 v1] [hC 1 [.p (.bool v1)]] (A1 (yzz hv1)) ?_
 refine yra ?_
 obtain rfl:=oi h
 exact er [(.p (.bool v1),2)]
theorem yaa1 {a0:Qr}  {r:Int} (h:ylt a0=some r):Meets Tryz.prog 143 [.v (vRt a0)] { vals:=[.p (iV r)] }:=by
 refine mo Tryz.func143 [(0,.p (vRt a0))] ?_
 unfold ylt at h
 refine kG [bR 1 a0] [] trivial ?_
 obtain⟨v1,hv1,h⟩:=bs h
 obtain⟨v2,hv2,h⟩:=bs h
 refine ylb (r_dq yfa 2 [] [pI 2 v2] [hC 1 [.p (vRt v1)],hC 2 [.p (iV v2)]] (A2 (ybe hv1) (ynm hv2))) ?_
 refine yra ?_
 obtain rfl:=oi h
 exact er [(.p (iV v2),2)]
theorem yer {a0:(List Qp)}  {r:(List (List Int))} (h:yop a0=some r):Meets Tryz.prog 91 [.d false (sP a0)] { vals:=[rO 50 (eO 3 eI) r] }:=by
 refine mo Tryz.func91 [dP 0 a0] ?_
 unfold yop at h
 refine kG [dP 0 a0] [] trivial ?_
 refine kG [dP 0 a0,vN 3 50] [] trivial ?_
 refine ywb (J:=fun (x:(List (List Int)))=>[vL 3 50 (eO 3 eI) x]) (K:=fun x=>yru x=some r) (fun x1 h=>?_) ?_
 ·unfold yru at h
  refine kG [vL 2 50 (eO 3 eI) x1] [] trivial ?_
  refine yra ?_
  obtain rfl:=oi h
  exact er [(.ov false [.sl (some 50) (x1.map (eO 3 eI))],2)]
 obtain⟨v2,hv2,h⟩:=bs h
 refine kG [vN 3 50,vL 8 27 eRt v2,pL 9 v2,pI 10 0] [hC 1 [rO 27 eRt v2],hN 2 v2] (A3 (ydr hv2) (sR' 27 v2) (lF eRt v2)) ?_
 refine yja ?_
 obtain⟨y4,hl_x3,hk_x3⟩:=bs h
 clear h
 refine yfd (J:=fun (x:((List (List Int))×Int))=>[vL 3 50 (eO 3 eI) x.1,vL 8 27 eRt v2,pL 9 v2,pI 10 x.2]) hl_x3 wkk (fun x3 o_x3 h hy_x3=>?_)
 unfold yjm at h
 refine kG [vL 3 50 (eO 3 eI) x3.1,vL 8 27 eRt v2,pL 9 v2,pI 10 x3.2,pB 11 (decide (x3.2<(v2.length:Int)))] [] trivial ?_
 refine yib (kI h (fun hc5_4 h=>?_) (fun hc5_4 h=>?_))
 ·refine yia (q_n (yib (yja ?_)))
  obtain⟨v6,hv6,h⟩:=bs h
  refine kG [vL 3 50 (eO 3 eI) x3.1,pI 4 x3.2,bR 5 v6,vL 8 27 eRt v2,pL 9 v2,pI 10 x3.2] [hR 1 (eRt v6),hR 2 (eRt v6)] (A3 (yba hv6).1 (yda eRt (yba hv6).2) (gW 27 eRt hv6)) ?_
  refine kG [vL 3 50 (eO 3 eI) x3.1,pI 4 x3.2,bR 5 v6,pI 6 (w64 ((x3.1.length:Int)-1)),vL 8 27 eRt v2,pL 9 v2,pI 10 x3.2] [hN 1 x3.1] (A1 (lF (eO 3 eI) x3.1)) ?_
  obtain⟨w10,hw10,h⟩:=bs h
  refine ylb (l1:=[vL 3 50 (eO 3 eI) x3.1,pI 4 x3.2,bR 5 v6,pI 6 (w64 ((x3.1.length:Int)-1)),vL 8 27 eRt v2,pL 9 v2,pI 10 x3.2,pB 30 w10]) ?_ ?_
  ·clear h
   rcases ft (decide ((w64 ((x3.1.length:Int)-1))>=0)) with ha1 | ha1
   ·obtain⟨v7,hv7,hw10⟩:=bs (yon ha1 hw10)
    obtain⟨v8,hv8,hw10⟩:=bs hw10
    obtain⟨v9,hv9,hw10⟩:=bs hw10
    have hw10:=oi hw10
    subst hw10
    exact(r_dq yfa 11 [] [vL 3 50 (eO 3 eI) x3.1,pI 4 x3.2,bR 5 v6,pI 6 (w64 ((x3.1.length:Int)-1)),vL 8 27 eRt v2,pL 9 v2,pI 10 x3.2,pB 30 (v8==v9)] [(3,gT),(4,gT),(5,{g:=some true,row:=some [.sl (some 3) (v7.map eI)]}),(6,{g:=some true,row:=some [.sl (some 3) (v7.map eI)]}),(7,{g:=some true,deep:=some [.sl (some 3) (v7.map eI)],row:=some (eI v8)}),(8,{g:=some true,row:=some (eI v8)}),(9,gT),(10,{g:=some true,call:=some (none,[.p (iV v9)],true)}),(11,gT),(12,bT)] (B6 ha1 ha1 ha1 (yba hv7).1 (yda (eO 3 eI) (yba hv7).2) ha1 (B6 (show frR [.sl (some 3) (v7.map eI)]=false from rfl) (gW 50 (eO 3 eI) hv7) ha1 (yba hv8).1 (yda eI (yba hv8).2) (gW 50 (eO 3 eI) hv7) (B6 ha1 (show getRow [[.sl (some 50) (x3.1.map (eO 3 eI))]] [(0,0),((Int.toNat (w64 ((x3.1.length:Int)-1))),0),((Int.toNat 2),0)]=some (eI v8) from((gr0 rfl).trans ((grs (yda (eO 3 eI) (yba hv7).2) rfl).trans (gre (yda eI (yba hv8).2))))) ha1 ha1 (yaa1 hv9) ha1 (A1 ha1)))))
   replace hw10:=ypn ha1 hw10
   have hw10:=oi hw10
   subst hw10
   exact(r_dq yfa 11 [] [vL 3 50 (eO 3 eI) x3.1,pI 4 x3.2,bR 5 v6,pI 6 (w64 ((x3.1.length:Int)-1)),vL 8 27 eRt v2,pL 9 v2,pI 10 x3.2,pB 30 false] [(3,gF),(4,gF),(5,gF),(6,gF),(7,gF),(8,gF),(9,gF),(10,gF),(11,gF),(12,bF)] (B6 ha1 ha1 ha1 ha1 ha1 ha1 (A4 ha1 ha1 ha1 ha1)))
  refine kI h (fun hc6_10 h=>?_) (fun hc6_10 h=>?_)
  ·obtain⟨v12,hv12,h⟩:=bs h
   obtain⟨v13,hv13,h⟩:=bs h
   refine yrc (r_gq [vL 3 50 (eO 3 eI) (x3.1.set (Int.toNat (w64 ((x3.1.length:Int)-1))) (v12.set (Int.toNat 1) (w64 (x3.2+1)))),vL 8 27 eRt v2,pL 9 v2,pI 10 x3.2] [hR 2 [.sl (some 3) (v12.map eI)],hR 3 [.sl (some 3) (v12.map eI)],(6,{deep:=some [.sl (some 3) (v12.map eI)],row:=some (eI v13)}),(7,{row:=some (eI v13),fix:=some (vL 3 50 (eO 3 eI) (x3.1.set (Int.toNat (w64 ((x3.1.length:Int)-1))) (v12.set (Int.toNat 1) (w64 (x3.2+1)))))})] (B6 (yba hv12).1 (yda (eO 3 eI) (yba hv12).2) (show frR [.sl (some 3) (v12.map eI)]=false from rfl) (gW 50 (eO 3 eI) hv12) (yba hv13).1 (yda eI (yba hv13).2) (A3 (gW 50 (eO 3 eI) hv12) (show getRow [[.sl (some 50) (x3.1.map (eO 3 eI))]] [(0,0),((Int.toNat (w64 ((x3.1.length:Int)-1))),0),((Int.toNat 1),0)]=some (eI v13) from((gr0 rfl).trans ((grs (yda (eO 3 eI) (yba hv12).2) rfl).trans (gre (yda eI (yba hv13).2))))) (show(SV.ov false [.sl (some 50) (setL (x3.1.map (eO 3 eI)) [((Int.toNat (w64 ((x3.1.length:Int)-1))),0),((Int.toNat 1),0)] [rI (w64 (x3.2+1))])]:SV)=.ov false [.sl (some 50) ((x3.1.set (Int.toNat (w64 ((x3.1.length:Int)-1))) (v12.set (Int.toNat 1) (w64 (x3.2+1)))).map (eO 3 eI))] from(congrArg (fun z=>SV.ov false [.sl (some 50) z]) (set2 (f:=(eO 3 eI)) (y:=(v12.set (Int.toNat 1) (w64 (x3.2+1)))) (yba hv12).2 rfl (set1 (f:=eI) (y:=(w64 (x3.2+1))) (yba hv13).2 rfl) rfl)))))) ?_
   refine b_n (q_n (yrc (r_gq [vL 3 50 (eO 3 eI) (x3.1.set (Int.toNat (w64 ((x3.1.length:Int)-1))) (v12.set (Int.toNat 1) (w64 (x3.2+1)))),vL 8 27 eRt v2,pL 9 v2,pI 10 (w64 (x3.2+1))] [] trivial) ?_))
   exact lqn ((x3.1.set (Int.toNat (w64 ((x3.1.length:Int)-1))) (v12.set (Int.toNat 1) (w64 (x3.2+1)))),(w64 (x3.2+1))) h
  obtain⟨v14,hv14,h⟩:=bs h
  obtain⟨u15,hu15,h⟩:=bs h
  refine yrc (r_gq [vL 3 50 (eO 3 eI) (x3.1++[[x3.2,(w64 (x3.2+1)),v14]]),vL 8 27 eRt v2,pL 9 v2,pI 10 x3.2] [hC 5 [.p (iV v14)],(8,{fix:=some (vL 46 50 (eO 3 eI) (x3.1++[[x3.2,(w64 (x3.2+1)),v14]]))})] (A4 (yaa1 hv14) (lG' (eO 3 eI) hu15) (show ∀ row∈((([[x3.2,(w64 (x3.2+1)),v14]]).map (eO 3 eI)):List (List C)),row.length=1 from(ynb fun _=>rfl)) (aP' 50 (eO 3 eI) x3.1 ([[x3.2,(w64 (x3.2+1)),v14]])))) ?_
  refine b_n (q_n (yrc (r_gq [vL 3 50 (eO 3 eI) (x3.1++[[x3.2,(w64 (x3.2+1)),v14]]),vL 8 27 eRt v2,pL 9 v2,pI 10 (w64 (x3.2+1))] [] trivial) ?_))
  exact lqn ((x3.1++[[x3.2,(w64 (x3.2+1)),v14]]),(w64 (x3.2+1))) h
 refine yzc (q_x (lq_x (b_x ?_)))
 have hyy:=hy_x3 _ (oi h).symm
 subst hyy
 have h:=hk_x3
 refine q_n ?_
 exact jx x3.1 h
theorem yjf1 {a0:(List Qp)}  {r:(List Qr)} (h:ytq a0=some r):Meets Tryz.prog 168 [.d false (sP a0)] { vals:=[rO 27 eRt r] }:=by
 refine mo Tryz.func168 [dP 0 a0] ?_
 unfold ytq at h
 refine kG [dP 0 a0] [] trivial ?_
 refine kG [dP 0 a0,vN 3 27] [] trivial ?_
 refine ywb (J:=fun (x:(List Qr))=>[vL 3 27 eRt x]) (K:=fun x=>yvs x=some r) (fun x1 h=>?_) ?_
 ·unfold yvs at h
  refine kG [vL 2 27 eRt x1] [] trivial ?_
  refine yra ?_
  obtain rfl:=oi h
  exact er [(.ov false [.sl (some 27) (x1.map eRt)],2)]
 obtain⟨v2,hv2,h⟩:=bs h
 obtain⟨u3,hu3,h⟩:=bs h
 refine kG [dP 0 a0,vN 3 27,dL 8 (eF eI) (v2.drop (Int.toNat 1)),pL 9 (v2.drop (Int.toNat 1)),pI 10 0] [hC 1 [rO 50 (eO 3 eI) v2],(2,{pre:=some (dL 7 (eF eI) v2),fix:=some (dL 8 (eF eI) (v2.drop (Int.toNat 1)))}),hN 3 (v2.drop (Int.toNat 1))] (B6 (yer hv2) (show List.all [rO 50 (eO 3 eI) v2] simpleR=true from(sa_o (wnR1 (ysc (wn_O wn_I)) rfl) rfl)) (show(SV.d false (eraR [.sl (some 50) (v2.map (eO 3 eI))]):SV)=.d false [.sl none (v2.map (eF eI))] from(congrArg (fun z=>SV.d false z) (ybs (ywa (yhp1 er_I)) rfl))) (show(Int.toNat 1)<=(v2.map (eF eI)).length from(by have hg:=(ycb hu3);first | (simp only[List.length_map];omega) | omega)) (show(v2.map (eF eI)).length<=(v2.map (eF eI)).length from(Nat.le_refl _)) (show ∀ row∈(v2.map (eF eI)),row.length=1 from(ynb fun _=>rfl)) (A3 (show(0:Int)<=1 from(by have hg:=(ycb hu3);omega)) (show(SV.d false [.sl none (((v2.map (eF eI)).take (v2.map (eF eI)).length).drop (Int.toNat 1))]:SV)=.d false [.sl none ((v2.drop (Int.toNat 1)).map (eF eI))] from(congrArg (fun z=>SV.d false [.sl none z]) yxz1)) (lF (eF eI) (v2.drop (Int.toNat 1))))) ?_
 refine yja ?_
 obtain⟨y5,hl_x4,hk_x4⟩:=bs h
 clear h
 refine yfd (J:=fun (x:((List Qr)×Int))=>[dP 0 a0,vL 3 27 eRt x.1,dL 8 (eF eI) (v2.drop (Int.toNat 1)),pL 9 (v2.drop (Int.toNat 1)),pI 10 x.2]) hl_x4 wkk (fun x4 o_x4 h hy_x4=>?_)
 unfold ynk at h
 refine kG [dP 0 a0,vL 3 27 eRt x4.1,dL 8 (eF eI) (v2.drop (Int.toNat 1)),pL 9 (v2.drop (Int.toNat 1)),pI 10 x4.2,pB 11 (decide (x4.2<((v2.drop (Int.toNat 1)).length:Int)))] [] trivial ?_
 refine yib (kI h (fun hc5_5 h=>?_) (fun hc5_5 h=>?_))
 ·refine yia (q_n (yib (yja ?_)))
  obtain⟨v7,hv7,h⟩:=bs h
  refine kG [dP 0 a0,vL 3 27 eRt x4.1,dL 5 eI v7,dL 8 (eF eI) (v2.drop (Int.toNat 1)),pL 9 (v2.drop (Int.toNat 1)),pI 10 x4.2] [hR 0 [.sl none (v7.map eI)]] (A2 (yba hv7).1 (yda (eF eI) (yba hv7).2)) ?_
  obtain⟨v8,hv8,h⟩:=bs h
  obtain⟨v9,hv9,h⟩:=bs h
  obtain⟨u10,hu10,h⟩:=bs h
  refine yrc (r_gq [dP 0 a0,vL 3 27 eRt (x4.1++[v9.1]),dL 8 (eF eI) (v2.drop (Int.toNat 1)),pL 9 (v2.drop (Int.toNat 1)),pI 10 x4.2] [hR 3 (eI v8),hR 5 (ePt v9),(9,{fix:=some (vL 23 27 eRt (x4.1++[v9.1]))})] (B6 (yba hv8).1 (yda eI (yba hv8).2) (yba hv9).1 (yda ePt (yba hv9).2) (lG' eRt hu10) (show ∀ row∈((([v9.1]).map eRt):List (List C)),row.length=2 from(ynb fun _=>rfl)) (A1 (aP' 27 eRt x4.1 ([v9.1]))))) ?_
  refine b_n (q_n (yrc (r_gq [dP 0 a0,vL 3 27 eRt (x4.1++[v9.1]),dL 8 (eF eI) (v2.drop (Int.toNat 1)),pL 9 (v2.drop (Int.toNat 1)),pI 10 (w64 (x4.2+1))] [] trivial) ?_))
  exact lqn ((x4.1++[v9.1]),(w64 (x4.2+1))) h
 refine yzc (q_x (lq_x (b_x ?_)))
 have hyy:=hy_x4 _ (oi h).symm
 subst hyy
 have h:=hk_x4
 refine q_n ?_
 exact jx x4.1 h
theorem yqg {a0:(List Qp)} {a1:(Qp->Option Bool)} {F1:FuncId} {K1:List (Bool×List C)} (hp1:∀ x0 y,a1 x0=some y->Meets Tryz.prog F1 ([.v (vPt x0)]++(K1.map fun (g,cs)=>mkA g cs)) { vals:=[.p (.bool y)] }) {r:Int} (h:yga a0 a1=some r):Meets Tryz.prog 159 [.d false (sP a0),.d false [.fn F1 K1]] { vals:=[.p (iV r)] }:=by
 refine mo Tryz.func159 [dP 0 a0,(1,.d false [.fn F1 K1])] ?_
 unfold yga at h
 refine kG [dP 0 a0,(1,.d false [.fn F1 K1])] [] trivial ?_
 refine ywb (J:=fun (x:Unit)=>[]) (K:=fun x=>ypa x=some r) (fun x1 h=>?_) ?_
 ·unfold ypa at h
  refine kG [pI 4 (-1)] [] trivial ?_
  refine yra ?_
  obtain rfl:=oi h
  exact er [(.p (iV (-1)),4)]
 refine kG [dP 0 a0,(1,.d false [.fn F1 K1]),pL 7 a0,pI 8 0] [hN 1 a0] (A1 (lnP a0)) ?_
 refine yja ?_
 obtain⟨y3,hl_x2,hk_x2⟩:=bs h
 clear h
 refine yfd (J:=fun (x:Int)=>[dP 0 a0,(1,.d false [.fn F1 K1]),pL 7 a0,pI 8 x]) hl_x2 wkk (fun x2 o_x2 h hy_x2=>?_)
 unfold yca at h
 refine kG [dP 0 a0,(1,.d false [.fn F1 K1]),pL 7 a0,pI 8 x2,pB 9 (decide (x2<(a0.length:Int)))] [] trivial ?_
 refine yib (kI h (fun hc5_3 h=>?_) (fun hc5_3 h=>?_))
 ·refine yia (q_n (yib (yja (kG [dP 0 a0,(1,.d false [.fn F1 K1]),pI 5 x2,pL 7 a0,pI 8 x2] [] trivial ?_))))
  obtain⟨v5,hv5,h⟩:=bs h
  obtain⟨v6,hv6,h⟩:=bs h
  refine kG [dP 0 a0,(1,.d false [.fn F1 K1]),pI 5 x2,pL 7 a0,pI 8 x2,pB 16 v6] [hR 3 (ePt v5),hC 5 [.p (.bool v6)]] (A3 (yba hv5).1 (yda ePt (yba hv5).2) (hp1 _ _ hv6)) ?_
  refine kI h (fun hc6_6 h=>?_) (fun hc6_6 h=>?_)
  ·refine kG [pI 4 x2] [] trivial ?_
   refine yra (b_r (q_r (lq_r ?_)))
   refine b_r (q_r ?_)
   have hyy:=hy_x2 _ (oi h).symm
   subst hyy
   have h:=hk_x2
   dsimp only[Sum.elim] at h
   obtain rfl:=oi h
   exact er [(.p (iV x2),4)]
  refine yia (b_n (q_n (yrc (r_gq [dP 0 a0,(1,.d false [.fn F1 K1]),pL 7 a0,pI 8 (w64 (x2+1))] [] trivial) ?_)))
  exact lqn (w64 (x2+1)) h
 refine yzc (q_x (lq_x (b_x ?_)))
 have hyy:=hy_x2 _ (oi h).symm
 subst hyy
 have h:=hk_x2
 dsimp only[Sum.elim] at h
 refine q_n ?_
 exact jx () h
theorem yky {a0:Qp} {c0:Qr}  {r:Bool} (h:ywd a0 c0=some r):Meets Tryz.prog 202 [.v (vPt a0),.d false [.pt (eRt c0)]] { vals:=[.p (.bool r)] }:=by
 refine mo Tryz.func202 [(0,.p (vPt a0)),(1,.d false [.pt (eRt c0)])] ?_
 unfold ywd at h
 refine kG [(1,.d false [.pt (eRt c0)]),bP 2 a0] [] trivial ?_
 obtain⟨v1,hv1,h⟩:=bs h
 refine kG [pB 3 (!v1)] [hC 3 [.p (.bool v1)]] (A1 (ypg hv1)) ?_
 refine yra ?_
 obtain rfl:=oi h
 exact er [(.p (.bool (!v1)),3)]
theorem ysb1 {a0:(List Qp)} {a1:Qr}  {r:Int} (h:yck a0 a1=some r):Meets Tryz.prog 180 [.d false (sP a0),.v (vRt a1)] { vals:=[.p (iV r)] }:=by
 refine mo Tryz.func180 [dP 0 a0,(1,.p (vRt a1))] ?_
 unfold yck at h
 refine kG [dP 0 a0,bR 3 a1] [] trivial ?_
 refine ysz1 3 (eRt a1) (eRt a1) [dP 0 a0,(3,.d false [.pt (eRt a1)])] (by kernel_rfl) (yoc1 (yoc1 rfl)) (by kernel_rfl) (by kernel_rfl) ?_
 obtain⟨v1,hv1,h⟩:=bs h
 refine kG [pI 5 v1] [hC 2 [.p (iV v1)]] (A1 (show Meets Tryz.prog 159 ([.d false (sP a0),.d false [.fn 202 [(false,[.pt (eRt a1)])]]]++[]) { vals:=[.p (iV v1)] } from(yqg (fun x0 y hy=>yky hy) hv1))) ?_
 refine kG [pI 4 (if(w64 (v1-1))<0 then 0 else(w64 (v1-1)))] [] trivial ?_
 refine yra ?_
 obtain rfl:=oi h
 exact er [(.p (iV (if(w64 (v1-1))<0 then 0 else(w64 (v1-1)))),4)]
theorem yhu {a0:Qr} {a1:Qr}  {r:(Qr×Bool)} (h:yah a0 a1=some r):Meets Tryz.prog 209 [.v (vRt a0),.v (vRt a1)] { vals:=[.p (vRt r.1),.p (.bool r.2)] }:=by
 refine mo Tryz.func209 [(0,.p (vRt a0)),(1,.p (vRt a1))] ?_
 unfold yah at h
 refine kG [bR 2 a0,bR 3 a1,bX 4 zR] [] trivial ?_
 refine yib ?_
 obtain⟨v1,hv1,h⟩:=bs h
 refine kG [bR 2 a0,bR 3 a1,bX 4 zR,pB 10 (!v1)] [(3,(cS [.d false [.sl none (([a0,a1]).map eRt)]] [.p (.bool v1)]))] (A2 (show([.d false [.sl none (eraL (([a0,a1]).map eRt))]]:List Arg)=[.d false [.sl none (([a0,a1]).map eRt)]] from(by simp only[ywa (h:=eRt) (yyx er_I er_I)])) (yom hv1)) ?_
 refine kI h (fun hc2_1 h=>?_) (fun hc2_1 h=>?_)
 ·refine kG [bX 4 zR,pB 5 false] [] trivial ?_
  refine yra (q_r ?_)
  obtain rfl:=oi h
  exact er [(.p (.agg #[.int .i64 0,.int .i64 0]),4),(.p (.bool false),5)]
 refine yia (q_n ?_)
 obtain⟨v3,hv3,h⟩:=bs h
 refine kG [bR 4 v3.1,pB 5 v3.2] [hC 10 [.p (vRt v3.1),.p (.bool v3.2)]] (A1 (ycr hv3)) ?_
 refine yra ?_
 obtain rfl:=oi h
 exact er [(.p (vRt v3.1),4),(.p (.bool v3.2),5)]
theorem yba1 {a0:Bool} {a1:Qr} {a2:Qr}  {r:(Qr×Bool)} (h:ydn a0 a1 a2=some r):MeetsB Tryz.prog 203 (.box [.raw (.bool a0)]) [.v (vRt a1),.v (vRt a2)] [.p (vRt r.1)] (.box [.raw (.bool r.2)]):=by
 refine mob Tryz.func203 [bX 0 [.raw (.bool a0)],(1,.p (vRt a1)),(2,.p (vRt a2))] ?_
 unfold ydn at h
 refine kG [bX 0 [.raw (.bool a0)],bR 4 a1,bR 5 a2,bX 6 zR] [] trivial ?_
 obtain⟨v1,hv1,h⟩:=bs h
 obtain⟨v2,hv2,h⟩:=bs h
 refine kG [bX 0 [.raw (.bool v2.2)],bR 6 v2.1] [hC 3 [.p (vRt v1.1),.p (.bool v1.2)],hT 6 [.p (vRt v2.1)] (.box [.raw (.bool v2.2)])] (A2 (yhu hv1) (ylj hv2)) ?_
 refine yra ?_
 obtain rfl:=oi h
 exact ebr [(.p (vRt v2.1),6)]
theorem ymo {a0:Bool} {a1:Qr} {a2:Qr}  {r:(Qr×Bool)} (h:yzh a0 a1 a2=some r):MeetsB Tryz.prog 73 (.box [.raw (.bool a0)]) [.v (vRt a1),.v (vRt a2)] [.p (vRt r.1)] (.box [.raw (.bool r.2)]):=by
 refine mob Tryz.func73 [bX 0 [.raw (.bool a0)],(1,.p (vRt a1)),(2,.p (vRt a2))] ?_
 unfold yzh at h
 refine kG [bX 0 [.raw (.bool a0)],bR 4 a1,bR 5 a2,bX 6 zR] [] trivial ?_
 obtain⟨v1,hv1,h⟩:=bs h
 obtain⟨v2,hv2,h⟩:=bs h
 refine kG [bX 0 [.raw (.bool v2.2)],bR 6 v2.1] [hC 3 [.p (vRt v1.1),.p (.bool v1.2)],hT 6 [.p (vRt v2.1)] (.box [.raw (.bool v2.2)])] (A2 (yvt hv1) (ylj hv2)) ?_
 refine yra ?_
 obtain rfl:=oi h
 exact ebr [(.p (vRt v2.1),6)]
theorem yly {a0:Bool} {a1:Qp} {a2:Qr} {a3:Qr}  {r:(Qr×Bool)} (h:yzk a0 a1 a2 a3=some r):MeetsB Tryz.prog 181 (.box [.raw (.bool a0)]) [.v (vPt a1),.v (vRt a2),.v (vRt a3)] [.p (vRt r.1)] (.box [.raw (.bool r.2)]):=by
 refine mob Tryz.func181 [bX 0 [.raw (.bool a0)],(1,.p (vPt a1)),(2,.p (vRt a2)),(3,.p (vRt a3))] ?_
 unfold yzk at h
 refine kG [bX 0 [.raw (.bool a0)],bP 5 a1,bR 6 a2,bR 7 a3,bX 8 zR] [] trivial ?_
 obtain⟨v1,hv1,h⟩:=bs h
 obtain⟨v2,hv2,h⟩:=bs h
 obtain⟨v3,hv3,h⟩:=bs h
 refine ylb (r_dq yfa 11 [(9,0),(10,0)] [bX 0 [.raw (.bool v3.2)],bR 8 v3.1] [hT 9 [.p (vRt v1.1)] (.box [.raw (.bool v1.2)]),hT 10 [.p (vRt v2.1)] (.box [.raw (.bool v2.2)]),hT 11 [.p (vRt v3.1)] (.box [.raw (.bool v3.2)])] (A3 (yuh hv1) (yba1 hv2) (ymo hv3))) ?_
 refine yra ?_
 obtain rfl:=oi h
 exact ebr [(.p (vRt v3.1),8)]
theorem ytf {a0:Bool} {a1:(List Qp)} {a2:Qr}  {r:(Qr×Bool)} (h:yya a0 a1 a2=some r):MeetsB Tryz.prog 151 (.box [.raw (.bool a0)]) [.d false (sP a1),.v (vRt a2)] [.p (vRt r.1)] (.box [.raw (.bool r.2)]):=by
 refine mob Tryz.func151 [bX 0 [.raw (.bool a0)],dP 1 a1,(2,.p (vRt a2))] ?_
 unfold yya at h
 refine kG [bX 0 [.raw (.bool a0)],dP 1 a1,bR 5 a2,bX 6 zR] [] trivial ?_
 obtain⟨v1,hv1,h⟩:=bs h
 refine kG [bX 0 [.raw (.bool a0)],dP 1 a1,bR 5 a2,bX 6 zR,pI 7 v1] [hC 2 [.p (iV v1)]] (A1 (ysb1 hv1)) ?_
 obtain⟨v2,hv2,h⟩:=bs h
 obtain⟨v3,hv3,h⟩:=bs h
 obtain⟨v4,hv4,h⟩:=bs h
 obtain⟨v5,hv5,h⟩:=bs h
 refine ylb (r_dq yfa 17 [(15,0)] [bX 0 [.raw (.bool v5.2)],bR 6 v5.1] [hR 3 (ePt v2),hR 8 (ePt v2),hR 13 (ePt v3),hT 15 [.p (vRt v4.1)] (.box [.raw (.bool v4.2)]),hT 17 [.p (vRt v5.1)] (.box [.raw (.bool v5.2)])] (B6 (yba hv2).1 (yda ePt (yba hv2).2) (yba hv2).1 (yda ePt (yba hv2).2) (yba hv3).1 (yda ePt (yba hv3).2) (A2 (ycm hv4) (yly hv5)))) ?_
 refine yra ?_
 obtain rfl:=oi h
 exact ebr [(.p (vRt v5.1),6)]
theorem yfr {a0:Qr} {a1:Qr}  {r:Qr} (h:ypk a0 a1=some r):Meets Tryz.prog 105 [.v (vRt a0),.v (vRt a1)] { vals:=[.p (vRt r)] }:=by
 refine mo Tryz.func105 [(0,.p (vRt a0)),(1,.p (vRt a1))] ?_
 unfold ypk at h
 refine kG [bR 2 a0,bR 3 a1,bX 4 zR] [] trivial ?_
 refine yib ?_
 obtain⟨v1,hv1,h⟩:=bs h
 refine kG [bR 2 a0,bR 3 a1,bX 4 zR,pB 7 v1] [hC 2 [.p (.bool v1)]] (A1 (ypg hv1)) ?_
 refine kI h (fun hc2_1 h=>?_) (fun hc2_1 h=>?_)
 ·refine kG [bR 4 a1] [] trivial ?_
  refine yra (q_r ?_)
  obtain rfl:=oi h
  exact er [(.p (vRt a1),4)]
 refine yia (q_n (kG [bR 4 a0] [] trivial ?_))
 refine yra ?_
 obtain rfl:=oi h
 exact er [(.p (vRt a0),4)]
theorem ywt {a0:Qr} {a1:Qr}  {r:Qr} (h:ydi a0 a1=some r):Meets Tryz.prog 107 [.v (vRt a0),.v (vRt a1)] { vals:=[.p (vRt r)] }:=by
 refine mo Tryz.func107 [(0,.p (vRt a0)),(1,.p (vRt a1))] ?_
 unfold ydi at h
 refine kG [bR 2 a0,bR 3 a1,bX 4 zR] [] trivial ?_
 refine yib ?_
 obtain⟨v1,hv1,h⟩:=bs h
 refine kG [bR 2 a0,bR 3 a1,bX 4 zR,pB 7 v1] [hC 2 [.p (.bool v1)]] (A1 (ypg hv1)) ?_
 refine kI h (fun hc2_1 h=>?_) (fun hc2_1 h=>?_)
 ·refine kG [bR 4 a1] [] trivial ?_
  refine yra (q_r ?_)
  obtain rfl:=oi h
  exact er [(.p (vRt a1),4)]
 refine yia (q_n (kG [bR 4 a0] [] trivial ?_))
 refine yra ?_
 obtain rfl:=oi h
 exact er [(.p (vRt a0),4)]
theorem ytk {a0:(List Qr)} {r:(List Qr)} (h:yob a0=some r):Meets Tryz.prog 191 [.d false [.sl none (a0.map eRt)]] { vals:=[rO 27 eRt r] }:=by
 refine ygi1 (by kernel_rfl) Tryz.func191 rfl (by kernel_rfl) (l0:=[dL 0 eRt a0]) (by kernel_rfl) ?_
 unfold yob at h
 refine ylb (r_go [dL 0 eRt a0] [] [] (by kernel_rfl) trivial) ?_
 refine yib (ygb2 (e:=27) (z:=0) (d:=4) (rows:=(a0.map eRt)) (fun b=>[dL 0 eRt a0,pB 4 b]) rfl rfl rfl rfl rfl rfl (by kernel_rfl) rfl (fun v=>by cases v <;> kernel_rfl) (fun v=>by cases v <;> kernel_rfl) ?_ (fun hnil=>?_))
 ·refine ymt1 (b:=false) (by kernel_rfl) (fun hno=>by cases hno) (fun _=>?_)
  refine yia (q_n ?_)
  replace h:=bind_some' h
  obtain⟨u2,hu2,h⟩:=h
  refine ylb (r_go [vL 2 27 eRt a0] [] [List.length ([]:List (List C))+List.length ((a0.map eRt):List (List C))<=1099511627776,∀ row∈((a0.map eRt):List (List C)),row.length=2] (by kernel_rfl) ⟨(by have hg:=(ycb hu2);simpa using hg),(ynb fun _=>rfl),trivial⟩) ?_
  refine yra ?_
  obtain rfl:=Option.some.inj h
  exact ywz1 (ls:=[(.ov false [.sl (some 27) (a0.map eRt)],2)]) (by kernel_rfl) rfl (by kernel_rfl) rfl
 obtain rfl:=List.map_eq_nil_iff.1 hnil
 refine ymt1 (b:=true) (by kernel_rfl) (fun _=>?_) (fun hno=>by cases hno)
 refine ylb (r_go [vN 2 27] [] [] (by kernel_rfl) trivial) ?_
 refine yra (q_r ?_)
 obtain rfl:r=[]:=by simp[guardO] at h;first | exact h | exact h.symm
 exact ywz1 (ls:=[(.ov false (oN 27),2)]) (by kernel_rfl) rfl (by kernel_rfl) rfl
theorem yxh {a0:(List Qr)} {a1:(Qr->Option Bool)} {F1:FuncId} {K1:List (Bool×List C)} (hp1:∀ x0 y,a1 x0=some y->Meets Tryz.prog F1 ([.v (vRt x0)]++(K1.map fun (g,cs)=>mkA g cs)) { vals:=[.p (.bool y)] }) {r:Int} (h:yma a0 a1=some r):Meets Tryz.prog 195 [.d false [.sl none (a0.map eRt)],.d false [.fn F1 K1]] { vals:=[.p (iV r)] }:=by
 refine mo Tryz.func195 [dL 0 eRt a0,(1,.d false [.fn F1 K1])] ?_
 unfold yma at h
 refine kG [dL 0 eRt a0,(1,.d false [.fn F1 K1])] [] trivial ?_
 refine ywb (J:=fun (x:Unit)=>[]) (K:=fun x=>ysa x=some r) (fun x1 h=>?_) ?_
 ·unfold ysa at h
  refine kG [pI 4 (-1)] [] trivial ?_
  refine yra ?_
  obtain rfl:=oi h
  exact er [(.p (iV (-1)),4)]
 refine kG [dL 0 eRt a0,(1,.d false [.fn F1 K1]),pL 7 a0,pI 8 0] [hN 1 a0] (A1 (lF eRt a0)) ?_
 refine yja ?_
 obtain⟨y3,hl_x2,hk_x2⟩:=bs h
 clear h
 refine yfd (J:=fun (x:Int)=>[dL 0 eRt a0,(1,.d false [.fn F1 K1]),pL 7 a0,pI 8 x]) hl_x2 wkk (fun x2 o_x2 h hy_x2=>?_)
 unfold yka at h
 refine kG [dL 0 eRt a0,(1,.d false [.fn F1 K1]),pL 7 a0,pI 8 x2,pB 9 (decide (x2<(a0.length:Int)))] [] trivial ?_
 refine yib (kI h (fun hc5_3 h=>?_) (fun hc5_3 h=>?_))
 ·refine yia (q_n (yib (yja (kG [dL 0 eRt a0,(1,.d false [.fn F1 K1]),pI 5 x2,pL 7 a0,pI 8 x2] [] trivial ?_))))
  obtain⟨v5,hv5,h⟩:=bs h
  obtain⟨v6,hv6,h⟩:=bs h
  refine kG [dL 0 eRt a0,(1,.d false [.fn F1 K1]),pI 5 x2,pL 7 a0,pI 8 x2,pB 16 v6] [hR 3 (eRt v5),hC 5 [.p (.bool v6)]] (A3 (yba hv5).1 (yda eRt (yba hv5).2) (hp1 _ _ hv6)) ?_
  refine kI h (fun hc6_6 h=>?_) (fun hc6_6 h=>?_)
  ·refine kG [pI 4 x2] [] trivial ?_
   refine yra (b_r (q_r (lq_r ?_)))
   refine b_r (q_r ?_)
   have hyy:=hy_x2 _ (oi h).symm
   subst hyy
   have h:=hk_x2
   dsimp only[Sum.elim] at h
   obtain rfl:=oi h
   exact er [(.p (iV x2),4)]
  refine yia (b_n (q_n (yrc (r_gq [dL 0 eRt a0,(1,.d false [.fn F1 K1]),pL 7 a0,pI 8 (w64 (x2+1))] [] trivial) ?_)))
  exact lqn (w64 (x2+1)) h
 refine yzc (q_x (lq_x (b_x ?_)))
 have hyy:=hy_x2 _ (oi h).symm
 subst hyy
 have h:=hk_x2
 dsimp only[Sum.elim] at h
 refine q_n ?_
 exact jx () h
theorem yqh {a0:(List Qr)} {a1:(Qr->Option Bool)} {F1:FuncId} {K1:List (Bool×List C)} (hp1:∀ x0 y,a1 x0=some y->Meets Tryz.prog F1 ([.v (vRt x0)]++(K1.map fun (g,cs)=>mkA g cs)) { vals:=[.p (.bool y)] }) {r:(List Qr)} (h:yua a0 a1=some r):MeetsB Tryz.prog 190 (.ov false [.sl (some 27) (a0.map eRt)]) [.d false [.fn F1 K1]] [rO 27 eRt r] (.u):=by
 refine mob Tryz.func190 [vL 0 27 eRt a0,(1,.d false [.fn F1 K1])] ?_
 unfold yua at h
 refine kG [vL 0 27 eRt a0,(1,.d false [.fn F1 K1])] [] trivial ?_
 obtain⟨v1,hv1,h⟩:=bs h
 refine kG [vL 0 27 eRt a0,(1,.d false [.fn F1 K1]),pI 5 v1] [(2,(cS [.d false [.sl none (a0.map eRt)],.d false [.fn F1 K1]] [.p (iV v1)]))] (A2 (show([.d false [.sl none (eraL (a0.map eRt))],.d false [.fn F1 K1]]:List Arg)=[.d false [.sl none (a0.map eRt)],.d false [.fn F1 K1]] from(by simp only[ywa (h:=eRt) (yyx er_I er_I)])) (show Meets Tryz.prog 195 ([.d false [.sl none (a0.map eRt)],.d false [.fn F1 K1]]++[]) { vals:=[.p (iV v1)] } from(yxh hp1 hv1))) ?_
 refine yib (kG [vL 0 27 eRt a0,(1,.d false [.fn F1 K1]),pI 5 v1,pB 12 (v1==(-1))] [] trivial ?_)
 refine kI h (fun hc2_1 h=>?_) (fun hc2_1 h=>?_)
 ·refine kG [vL 4 27 eRt a0] [] trivial ?_
  refine yra (q_r ?_)
  obtain rfl:=oi h
  exact ebr [(.ov false [.sl (some 27) (a0.map eRt)],4)]
 refine yia (q_n (ywb (J:=fun (x:((List Qr)×Int))=>[vL 0 27 eRt x.1,pI 5 x.2]) (K:=fun x=>yjb x=some r) (fun x3 h=>?_) ?_))
 ·unfold yjb at h
  obtain⟨u4,hu4,h⟩:=bs h
  refine ylb (yyw1 (t:=30) (e:=27) (sz:=2) (k:=.i64) (n:=x3.2) (rows:=(x3.1.map eRt)) (rows':=((x3.1.take (Int.toNat x3.2)++List.replicate (x3.1.length-(Int.toNat x3.2)) (0,0)).map eRt)) (z:=zR) [vL 0 27 eRt (x3.1.take (Int.toNat x3.2)++List.replicate (x3.1.length-(Int.toNat x3.2)) (0,0)),pI 5 x3.2] ⟨rfl,rfl,rfl⟩ ⟨rfl,rfl,rfl⟩ ⟨rfl,rfl,rfl⟩ ⟨rfl,rfl,rfl⟩ (by kernel_rfl) (by kernel_rfl) (by kernel_rfl) rfl (by kernel_rfl) (by kernel_rfl) (by kernel_rfl) (by kernel_rfl) (ycb hu4).1 (by have hg:=(ycb hu4).2;simpa using hg) (yhr1 fun _=>rfl) (yax1 eRt x3.1 (Int.toNat x3.2) (0,0) (zr:=zR) rfl)) ?_
  obtain⟨u5,hu5,h⟩:=bs h
  refine ylb (yzw1 (t:=30) (e:=27) (sz:=2) (k:=.i64) (n:=x3.2) (rows:=((x3.1.take (Int.toNat x3.2)++List.replicate (x3.1.length-(Int.toNat x3.2)) (0,0)).map eRt)) (rows':=(((x3.1.take (Int.toNat x3.2)++List.replicate (x3.1.length-(Int.toNat x3.2)) (0,0)).take (Int.toNat x3.2)).map eRt)) [vL 4 27 eRt ((x3.1.take (Int.toNat x3.2)++List.replicate (x3.1.length-(Int.toNat x3.2)) (0,0)).take (Int.toNat x3.2))] ⟨rfl,rfl,rfl⟩ ⟨rfl,rfl,rfl⟩ ⟨rfl,rfl,rfl⟩ ⟨rfl,rfl,rfl⟩ (by kernel_rfl) (by kernel_rfl) (by kernel_rfl) (by kernel_rfl) (by kernel_rfl) (by kernel_rfl) (by kernel_rfl) (ycb hu5).1 (by have hg:=(ycb hu5).2;simpa using hg) (by simp)) ?_
  refine yra ?_
  obtain rfl:=oi h
  exact ebr [(.ov false [.sl (some 27) (((x3.1.take (Int.toNat x3.2)++List.replicate (x3.1.length-(Int.toNat x3.2)) (0,0)).take (Int.toNat x3.2)).map eRt)],4)]
 refine kG [vL 0 27 eRt a0,(1,.d false [.fn F1 K1]),pI 5 v1,pI 6 (w64 (v1+1))] [] trivial ?_
 refine yja ?_
 obtain⟨y7,hl_x6,hk_x6⟩:=bs h
 clear h
 refine yfd (J:=fun (x:((List Qr)×Int×Int))=>[vL 0 27 eRt x.1,(1,.d false [.fn F1 K1]),pI 5 x.2.1,pI 6 x.2.2]) hl_x6 wkk (fun x6 o_x6 h hy_x6=>?_)
 unfold yxa at h
 refine yib (kG [vL 0 27 eRt x6.1,(1,.d false [.fn F1 K1]),pI 5 x6.2.1,pI 6 x6.2.2,pB 19 (decide (x6.2.2<(x6.1.length:Int)))] [hN 2 x6.1] (A1 (lF eRt x6.1)) ?_)
 refine kI h (fun hc5_7 h=>?_) (fun hc5_7 h=>?_)
 ·refine yia (q_n (yib (yja ?_)))
  obtain⟨v9,hv9,h⟩:=bs h
  refine kG [vL 0 27 eRt x6.1,(1,.d false [.fn F1 K1]),pI 5 x6.2.1,pI 6 x6.2.2,bR 7 v9] [hR 2 (eRt v9),hR 3 (eRt v9)] (A3 (yba hv9).1 (yda eRt (yba hv9).2) (gW 27 eRt hv9)) ?_
  obtain⟨v10,hv10,h⟩:=bs h
  refine kG [vL 0 27 eRt x6.1,(1,.d false [.fn F1 K1]),pI 5 x6.2.1,pI 6 x6.2.2,bR 7 v9,pB 29 (!v10)] [hC 2 [.p (.bool v10)]] (A1 (hp1 _ _ hv10)) ?_
  refine kI h (fun hc6_10 h=>?_) (fun hc6_10 h=>?_)
  ·obtain⟨v12,hv12,h⟩:=bs h
   refine kG [vL 0 27 eRt (x6.1.set (Int.toNat x6.2.1) v9),(1,.d false [.fn F1 K1]),pI 5 x6.2.1,pI 6 x6.2.2] [hR 3 (eRt v12),(4,{row:=some (eRt v12),fix:=some (vL 0 27 eRt (x6.1.set (Int.toNat x6.2.1) v9))})] (A4 (yba hv12).1 (yda eRt (yba hv12).2) (gW 27 eRt hv12) (show(SV.ov false [.sl (some 27) (setL (x6.1.map eRt) [((Int.toNat x6.2.1),0)] (eRt v9))]:SV)=.ov false [.sl (some 27) ((x6.1.set (Int.toNat x6.2.1) v9).map eRt)] from(congrArg (fun z=>SV.ov false [.sl (some 27) z]) (set1 (f:=eRt) (y:=v9) (yba hv12).2 rfl)))) ?_
   refine yrc (r_gq [vL 0 27 eRt (x6.1.set (Int.toNat x6.2.1) v9),(1,.d false [.fn F1 K1]),pI 5 (w64 (x6.2.1+1)),pI 6 x6.2.2] [] trivial) ?_
   refine b_n (q_n (yrc (r_gq [vL 0 27 eRt (x6.1.set (Int.toNat x6.2.1) v9),(1,.d false [.fn F1 K1]),pI 5 (w64 (x6.2.1+1)),pI 6 (w64 (x6.2.2+1))] [] trivial) ?_))
   exact lqn ((x6.1.set (Int.toNat x6.2.1) v9),(w64 (x6.2.1+1)),(w64 (x6.2.2+1))) h
  refine yia (b_n (q_n (yrc (r_gq [vL 0 27 eRt x6.1,(1,.d false [.fn F1 K1]),pI 5 x6.2.1,pI 6 (w64 (x6.2.2+1))] [] trivial) ?_)))
  exact lqn (x6.1,x6.2.1,(w64 (x6.2.2+1))) h
 refine yzc (q_x (lq_x (b_x ?_)))
 have hyy:=hy_x6 _ (oi h).symm
 subst hyy
 have h:=hk_x6
 refine q_n ?_
 exact jx (x6.1,x6.2.1) h
theorem yrt {a0:Qr} {c0:Qr} {c1:Qr}  {r:Bool} (h:ycg a0 c0 c1=some r):Meets Tryz.prog 192 [.v (vRt a0),.d false [.pt (eRt c0)],.d false [.pt (eRt c1)]] { vals:=[.p (.bool r)] }:=by
 refine mo Tryz.func192 [(0,.p (vRt a0)),(1,.d false [.pt (eRt c0)]),(2,.d false [.pt (eRt c1)])] ?_
 unfold ycg at h
 refine kG [(1,.d false [.pt (eRt c0)]),(2,.d false [.pt (eRt c1)]),bR 3 a0] [] trivial ?_
 obtain⟨v1,hv1,h⟩:=bs h
 obtain⟨w3,hw3,h⟩:=bs h
 refine ylb (l1:=[pB 4 w3]) ?_ ?_
 ·clear h
  rcases ft (!v1) with ha0 | ha0
  ·replace hw3:=yon ha0 hw3
   have hw3:=oi hw3
   subst hw3
   exact(r_gq [pB 4 true] [hC 2 [.p (.bool v1)],(5,gT),(6,gT),(7,gT),(8,gT),(9,bT)] (A6 (ypg hv1) ha0 ha0 ha0 ha0 ha0))
  obtain⟨v2,hv2,hw3⟩:=bs (ypn ha0 hw3)
  have hw3:=oi hw3
  subst hw3
  exact(r_gq [pB 4 (!v2)] [hC 2 [.p (.bool v1)],(5,gF),(6,gF),(7,(gN [.p (.bool v2)])),(8,gF),(9,bF)] (B6 (ypg hv1) ha0 ha0 ha0 (ypg hv2) ha0 (A1 ha0)))
 refine yra ?_
 obtain rfl:=oi h
 exact er [(.p (.bool w3),4)]
theorem yvj {a0:(List Qr)}  {r:(List Qr)} (h:ykb a0=some r):MeetsB Tryz.prog 193 (.ov false [.sl (some 27) (a0.map eRt)]) [] [] (.ov false [.sl (some 27) (r.map eRt)]):=by
 refine mob Tryz.func193 [vL 0 27 eRt a0] ?_
 unfold ykb at h
 refine kG [vL 0 27 eRt a0,pI 2 0,pI 3 (w64 ((a0.length:Int)-1))] [hN 1 a0] (A1 (lF eRt a0)) ?_
 refine yja ?_
 obtain⟨y2,hl_x1,hk_x1⟩:=bs h
 clear h
 refine yfd (J:=fun (x:((List Qr)×Int×Int))=>[vL 0 27 eRt x.1,pI 2 x.2.1,pI 3 x.2.2]) hl_x1 wkk (fun x1 o_x1 h hy_x1=>?_)
 unfold ymc at h
 refine yib (kG [vL 0 27 eRt x1.1,pI 2 x1.2.1,pI 3 x1.2.2,pB 9 (decide (x1.2.1<x1.2.2))] [] trivial ?_)
 refine kI h (fun hc4_2 h=>?_) (fun hc4_2 h=>?_)
 ·refine yia (q_n (yib (yja ?_)))
  obtain⟨v4,hv4,h⟩:=bs h
  obtain⟨v5,hv5,h⟩:=bs h
  obtain⟨u6,hu6,h⟩:=bs h
  refine yrc (yyz1 (t:=30) (e:=27) (g:=true) (sz:=2) (rows:=(x1.1.map eRt)) (rows':=(((x1.1.set (Int.toNat x1.2.1) v5).set (Int.toNat x1.2.2) v4).map eRt)) (i:=x1.2.1) (j:=x1.2.2) (ri:=eRt v4) (rj:=eRt v5) [vL 0 27 eRt ((x1.1.set (Int.toNat x1.2.1) v5).set (Int.toNat x1.2.2) v4),pI 2 x1.2.1,pI 3 x1.2.2] yfa ⟨rfl,rfl⟩ ⟨rfl,rfl⟩ ⟨rfl,rfl⟩ ⟨rfl,rfl⟩ ⟨rfl,rfl⟩ ⟨rfl,rfl⟩ ⟨rfl,rfl⟩ ⟨rfl,rfl⟩ ⟨rfl,rfl⟩ ⟨rfl,rfl⟩ ⟨rfl,rfl⟩ ⟨rfl,rfl⟩ ⟨rfl,rfl⟩ ⟨rfl,rfl⟩ ⟨rfl,rfl⟩ ⟨rfl,rfl⟩ (by kernel_rfl) (by kernel_rfl) (by kernel_rfl) (by decide) (by kernel_rfl) (by kernel_rfl) (by kernel_rfl) (by kernel_rfl) (by kernel_rfl) (yhr1 fun _=>rfl) (yba hv4).1 (yba hv5).1 (yda eRt (yba hv4).2) (yda eRt (yba hv5).2) (ycb hu6) (by simp only[List.map_set])) ?_
  refine b_n (q_n (yrc (r_gq [vL 0 27 eRt ((x1.1.set (Int.toNat x1.2.1) v5).set (Int.toNat x1.2.2) v4),pI 2 (w64 (x1.2.1+1)),pI 3 (w64 (x1.2.2-1))] [] trivial) ?_))
  exact lqn (((x1.1.set (Int.toNat x1.2.1) v5).set (Int.toNat x1.2.2) v4),(w64 (x1.2.1+1)),(w64 (x1.2.2-1))) h
 refine yzc (q_x (lq_x (b_x ?_)))
 have hyy:=hy_x1 _ (oi h).symm
 subst hyy
 have h:=hk_x1
 obtain rfl:=oi h
 exact ebe []
theorem yiv {a0:(List Qr)} {a1:Qr} {a2:Qr}  {r:(List Qr)} (h:yei a0 a1 a2=some r):Meets Tryz.prog 169 [.d false [.sl none (a0.map eRt)],.v (vRt a1),.v (vRt a2)] { vals:=[rO 27 eRt r] }:=by
 refine mo Tryz.func169 [dL 0 eRt a0,(1,.p (vRt a1)),(2,.p (vRt a2))] ?_
 unfold yei at h
 refine kG [dL 0 eRt a0,bR 4 a1,bR 5 a2] [] trivial ?_
 obtain⟨v1,hv1,h⟩:=bs h
 obtain⟨v2,hv2,h⟩:=bs h
 refine ylb (r_dq yfa 8 [] [dL 0 eRt a0,bR 4 a1,bR 5 a2,bR 7 v1,bR 8 v2] [hC 2 [.p (vRt v1)],hC 5 [.p (vRt v2)]] (A2 (yfr hv1) (ywt hv2))) ?_
 refine ysz1 7 (eRt v1) (eRt v1) [dL 0 eRt a0,bR 4 a1,bR 5 a2,(7,.d false [.pt (eRt v1)]),bR 8 v2] (by kernel_rfl) (yoc1 (yoc1 rfl)) (by kernel_rfl) (by kernel_rfl) ?_
 refine ysz1 8 (eRt v2) (eRt v2) [dL 0 eRt a0,bR 4 a1,bR 5 a2,(7,.d false [.pt (eRt v1)]),(8,.d false [.pt (eRt v2)])] (by kernel_rfl) (yoc1 (yoc1 rfl)) (by kernel_rfl) (by kernel_rfl) ?_
 obtain⟨v3,hv3,h⟩:=bs h
 obtain⟨v4,hv4,h⟩:=bs h
 refine kG [bR 4 a1,bR 5 a2,vL 9 27 eRt v4] [hC 1 [rO 27 eRt v3],(3,{lend:=some (none,[rO 27 eRt v4],.u,true)})] (A4 (ytk hv3) (sR' 27 v3) (show MeetsB Tryz.prog 190 (.ov false [.sl (some 27) (v3.map eRt)]) [.d false [.fn 192 [(false,[.pt (eRt v1)]),(false,[.pt (eRt v2)])]]] [rO 27 eRt v4] .u from(yqh (fun x0 y hy=>yrt hy) hv4)) (sR' 27 v4)) ?_
 refine yib ?_
 obtain⟨v5,hv5,h⟩:=bs h
 refine kG [vL 9 27 eRt v4,pB 22 v5] [hC 2 [.p (.bool v5)]] (A1 (ypg hv5)) ?_
 refine kI h (fun hc2_5 h=>?_) (fun hc2_5 h=>?_)
 ·obtain⟨v7,hv7,h⟩:=bs h
  refine yrc (r_gq [vL 9 27 eRt v7] [(1,{lend:=some (none,[],.ov false [.sl (some 27) (v7.map eRt)],true)})] (A2 (yvj hv7) (show(List.all [] simpleR&&wnS (.ov false [.sl (some 27) (v7.map eRt)]))=true from(ls_t rfl (wnR1 (ysc (wn_P wn_I wn_I)) rfl))))) ?_
  refine q_n (kG [vL 6 27 eRt v7] [] trivial ?_)
  refine yra ?_
  obtain rfl:=oi h
  exact er [(.ov false [.sl (some 27) (v7.map eRt)],6)]
 refine yia (q_n (kG [vL 6 27 eRt v4] [] trivial ?_))
 refine yra ?_
 obtain rfl:=oi h
 exact er [(.ov false [.sl (some 27) (v4.map eRt)],6)]
end Go.PV

/-
  Walks through the functions that the law reaches: each answers as its plain definition does.
  Conditions: none.
-/
import Derived.KernelRfl
import Derived.Test.YtigabkbbbpokbaaGreatWChainsPartB
import Derived.Test.YtigabkbbbpokbaaGreatProg
import Derived.Test.YtigabkbbbpokbaaGreatSrtYtigabkbbbpokbaaGreat
import Derived.Test.YtigabkbbbpokbaaGreatPvCx
open Go Go.PV Go.Proofs
set_option linter.all false
namespace Go.PV
attribute [local irreducible] pvC pvL pvD sOp seqQ blockQ Meets MeetsB Ok OkL RegOk agree endQ seqL blockL loopQ endL endLB OkV Takes
theorem yvv {a0:Bool} {a1:(List Qp)} {a2:Qp} {a3:Qp}  {r:(Qp×Bool)} (h:yld a0 a1 a2 a3=some r):MeetsB Tryz.prog 50 (.box [.raw (.bool a0)]) [.d false (sP a1),.v (vPt a2),.v (vPt a3)] [.p (vPt r.1)] (.box [.raw (.bool r.2)]):=by
 refine mob Tryz.func50 [bX 0 [.raw (.bool a0)],dP 1 a1,(2,.p (vPt a2)),(3,.p (vPt a3))] ?_
 unfold yld at h
 refine kG [bX 0 [.raw (.bool a0)],dP 1 a1,bP 6 a2,bP 7 a3,bX 8 zQ] [] trivial ?_
 refine yea2 7 (ePt a3) (ePt a3) [bX 0 [.raw (.bool a0)],dP 1 a1,bP 6 a2,(7,.d false [.pt (ePt a3)]),bX 8 zQ] (by kernel_rfl) (yhb1 (yhb1 (yhb1 (yhb1 rfl)))) (by kernel_rfl) (by kernel_rfl) ?_
 refine kG [bX 0 [.raw (.bool a0)],dP 1 a1,bP 6 a2,(7,.d false [.pt (ePt a3)]),bX 8 zQ,(9,.d false [.fn 113 [(false,[.pt (ePt a3)])]])] [] trivial ?_
 refine kG [bX 0 [.raw (.bool a0)],dP 1 a1,bP 6 a2,(7,.d false [.pt (ePt a3)]),bX 8 zQ,(9,.d false [.fn 113 [(false,[.pt (ePt a3)])]]),vN 10 38] [] trivial ?_
 refine yib (J:=fun (x:(Bool×(List Qr)))=>[bX 0 [.raw (.bool x.1)],dP 1 a1,bP 6 a2,bX 8 zQ,(9,.d false [.fn 113 [(false,[.pt (ePt a3)])]]),vL 10 38 eRt x.2]) (K:=fun x=>yni a1 a2 a3 x=some r) (fun x1 h=>?_) ?_
 ·unfold yni at h
  refine yib (J:=fun (x:(Bool×(List Qr)))=>[bX 0 [.raw (.bool x.1)],dP 1 a1,bX 8 zQ,vL 10 38 eRt x.2]) (K:=fun x=>ymi a1 x=some r) (fun x2 h=>?_) ?_
  ·unfold ymi at h
   obtain⟨v3,hv3,h⟩:=bs h
   refine kG [bX 0 [.raw (.bool x2.1)],dP 1 a1,bX 8 zQ,vL 10 38 eRt v3] [(1,{lend:=some (none,[rO 38 eRt v3],.u,true)})] (A2 (yuv hv3) (sR' 38 v3)) ?_
   refine yib (J:=fun (x:Bool)=>[bX 0 [.raw (.bool x)],bX 8 zQ]) (K:=fun x=>ytf x=some r) (fun x4 h=>?_) ?_
   ·unfold ytf at h
    refine kG [bX 0 [.raw (.bool true)],bX 8 zQ] [] trivial ?_
    refine kG [bX 0 [.raw (.bool true)],bX 8 zQ] [] trivial ?_
    refine yra ?_
    obtain rfl:=oi h
    exact ebr [(.p (.agg #[.int .i64 0,.int .i64 0,.int .i64 0,.int .i64 0]),8)]
   refine kG [bX 0 [.raw (.bool x2.1)],dP 1 a1,bX 8 zQ,vL 10 38 eRt v3,pI 15 1] [] trivial ?_
   refine yfa ?_
   obtain⟨y6,hl_x5,hk_x5⟩:=bs h
   clear h
   refine yfc (J:=fun (x:(Bool×Int))=>[bX 0 [.raw (.bool x.1)],dP 1 a1,bX 8 zQ,vL 10 38 eRt v3,pI 15 x.2]) hl_x5 wkk (fun x5 o_x5 h hy_x5=>?_)
   unfold yzb at h
   refine yab (yza (l1:=[bX 0 [.raw (.bool x5.1)],dP 1 a1,bX 8 zQ,vL 10 38 eRt v3,pI 15 x5.2,pB 83 ((decide (x5.2<(v3.length:Int)))&&(!x5.1))]) ?_ ?_)
   ·rcases ft (decide (x5.2<(v3.length:Int))) with ha0 | ha0
    ·exact RegOk.of_eq (r_gq [bX 0 [.raw (.bool x5.1)],dP 1 a1,bX 8 zQ,vL 10 38 eRt v3,pI 15 x5.2,pB 83 (!x5.1)] [hN 2 v3,(5,gT),(6,gT),(7,gT),(8,gT),(9,gT),(10,bT)] (B6 (lF eRt v3) ha0 ha0 ha0 ha0 ha0 (A1 ha0))) (by simp[ha0])
    exact RegOk.of_eq (r_gq [bX 0 [.raw (.bool x5.1)],dP 1 a1,bX 8 zQ,vL 10 38 eRt v3,pI 15 x5.2,pB 83 false] [hN 2 v3,(5,gF),(6,gF),(7,gF),(8,gF),(9,gF),(10,bF)] (B6 (lF eRt v3) ha0 ha0 ha0 ha0 ha0 (A1 ha0))) (by simp[ha0])
   refine kI h (fun hc5_6 h=>?_) (fun hc5_6 h=>?_)
   ·refine yga (q_n (yab (yfa ?_)))
    obtain⟨v8,hv8,h⟩:=bs h
    obtain⟨v9,hv9,h⟩:=bs h
    obtain⟨v10,hv10,h⟩:=bs h
    obtain⟨v11,hv11,h⟩:=bs h
    refine yza (r_dq yda 14 [(7,0)] [bX 0 [.raw (.bool v11.2)],dP 1 a1,bX 8 zQ,vL 10 38 eRt v3,pI 15 x5.2,pB 101 (nR v9.1 v11.1)] [hR 5 (eRt v8),hR 6 (eRt v8),hT 7 [.p (vRt v9.1)] (.box [.raw (.bool v9.2)]),hR 12 (eRt v10),hR 13 (eRt v10),hT 14 [.p (vRt v11.1)] (.box [.raw (.bool v11.2)]),(15,{pv:=some (.bool (nR v9.1 v11.1))})] (B6 (yba hv8).1 (yca eRt (yba hv8).2) (gW 38 eRt hv8) (yjg hv9) (yba hv10).1 (yca eRt (yba hv10).2) (A3 (gW 38 eRt hv10) (yjg hv11) (show PureAt Tryz.prog (.binOp .neq 38 (.tmp 93) (.tmp 100) 38) [vRt v9.1,vRt v11.1] (.bool (nR v9.1 v11.1)) from(yic1 (by kernel_rfl)))))) ?_
    refine kI h (fun hc6_11 h=>?_) (fun hc6_11 h=>?_)
    ·refine yza (r_dq yda 9 [] [bX 0 [.raw (.bool v11.2)],bX 8 [rI v8.1,rI v8.2,rI v10.1,rI v10.2]] [hR 3 (eRt v8),hR 4 (eRt v8),hR 7 (eRt v10),hR 8 (eRt v10)] (A6 (yba hv8).1 (yca eRt (yba hv8).2) (gW 38 eRt hv8) (yba hv10).1 (yca eRt (yba hv10).2) (gW 38 eRt hv10))) ?_
     refine yra (b_r (q_r (lq_r ?_)))
     refine b_r (q_r ?_)
     have hyy:=hy_x5 _ (oi h).symm
     subst hyy
     have h:=hk_x5
     dsimp only[Sum.elim] at h
     obtain rfl:=oi h
     exact ebr [(.p (.agg #[.int .i64 v8.1,.int .i64 v8.2,.int .i64 v10.1,.int .i64 v10.2]),8)]
    refine yga (b_n (q_n (yub (r_gq [bX 0 [.raw (.bool v11.2)],dP 1 a1,bX 8 zQ,vL 10 38 eRt v3,pI 15 (w64 (x5.2+1))] [] trivial) ?_)))
    exact lqn (v11.2,(w64 (x5.2+1))) h
   refine ywb (q_x (lq_x (b_x ?_)))
   have hyy:=hy_x5 _ (oi h).symm
   subst hyy
   have h:=hk_x5
   dsimp only[Sum.elim] at h
   refine q_n ?_
   exact jx x5.1 h
  refine kG [bX 0 [.raw (.bool x1.1)],dP 1 a1,bX 8 zQ,(9,.d false [.fn 113 [(false,[.pt (ePt a3)])]]),vL 10 38 eRt x1.2,vL 54 38 eRt ([a2.1,a2.2]),pL 55 ([a2.1,a2.2]),pI 56 0] [hN 5 ([a2.1,a2.2])] (A1 (lF eRt ([a2.1,a2.2]))) ?_
  refine yfa ?_
  obtain⟨y14,hl_x13,hk_x13⟩:=bs h
  clear h
  refine yfc (J:=fun (x:(Bool×(List Qr)×Int))=>[bX 0 [.raw (.bool x.1)],dP 1 a1,bX 8 zQ,(9,.d false [.fn 113 [(false,[.pt (ePt a3)])]]),vL 10 38 eRt x.2.1,vL 54 38 eRt ([a2.1,a2.2]),pL 55 ([a2.1,a2.2]),pI 56 x.2.2]) hl_x13 wkk (fun x13 o_x13 h hy_x13=>?_)
  unfold yqd at h
  refine kG [bX 0 [.raw (.bool x13.1)],dP 1 a1,bX 8 zQ,(9,.d false [.fn 113 [(false,[.pt (ePt a3)])]]),vL 10 38 eRt x13.2.1,vL 54 38 eRt ([a2.1,a2.2]),pL 55 ([a2.1,a2.2]),pI 56 x13.2.2,pB 57 (decide (x13.2.2<(([a2.1,a2.2]).length:Int)))] [] trivial ?_
  refine yab (kI h (fun hc5_14 h=>?_) (fun hc5_14 h=>?_))
  ·refine yga (q_n (yab (yfa ?_)))
   obtain⟨v16,hv16,h⟩:=bs h
   refine kG [bX 0 [.raw (.bool x13.1)],dP 1 a1,bX 8 zQ,(9,.d false [.fn 113 [(false,[.pt (ePt a3)])]]),vL 10 38 eRt x13.2.1,bR 14 v16,vL 54 38 eRt ([a2.1,a2.2]),pL 55 ([a2.1,a2.2]),pI 56 x13.2.2] [hR 0 (eRt v16),hR 1 (eRt v16)] (A3 (yba hv16).1 (yca eRt (yba hv16).2) (gW 38 eRt hv16)) ?_
   obtain⟨v17,hv17,h⟩:=bs h
   obtain⟨v18,hv18,h⟩:=bs h
   refine kG [bX 0 [.raw (.bool v17.2)],dP 1 a1,bX 8 zQ,(9,.d false [.fn 113 [(false,[.pt (ePt a3)])]]),vL 10 38 eRt x13.2.1,bR 14 v16,vL 54 38 eRt ([a2.1,a2.2]),pL 55 ([a2.1,a2.2]),pI 56 x13.2.2,pB 65 v18] [hT 4 [.p (vRt v17.1)] (.box [.raw (.bool v17.2)]),hC 5 [.p (.bool v18)]] (A2 (yjg hv17) (ymu hv18)) ?_
   refine kI h (fun hc6_18 h=>?_) (fun hc6_18 h=>?_)
   ·obtain⟨u20,hu20,h⟩:=bs h
    refine yub (r_gq [bX 0 [.raw (.bool v17.2)],dP 1 a1,bX 8 zQ,(9,.d false [.fn 113 [(false,[.pt (ePt a3)])]]),vL 10 38 eRt (x13.2.1++[v16]),vL 54 38 eRt ([a2.1,a2.2]),pL 55 ([a2.1,a2.2]),pI 56 x13.2.2] [(3,{fix:=some (vL 69 38 eRt (x13.2.1++[v16]))})] (A3 (lG' eRt hu20) (show ∀ row∈((([v16]).map eRt):List (List C)),row.length=2 from(ycc fun _=>rfl)) (aP' 38 eRt x13.2.1 ([v16])))) ?_
    refine b_n (q_n (yub (r_gq [bX 0 [.raw (.bool v17.2)],dP 1 a1,bX 8 zQ,(9,.d false [.fn 113 [(false,[.pt (ePt a3)])]]),vL 10 38 eRt (x13.2.1++[v16]),vL 54 38 eRt ([a2.1,a2.2]),pL 55 ([a2.1,a2.2]),pI 56 (w64 (x13.2.2+1))] [] trivial) ?_))
    exact lqn (v17.2,(x13.2.1++[v16]),(w64 (x13.2.2+1))) h
   refine yga (b_n (q_n (yub (r_gq [bX 0 [.raw (.bool v17.2)],dP 1 a1,bX 8 zQ,(9,.d false [.fn 113 [(false,[.pt (ePt a3)])]]),vL 10 38 eRt x13.2.1,vL 54 38 eRt ([a2.1,a2.2]),pL 55 ([a2.1,a2.2]),pI 56 (w64 (x13.2.2+1))] [] trivial) ?_)))
   exact lqn (v17.2,x13.2.1,(w64 (x13.2.2+1))) h
  refine ywb (q_x (lq_x (b_x ?_)))
  have hyy:=hy_x13 _ (oi h).symm
  subst hyy
  have h:=hk_x13
  refine q_n ?_
  exact jx (x13.1,x13.2.1) h
 obtain⟨v21,hv21,h⟩:=bs h
 obtain⟨v22,hv22,h⟩:=bs h
 obtain⟨u23,hu23,h⟩:=bs h
 have ob0:MeetsB Tryz.prog 114 (.box [.raw (.bool a0)]) [.d false (sP a1),.v (vRt a3.1)] [rO 38 eRt v21.1] (.box [.raw (.bool v21.2)]):=(yfq hv21)
 have ob1:(List.all [rO 38 eRt v21.1] simpleR&&wnS (.box [.raw (.bool v21.2)]))=true:=(ls_t (sa_o (wnR1 (yge (wn_P wn_I wn_I)) rfl) rfl) (wnc rfl))
 have ob2:MeetsB Tryz.prog 114 (.box [.raw (.bool v21.2)]) [.d false (sP a1),.v (vRt a3.2)] [rO 38 eRt v22.1] (.box [.raw (.bool v22.2)]):=(yfq hv22)
 have ob3:(List.all [rO 38 eRt v22.1] simpleR&&wnS (.box [.raw (.bool v22.2)]))=true:=(ls_t (sa_o (wnR1 (yge (wn_P wn_I wn_I)) rfl) rfl) (wnc rfl))
 have ob4:List.length ((v21.1.map eRt):List (List C))+List.length ((v22.1.map eRt):List (List C))<=1099511627776:=(by have hg:=(yla hu23);simpa using hg)
 have ob5:∀ row∈((v22.1.map eRt):List (List C)),row.length=2:=(ycc fun _=>rfl)
 have ob6:(SV.ov false [.sl (some 38) ((v21.1.map eRt)++(v22.1.map eRt))]:SV)=.ov false [.sl (some 38) ((v21.1++v22.1).map eRt)]:=(congrArg (fun z=>SV.ov false [.sl (some 38) z]) (List.map_append ..).symm)
 have ob7:((v21.1++v22.1).map eRt).length=(v21.1++v22.1).length:=(List.length_map ..)
 refine yza (ycz1 yda [bX 0 [.raw (.bool v22.2)],dP 1 a1,bP 6 a2,bX 8 zQ,(9,.d false [.fn 113 [(false,[.pt (ePt a3)])]]),vN 10 38,vL 27 38 eRt (v21.1++v22.1),pL 28 (v21.1++v22.1),pI 29 0] 90 [hT 4 [rO 38 eRt v21.1] (.box [.raw (.bool v21.2)]),hT 9 [rO 38 eRt v22.1] (.box [.raw (.bool v22.2)]),(10,{fix:=some (vL 27 38 eRt (v21.1++v22.1))}),hN 11 (v21.1++v22.1)] [MeetsB Tryz.prog 114 (.box [.raw (.bool a0)]) [.d false (sP a1),.v (vRt a3.1)] [rO 38 eRt v21.1] (.box [.raw (.bool v21.2)]),(List.all [rO 38 eRt v21.1] simpleR&&wnS (.box [.raw (.bool v21.2)]))=true,MeetsB Tryz.prog 114 (.box [.raw (.bool v21.2)]) [.d false (sP a1),.v (vRt a3.2)] [rO 38 eRt v22.1] (.box [.raw (.bool v22.2)]),(List.all [rO 38 eRt v22.1] simpleR&&wnS (.box [.raw (.bool v22.2)]))=true,List.length ((v21.1.map eRt):List (List C))+List.length ((v22.1.map eRt):List (List C))<=1099511627776,∀ row∈((v22.1.map eRt):List (List C)),row.length=2,(SV.ov false [.sl (some 38) ((v21.1.map eRt)++(v22.1.map eRt))]:SV)=.ov false [.sl (some 38) ((v21.1++v22.1).map eRt)],((v21.1++v22.1).map eRt).length=(v21.1++v22.1).length] [0,1,2,3,4,5,6,7,7,4,5,6,7,2,3,4,5,6,7,2,3,4,5,6,7,2,3,4,5,6,7,0,1,2,3,4,5,6,7,7,4,5,6,7,2,3,4,5,6,7,2,3,4,5,6,7,0,1,2,3,4,5,6,7,7,4,5,6,7,2,3,4,5,6,7,0,1,2,3,4,5,6,7,0,1,2,3,4,5,6,7,0,1,2,3,4,5,6,7,0,1,2,3,4,5,6,7,0,1,2,3,4,5,6,7,0,1,2,3,4,5,6,7,0,1,2,3,4,5,6,7,7,4,5,6,7,2,3,4,5,6,7,2,3,4,5,6,7,0,1,2,3,4,5,6,7,7,4,5,6,7,2,3,4,5,6,7,0,1,2,3,4,5,6,7,0,1,2,3,4,5,6,7,0,1,2,3,4,5,6,7,0,1,2,3,4,5,6,7,7,4,5,6,7,2,3,4,5,6,7,0,1,2,3,4,5,6,7,0,1,2,3,4,5,6,7,0,1,2,3,4,5,6,7,0,1,2,3,4,5,6,7,0,1,2,3,4,5,6,7,0,1,2,3,4,5,6,7,0,1,2,3,4,5,6,7,0,1,2,3,4,5,6,7,0,1,2,3,4,5,6,7,0,1,2,3,4,5,6,7,0,1,2,3,4,5,6,7,0,1,2,3,4,5,6,7,7,4,5,6,7,2,3,4,5,6,7,2,3,4,5,6,7,0,1,2,3,4,5,6,7,7,4,5,6,7,2,3,4,5,6,7,0,1,2,3,4,5,6,7,0,1,2,3,4,5,6,7,0,1,2,3,4,5,6,7,0,1,2,3,4,5,6,7,7,4,5,6,7,2,3,4,5,6,7,0,1,2,3,4,5,6,7,0,1,2,3,4,5,6,7,0,1,2,3,4,5,6,7,0,1,2,3,4,5,6,7,0,1,2,3,4,5,6,7,0,1,2,3,4,5,6,7,7,4,5,6,7,2,3,4,5,6,7,0,1,2,3,4,5,6,7,0,1,2,3,4,5,6,7,0,1,2,3,4,5,6,7,0,1,2,3,4,5,6,7,0,1,2,3,4,5,6,7,0,1,2,3,4,5,6,7,0,1,2,3,4,5,6,7,0,1,2,3,4,5,6,7,0,1,2,3,4,5,6,7,0,1,2,3,4,5,6,7,0,1,2,3,4,5,6,7,0,1,2,3,4,5,6,7,0,1,2,3,4,5,6,7,0,1,2,3,4,5,6,7,0,1,2,3,4,5,6,7,0,1,2,3,4,5,6,7,0,1,2,3,4,5,6,7] (by kernel_rfl) (by kernel_rfl) ⟨ob0,ob1,ob2,ob3,ob4,ob5,ob6,ob7,trivial⟩) ?_
 refine yfa ?_
 obtain⟨y25,hl_x24,hk_x24⟩:=bs h
 clear h
 refine yfc (J:=fun (x:((List Qr)×Int))=>[bX 0 [.raw (.bool v22.2)],dP 1 a1,bP 6 a2,bX 8 zQ,(9,.d false [.fn 113 [(false,[.pt (ePt a3)])]]),vL 10 38 eRt x.1,vL 27 38 eRt (v21.1++v22.1),pL 28 (v21.1++v22.1),pI 29 x.2]) hl_x24 wkk (fun x24 o_x24 h hy_x24=>?_)
 unfold yrd at h
 refine kG [bX 0 [.raw (.bool v22.2)],dP 1 a1,bP 6 a2,bX 8 zQ,(9,.d false [.fn 113 [(false,[.pt (ePt a3)])]]),vL 10 38 eRt x24.1,vL 27 38 eRt (v21.1++v22.1),pL 28 (v21.1++v22.1),pI 29 x24.2,pB 30 (decide (x24.2<((v21.1++v22.1).length:Int)))] [] trivial ?_
 refine yab (kI h (fun hc5_25 h=>?_) (fun hc5_25 h=>?_))
 ·refine yga (q_n (yab (yfa ?_)))
  obtain⟨v27,hv27,h⟩:=bs h
  refine kG [bX 0 [.raw (.bool v22.2)],dP 1 a1,bP 6 a2,bX 8 zQ,(9,.d false [.fn 113 [(false,[.pt (ePt a3)])]]),vL 10 38 eRt x24.1,bR 12 v27,vL 27 38 eRt (v21.1++v22.1),pL 28 (v21.1++v22.1),pI 29 x24.2] [hR 0 (eRt v27),hR 1 (eRt v27)] (A3 (yba hv27).1 (yca eRt (yba hv27).2) (gW 38 eRt hv27)) ?_
  obtain⟨v28,hv28,h⟩:=bs h
  obtain⟨w30,hw30,h⟩:=bs h
  refine yza (l1:=[bX 0 [.raw (.bool v22.2)],dP 1 a1,bP 6 a2,bX 8 zQ,(9,.d false [.fn 113 [(false,[.pt (ePt a3)])]]),vL 10 38 eRt x24.1,bR 12 v27,vL 27 38 eRt (v21.1++v22.1),pL 28 (v21.1++v22.1),pI 29 x24.2,pB 44 w30]) ?_ ?_
  ·clear h
   rcases ft (!v28) with ha1 | ha1
   ·obtain⟨v29,hv29,hw30⟩:=bs (yrh ha1 hw30)
    have hw30:=oi hw30
    subst hw30
    exact(r_gq [bX 0 [.raw (.bool v22.2)],dP 1 a1,bP 6 a2,bX 8 zQ,(9,.d false [.fn 113 [(false,[.pt (ePt a3)])]]),vL 10 38 eRt x24.1,bR 12 v27,vL 27 38 eRt (v21.1++v22.1),pL 28 (v21.1++v22.1),pI 29 x24.2,pB 44 (!v29)] [hC 3 [.p (.bool v28)],(6,gT),(7,gT),(8,gT),(9,{g:=some true,call:=some (none,[.p (.bool v29)],true)}),(10,gT),(11,bT)] (B6 (ydc hv28) ha1 ha1 ha1 ha1 (ydc hv29) (A2 ha1 ha1)))
   replace hw30:=ysh ha1 hw30
   have hw30:=oi hw30
   subst hw30
   exact(r_gq [bX 0 [.raw (.bool v22.2)],dP 1 a1,bP 6 a2,bX 8 zQ,(9,.d false [.fn 113 [(false,[.pt (ePt a3)])]]),vL 10 38 eRt x24.1,bR 12 v27,vL 27 38 eRt (v21.1++v22.1),pL 28 (v21.1++v22.1),pI 29 x24.2,pB 44 false] [hC 3 [.p (.bool v28)],(6,gF),(7,gF),(8,gF),(9,gF),(10,gF),(11,bF)] (B6 (ydc hv28) ha1 ha1 ha1 ha1 ha1 (A1 ha1)))
  refine kI h (fun hc6_30 h=>?_) (fun hc6_30 h=>?_)
  ·obtain⟨u32,hu32,h⟩:=bs h
   refine yub (r_gq [bX 0 [.raw (.bool v22.2)],dP 1 a1,bP 6 a2,bX 8 zQ,(9,.d false [.fn 113 [(false,[.pt (ePt a3)])]]),vL 10 38 eRt (x24.1++[v27]),vL 27 38 eRt (v21.1++v22.1),pL 28 (v21.1++v22.1),pI 29 x24.2] [(3,{fix:=some (vL 48 38 eRt (x24.1++[v27]))})] (A3 (lG' eRt hu32) (show ∀ row∈((([v27]).map eRt):List (List C)),row.length=2 from(ycc fun _=>rfl)) (aP' 38 eRt x24.1 ([v27])))) ?_
   refine b_n (q_n (yub (r_gq [bX 0 [.raw (.bool v22.2)],dP 1 a1,bP 6 a2,bX 8 zQ,(9,.d false [.fn 113 [(false,[.pt (ePt a3)])]]),vL 10 38 eRt (x24.1++[v27]),vL 27 38 eRt (v21.1++v22.1),pL 28 (v21.1++v22.1),pI 29 (w64 (x24.2+1))] [] trivial) ?_))
   exact lqn ((x24.1++[v27]),(w64 (x24.2+1))) h
  refine yga (b_n (q_n (yub (r_gq [bX 0 [.raw (.bool v22.2)],dP 1 a1,bP 6 a2,bX 8 zQ,(9,.d false [.fn 113 [(false,[.pt (ePt a3)])]]),vL 10 38 eRt x24.1,vL 27 38 eRt (v21.1++v22.1),pL 28 (v21.1++v22.1),pI 29 (w64 (x24.2+1))] [] trivial) ?_)))
  exact lqn (x24.1,(w64 (x24.2+1))) h
 refine ywb (q_x (lq_x (b_x ?_)))
 have hyy:=hy_x24 _ (oi h).symm
 subst hyy
 have h:=hk_x24
 refine q_n ?_
 exact jx (v22.2,x24.1) h
theorem ywv {a0:(List Qp)} {a1:(List Qp)}  {r:((List Qp)×Bool)} (h:ypc a0 a1=some r):Meets Tryz.prog 7 [.d false (sP a0),.d false (sP a1)] { vals:=[.ov false (oP 40 r.1),.p (.bool r.2)] }:=by
 refine mo Tryz.func7 [dP 0 a0,dP 1 a1] ?_
 unfold ypc at h
 refine kG [dP 0 a0,dP 1 a1] [] trivial ?_
 refine yab ?_
 obtain⟨v1,hv1,h⟩:=bs h
 refine kG [dP 0 a0,dP 1 a1,pB 6 v1.1,pB 7 v1.2] [hC 2 [.p (.bool v1.1),.p (.bool v1.2)]] (A1 (ypu hv1)) ?_
 refine yza (l1:=[dP 0 a0,dP 1 a1,pB 22 ((!v1.2)||(!v1.1))]) ?_ ?_
 ·rcases ft (!v1.2) with ha0 | ha0
  ·exact RegOk.of_eq (r_gq [dP 0 a0,dP 1 a1,pB 22 true] [(3,gT),(4,gT),(5,bT)] (A3 ha0 ha0 ha0)) (by simp[ha0])
  exact RegOk.of_eq (r_gq [dP 0 a0,dP 1 a1,pB 22 (!v1.1)] [(3,gF),(4,gF),(5,bF)] (A3 ha0 ha0 ha0)) (by simp[ha0])
 refine kI h (fun hc2_1 h=>?_) (fun hc2_1 h=>?_)
 ·refine kG [vN 4 40,pB 5 false] [] trivial ?_
  refine yra (q_r ?_)
  obtain rfl:=oi h
  exact er [(.ov false (oN 40),4),(.p (.bool false),5)]
 refine yga (q_n (kG [dP 0 a0,dP 1 a1,bX 8 [.raw (.bool false)]] [] trivial ?_))
 obtain⟨v3,hv3,h⟩:=bs h
 refine kG [dP 0 a0,dP 1 a1,bX 8 [.raw (.bool false)],vP 9 40 v3] [hC 1 [.ov false (oP 40 v3)]] (A2 (ylh hv3) (show List.all [.ov false (oP 40 v3)] simpleR=true from(sa_o (wnR1 (yge (wn_P (wn_P wn_I wn_I) (wn_P wn_I wn_I))) rfl) rfl))) ?_
 refine yib (J:=fun (x:(Bool×(List Qp)))=>[bX 8 [.raw (.bool x.1)],vP 9 40 x.2]) (K:=fun x=>ysm x=some r) (fun x4 h=>?_) ?_
 ·unfold ysm at h
  refine yab (kG [vP 9 40 x4.2,pB 52 x4.1] [] trivial ?_)
  refine kI h (fun hc2_4 h=>?_) (fun hc2_4 h=>?_)
  ·refine kG [vN 4 40,pB 5 false] [] trivial ?_
   refine yra (q_r ?_)
   obtain rfl:=oi h
   exact er [(.ov false (oN 40),4),(.p (.bool false),5)]
  refine yga (q_n (kG [vP 4 40 x4.2,pB 5 true] [] trivial ?_))
  refine yra ?_
  obtain rfl:=oi h
  exact er [(.ov false (oP 40 x4.2),4),(.p (.bool true),5)]
 refine kG [dP 0 a0,dP 1 a1,bX 8 [.raw (.bool false)],vP 9 40 v3,pI 10 (w64 ((a1.length:Int)-2))] [hN 1 a1] (A1 (lnP a1)) ?_
 refine yfa ?_
 obtain⟨y7,hl_x6,hk_x6⟩:=bs h
 clear h
 refine yfc (J:=fun (x:(Bool×(List Qp)×Int))=>[dP 0 a0,dP 1 a1,bX 8 [.raw (.bool x.1)],vP 9 40 x.2.1,pI 10 x.2.2]) hl_x6 wkk (fun x6 o_x6 h hy_x6=>?_)
 unfold ysb at h
 refine yab (yza (l1:=[dP 0 a0,dP 1 a1,bX 8 [.raw (.bool x6.1)],vP 9 40 x6.2.1,pI 10 x6.2.2,pB 34 ((decide (x6.2.2>=0))&&(!x6.1))]) ?_ ?_)
 ·rcases ft (decide (x6.2.2>=0)) with ha1 | ha1
  ·exact RegOk.of_eq (r_gq [dP 0 a0,dP 1 a1,bX 8 [.raw (.bool x6.1)],vP 9 40 x6.2.1,pI 10 x6.2.2,pB 34 (!x6.1)] [(3,gT),(4,gT),(5,gT),(6,bT)] (A4 ha1 ha1 ha1 ha1)) (by simp[ha1])
  exact RegOk.of_eq (r_gq [dP 0 a0,dP 1 a1,bX 8 [.raw (.bool x6.1)],vP 9 40 x6.2.1,pI 10 x6.2.2,pB 34 false] [(3,gF),(4,gF),(5,gF),(6,bF)] (A4 ha1 ha1 ha1 ha1)) (by simp[ha1])
 refine kI h (fun hc5_7 h=>?_) (fun hc5_7 h=>?_)
 ·refine yga (q_n (yab (yfa ?_)))
  obtain⟨v9,hv9,h⟩:=bs h
  obtain⟨v10,hv10,h⟩:=bs h
  obtain⟨v11,hv11,h⟩:=bs h
  obtain⟨v12,hv12,h⟩:=bs h
  refine yub (r_dq yda 13 [(12,8)] [dP 0 a0,dP 1 a1,bX 8 [.raw (.bool v11.2)],vP 9 40 (x6.2.1.set (Int.toNat x6.2.2) v11.1),pI 10 x6.2.2] [hR 5 (ePt v9),hR 10 (ePt v10),hR 11 (ePt v10),hT 12 [.p (vPt v11.1)] (.box [.raw (.bool v11.2)]),hR 13 (ePt v12),(14,{row:=some (ePt v12),fix:=some (vP 9 40 (x6.2.1.set (Int.toNat x6.2.2) v11.1))})] (B6 (yba hv9).1 (yca ePt (yba hv9).2) (yba hv10).1 (yca ePt (yba hv10).2) (gW 40 ePt hv10) (yvv hv11) (A4 (yba hv12).1 (yca ePt (yba hv12).2) (gW 40 ePt hv12) (show(SV.ov false [.sl (some 40) (setL (x6.2.1.map ePt) [((Int.toNat x6.2.2),0)] (ePt v11.1))]:SV)=.ov false (oP 40 (x6.2.1.set (Int.toNat x6.2.2) v11.1)) from(congrArg (fun z=>SV.ov false [.sl (some 40) z]) (set1 (f:=ePt) (y:=v11.1) (yba hv12).2 rfl)))))) ?_
  refine b_n (q_n (yub (r_gq [dP 0 a0,dP 1 a1,bX 8 [.raw (.bool v11.2)],vP 9 40 (x6.2.1.set (Int.toNat x6.2.2) v11.1),pI 10 (w64 (x6.2.2-1))] [] trivial) ?_))
  exact lqn (v11.2,(x6.2.1.set (Int.toNat x6.2.2) v11.1),(w64 (x6.2.2-1))) h
 refine ywb (q_x (lq_x (b_x ?_)))
 have hyy:=hy_x6 _ (oi h).symm
 subst hyy
 have h:=hk_x6
 refine q_n ?_
 exact jx (x6.1,x6.2.1) h
theorem yol {a0:(List Qp)} {a1:(List Qp)}  {r:((List Int)×Bool)} (h:yuf a0 a1=some r):Meets Tryz.prog 52 [.d false (sP a0),.d false (sP a1)] { vals:=[rO 3 eI r.1,.p (.bool r.2)] }:=by
 refine mo Tryz.func52 [dP 0 a0,dP 1 a1] ?_
 unfold yuf at h
 refine kG [dP 0 a0,dP 1 a1] [] trivial ?_
 refine kG [dP 0 a0,dP 1 a1,vN 6 3] [] trivial ?_
 refine yib (J:=fun (x:(List Int))=>[vL 6 3 eI x]) (K:=fun x=>yzp x=some r) (fun x1 h=>?_) ?_
 ·unfold yzp at h
  refine kG [vL 4 3 eI x1,pB 5 true] [] trivial ?_
  refine yra ?_
  obtain rfl:=oi h
  exact er [(.ov false [.sl (some 3) (x1.map eI)],4),(.p (.bool true),5)]
 refine kG [dP 0 a0,dP 1 a1,vN 6 3,dP 11 a1,pL 12 a1,pI 13 0] [hN 1 a1] (A1 (lnP a1)) ?_
 refine yfa ?_
 obtain⟨y3,hl_x2,hk_x2⟩:=bs h
 clear h
 refine yfc (J:=fun (x:((List Int)×Int))=>[dP 0 a0,dP 1 a1,vL 6 3 eI x.1,dP 11 a1,pL 12 a1,pI 13 x.2]) hl_x2 wkk (fun x2 o_x2 h hy_x2=>?_)
 unfold ybj at h
 refine kG [dP 0 a0,dP 1 a1,vL 6 3 eI x2.1,dP 11 a1,pL 12 a1,pI 13 x2.2,pB 14 (decide (x2.2<(a1.length:Int)))] [] trivial ?_
 refine yab (kI h (fun hc5_3 h=>?_) (fun hc5_3 h=>?_))
 ·refine yga (q_n (yab (yfa ?_)))
  obtain⟨v5,hv5,h⟩:=bs h
  refine kG [dP 0 a0,dP 1 a1,vL 6 3 eI x2.1,pI 7 x2.2,bP 8 v5,dP 11 a1,pL 12 a1,pI 13 x2.2] [hR 1 (ePt v5)] (A2 (yba hv5).1 (yca ePt (yba hv5).2)) ?_
  obtain⟨u6,hu6,h⟩:=bs h
  obtain⟨v7,hv7,h⟩:=bs h
  obtain⟨v8,hv8,h⟩:=bs h
  refine yza (r_dq yda 10 [] [dP 0 a0,dP 1 a1,vL 6 3 eI x2.1,pI 7 x2.2,pB 9 v8.1,pB 10 v8.2,dP 11 a1,pL 12 a1,pI 13 x2.2] [hN 6 a1,hR 8 (ePt v7),hC 10 [.p (.bool v8.1),.p (.bool v8.2)]] (A5 (lnP a1) (yla hu6) (yba hv7).1 (yca ePt (yba hv7).2) (ysi hv8))) ?_
  refine yab (kG [dP 0 a0,dP 1 a1,vL 6 3 eI x2.1,pI 7 x2.2,pB 9 v8.1,dP 11 a1,pL 12 a1,pI 13 x2.2,pB 33 (!v8.2)] [] trivial ?_)
  refine kI h (fun hc7_8 h=>?_) (fun hc7_8 h=>?_)
  ·refine kG [vN 4 3,pB 5 false] [] trivial ?_
   refine yra (q_r (b_r (q_r (lq_r ?_))))
   refine b_r (q_r ?_)
   have hyy:=hy_x2 _ (oi h).symm
   subst hyy
   have h:=hk_x2
   dsimp only[Sum.elim] at h
   obtain rfl:=oi h
   exact er [(.ov false (oN 3),4),(.p (.bool false),5)]
  refine yga (q_n (kG [dP 0 a0,dP 1 a1,vL 6 3 eI x2.1,pI 7 x2.2,dP 11 a1,pL 12 a1,pI 13 x2.2,pB 35 (!v8.1)] [] trivial ?_))
  refine kI h (fun hc6_9 h=>?_) (fun hc6_9 h=>?_)
  ·obtain⟨u11,hu11,h⟩:=bs h
   refine yub (r_gq [dP 0 a0,dP 1 a1,vL 6 3 eI (x2.1++[x2.2]),dP 11 a1,pL 12 a1,pI 13 x2.2] [(3,{fix:=some (vL 39 3 eI (x2.1++[x2.2]))})] (A3 (lG' eI hu11) (show ∀ row∈((([x2.2]).map eI):List (List C)),row.length=1 from(ycc fun _=>rfl)) (aP' 3 eI x2.1 ([x2.2])))) ?_
   refine b_n (q_n (yub (r_gq [dP 0 a0,dP 1 a1,vL 6 3 eI (x2.1++[x2.2]),dP 11 a1,pL 12 a1,pI 13 (w64 (x2.2+1))] [] trivial) ?_))
   exact lqn ((x2.1++[x2.2]),(w64 (x2.2+1))) h
  refine yga (b_n (q_n (yub (r_gq [dP 0 a0,dP 1 a1,vL 6 3 eI x2.1,dP 11 a1,pL 12 a1,pI 13 (w64 (x2.2+1))] [] trivial) ?_)))
  exact lqn (x2.1,(w64 (x2.2+1))) h
 refine ywb (q_x (lq_x (b_x ?_)))
 have hyy:=hy_x2 _ (oi h).symm
 subst hyy
 have h:=hk_x2
 dsimp only[Sum.elim] at h
 refine q_n ?_
 exact jx x2.1 h
theorem ytc1 {a0:Qp} {a1:Qp} {a2:Qr}  {r:(Qr×Bool)} (h:yor a0 a1 a2=some r):Meets Tryz.prog 176 [.v (vPt a0),.v (vPt a1),.v (vRt a2)] { vals:=[.p (vRt r.1),.p (.bool r.2)] }:=by
 refine mo Tryz.func176 [(0,.p (vPt a0)),(1,.p (vPt a1)),(2,.p (vRt a2))] ?_
 unfold yor at h
 refine kG [bP 3 a0,bP 4 a1,bR 5 a2,bX 6 zR] [] trivial ?_
 obtain⟨v1,hv1,h⟩:=bs h
 refine kG [bP 3 a0,bP 4 a1,bX 6 zR,bR 8 v1.1,pB 9 v1.2] [hC 3 [.p (vRt v1.1),.p (.bool v1.2)]] (A1 (yeq hv1)) ?_
 refine yab (kG [bP 3 a0,bP 4 a1,bX 6 zR,bR 8 v1.1,pB 20 (!v1.2)] [] trivial ?_)
 refine kI h (fun hc2_1 h=>?_) (fun hc2_1 h=>?_)
 ·refine kG [bX 6 zR,pB 7 false] [] trivial ?_
  refine yra (q_r ?_)
  obtain rfl:=oi h
  exact er [(.p (.agg #[.int .i64 0,.int .i64 0]),6),(.p (.bool false),7)]
 refine yga (q_n ?_)
 obtain⟨v3,hv3,h⟩:=bs h
 obtain⟨v4,hv4,h⟩:=bs h
 refine yza (r_dq yda 10 [(9,10)] [bP 3 a0,bX 6 zR,bR 10 v4.1,pB 11 v4.2] [hC 3 [.p (vRt v3)],hC 4 [.p (vRt v4.1),.p (.bool v4.2)]] (A2 (yzj hv3) (ynx hv4))) ?_
 refine yab (kG [bP 3 a0,bX 6 zR,bR 10 v4.1,pB 31 (!v4.2)] [] trivial ?_)
 refine kI h (fun hc2_4 h=>?_) (fun hc2_4 h=>?_)
 ·refine kG [bX 6 zR,pB 7 false] [] trivial ?_
  refine yra (q_r ?_)
  obtain rfl:=oi h
  exact er [(.p (.agg #[.int .i64 0,.int .i64 0]),6),(.p (.bool false),7)]
 refine yga (q_n ?_)
 obtain⟨v6,hv6,h⟩:=bs h
 refine kG [bR 6 v6.1,pB 7 v6.2] [hC 3 [.p (vRt v6.1),.p (.bool v6.2)]] (A1 (yox hv6)) ?_
 refine yra ?_
 obtain rfl:=oi h
 exact er [(.p (vRt v6.1),6),(.p (.bool v6.2),7)]
theorem yht {a0:(List Qp)} {a1:Qr}  {r:((List Qr)×Bool)} (h:yhl a0 a1=some r):Meets Tryz.prog 118 [.d false (sP a0),.v (vRt a1)] { vals:=[rO 38 eRt r.1,.p (.bool r.2)] }:=by
 refine mo Tryz.func118 [dP 0 a0,(1,.p (vRt a1))] ?_
 unfold yhl at h
 refine kG [dP 0 a0,bR 3 a1] [] trivial ?_
 refine kG [dP 0 a0,bR 3 a1,vN 6 38] [] trivial ?_
 refine yib (J:=fun (x:(List Qr))=>[vL 6 38 eRt x]) (K:=fun x=>yvp x=some r) (fun x1 h=>?_) ?_
 ·unfold yvp at h
  refine kG [vL 4 38 eRt x1,pB 5 true] [] trivial ?_
  refine yra ?_
  obtain rfl:=oi h
  exact er [(.ov false [.sl (some 38) (x1.map eRt)],4),(.p (.bool true),5)]
 refine kG [dP 0 a0,bR 3 a1,vN 6 38,pI 7 1] [] trivial ?_
 refine yfa ?_
 obtain⟨y3,hl_x2,hk_x2⟩:=bs h
 clear h
 refine yfc (J:=fun (x:((List Qr)×Int))=>[dP 0 a0,bR 3 a1,vL 6 38 eRt x.1,pI 7 x.2]) hl_x2 wkk (fun x2 o_x2 h hy_x2=>?_)
 unfold ywp at h
 refine yab (kG [dP 0 a0,bR 3 a1,vL 6 38 eRt x2.1,pI 7 x2.2,pB 17 (decide (x2.2<(a0.length:Int)))] [hN 2 a0] (A1 (lnP a0)) ?_)
 refine kI h (fun hc5_3 h=>?_) (fun hc5_3 h=>?_)
 ·refine yga (q_n (yab (yfa ?_)))
  obtain⟨v5,hv5,h⟩:=bs h
  obtain⟨v6,hv6,h⟩:=bs h
  refine yza (r_dq yda 12 [(11,8)] [dP 0 a0,bR 3 a1,vL 6 38 eRt x2.1,pI 7 x2.2,bP 8 v5,bP 9 v6] [hR 3 (ePt v5),hR 7 (ePt v6)] (A4 (yba hv5).1 (yca ePt (yba hv5).2) (yba hv6).1 (yca ePt (yba hv6).2))) ?_
  obtain⟨v7,hv7,h⟩:=bs h
  obtain⟨v8,hv8,h⟩:=bs h
  refine yza (r_dq yda 7 [] [dP 0 a0,bR 3 a1,vL 6 38 eRt x2.1,pI 7 x2.2,bP 8 v5,bP 9 v6,pI 10 v7,pI 11 v8] [hC 3 [.p (iV v7)],hC 7 [.p (iV v8)]] (A2 (yta hv7) (yta hv8))) ?_
  refine yib (J:=fun (x:(List Qr))=>[dP 0 a0,bR 3 a1,vL 6 38 eRt x,pI 7 x2.2,bP 8 v5,bP 9 v6,pI 10 v7,pI 11 v8]) (K:=fun x=>yxg a1 x2 v5 v6 v7 v8 x=some o_x2) (fun x9 h=>?_) ?_
  ·unfold yxg at h
   refine yib (J:=fun (x:(List Qr))=>[dP 0 a0,bR 3 a1,vL 6 38 eRt x,pI 7 x2.2,bP 8 v5,bP 9 v6,pI 10 v7,pI 11 v8]) (K:=fun x=>ywg a1 x2 v5 v6 v7 v8 x=some o_x2) (fun x10 h=>?_) ?_
   ·unfold ywg at h
    refine yab (kG [dP 0 a0,bR 3 a1,vL 6 38 eRt x10,pI 7 x2.2,bP 8 v5,bP 9 v6,pB 52 (decide ((w64 (v7*v8))>=0))] [] trivial ?_)
    refine kI h (fun hc7_10 h=>?_) (fun hc7_10 h=>?_)
    ·refine ywb (q_x (b_x (q_n (yub (r_gq [dP 0 a0,bR 3 a1,vL 6 38 eRt x10,pI 7 (w64 (x2.2+1))] [] trivial) ?_))))
     exact lqn (x10,(w64 (x2.2+1))) h
    refine yga (q_n ?_)
    obtain⟨v12,hv12,h⟩:=bs h
    refine kG [dP 0 a0,bR 3 a1,vL 6 38 eRt x10,pI 7 x2.2,bR 12 v12.1,pB 13 v12.2] [hC 3 [.p (vRt v12.1),.p (.bool v12.2)]] (A1 (ytc1 hv12)) ?_
    refine yab (kG [dP 0 a0,bR 3 a1,vL 6 38 eRt x10,pI 7 x2.2,bR 12 v12.1,pB 61 (!v12.2)] [] trivial ?_)
    refine kI h (fun hc7_12 h=>?_) (fun hc7_12 h=>?_)
    ·refine kG [vN 4 38,pB 5 false] [] trivial ?_
     refine yra (q_r (b_r (q_r (lq_r ?_))))
     refine b_r (q_r ?_)
     have hyy:=hy_x2 _ (oi h).symm
     subst hyy
     have h:=hk_x2
     dsimp only[Sum.elim] at h
     obtain rfl:=oi h
     exact er [(.ov false (oN 38),4),(.p (.bool false),5)]
    refine yga (q_n ?_)
    obtain⟨v14,hv14,h⟩:=bs h
    refine yub (r_gq [dP 0 a0,bR 3 a1,vL 6 38 eRt v14,pI 7 x2.2] [(2,{lend:=some (none,[rO 38 eRt v14],.u,true)})] (A2 (yxd hv14) (sR' 38 v14))) ?_
    refine b_n (q_n (yub (r_gq [dP 0 a0,bR 3 a1,vL 6 38 eRt v14,pI 7 (w64 (x2.2+1))] [] trivial) ?_))
    exact lqn (v14,(w64 (x2.2+1))) h
   refine kG [dP 0 a0,bR 3 a1,vL 6 38 eRt x9,pI 7 x2.2,bP 8 v5,bP 9 v6,pI 10 v7,pI 11 v8,pB 44 (v8==0)] [] trivial ?_
   refine kI h (fun hc7_14 h=>?_) (fun hc7_14 h=>?_)
   ·obtain⟨v16,hv16,h⟩:=bs h
    refine yub (r_gq [dP 0 a0,bR 3 a1,vL 6 38 eRt v16,pI 7 x2.2,bP 8 v5,bP 9 v6,pI 10 v7,pI 11 v8] [(3,{lend:=some (none,[rO 38 eRt v16],.u,true)})] (A2 (yxd hv16) (sR' 38 v16))) ?_
    refine q_n ?_
    exact jx v16 h
   refine yga (q_n ?_)
   exact jx x9 h
  refine kG [dP 0 a0,bR 3 a1,vL 6 38 eRt x2.1,pI 7 x2.2,bP 8 v5,bP 9 v6,pI 10 v7,pI 11 v8,pB 38 (v7==0)] [] trivial ?_
  refine kI h (fun hc7_16 h=>?_) (fun hc7_16 h=>?_)
  ·obtain⟨v18,hv18,h⟩:=bs h
   refine yub (r_gq [dP 0 a0,bR 3 a1,vL 6 38 eRt v18,pI 7 x2.2,bP 8 v5,bP 9 v6,pI 10 v7,pI 11 v8] [(3,{lend:=some (none,[rO 38 eRt v18],.u,true)})] (A2 (yxd hv18) (sR' 38 v18))) ?_
   refine q_n ?_
   exact jx v18 h
  refine yga (q_n ?_)
  exact jx x2.1 h
 refine ywb (q_x (lq_x (b_x ?_)))
 have hyy:=hy_x2 _ (oi h).symm
 subst hyy
 have h:=hk_x2
 dsimp only[Sum.elim] at h
 refine q_n ?_
 exact jx x2.1 h
theorem yhz {a0:(List Qp)} {a1:Qp} {a2:Qp}  {r:(Qp×Bool)} (h:ydh a0 a1 a2=some r):Meets Tryz.prog 53 [.d false (sP a0),.v (vPt a1),.v (vPt a2)] { vals:=[.p (vPt r.1),.p (.bool r.2)] }:=by
 refine mo Tryz.func53 [dP 0 a0,(1,.p (vPt a1)),(2,.p (vPt a2))] ?_
 unfold ydh at h
 refine kG [dP 0 a0,bP 4 a1,bP 5 a2,bX 6 zQ] [] trivial ?_
 obtain⟨v1,hv1,h⟩:=bs h
 refine kG [dP 0 a0,bP 4 a1,bP 5 a2,bX 6 zQ,pB 8 v1.1,pB 9 v1.2] [hC 3 [.p (.bool v1.1),.p (.bool v1.2)]] (A1 (ysi hv1)) ?_
 refine yab (yza (l1:=[dP 0 a0,bP 4 a1,bP 5 a2,bX 6 zQ,pB 38 ((!v1.2)||(!v1.1))]) ?_ ?_)
 ·rcases ft (!v1.2) with ha0 | ha0
  ·exact RegOk.of_eq (r_gq [dP 0 a0,bP 4 a1,bP 5 a2,bX 6 zQ,pB 38 true] [(3,gT),(4,gT),(5,bT)] (A3 ha0 ha0 ha0)) (by simp[ha0])
  exact RegOk.of_eq (r_gq [dP 0 a0,bP 4 a1,bP 5 a2,bX 6 zQ,pB 38 (!v1.1)] [(3,gF),(4,gF),(5,bF)] (A3 ha0 ha0 ha0)) (by simp[ha0])
 refine kI h (fun hc2_1 h=>?_) (fun hc2_1 h=>?_)
 ·refine kG [bX 6 zQ,pB 7 false] [] trivial ?_
  refine yra (q_r ?_)
  obtain rfl:=oi h
  exact er [(.p (.agg #[.int .i64 0,.int .i64 0,.int .i64 0,.int .i64 0]),6),(.p (.bool false),7)]
 refine yga (q_n ?_)
 obtain⟨v3,hv3,h⟩:=bs h
 refine kG [dP 0 a0,bP 4 a1,bP 5 a2,bX 6 zQ,vL 10 38 eRt v3.1,pB 11 v3.2] [hC 3 [rO 38 eRt v3.1,.p (.bool v3.2)]] (A2 (yht hv3) (show List.all [rO 38 eRt v3.1,.p (.bool v3.2)] simpleR=true from(sa_o (wnR1 (yge (wn_P wn_I wn_I)) rfl) (sa_p rfl)))) ?_
 obtain⟨v4,hv4,h⟩:=bs h
 refine kG [dP 0 a0,bP 4 a1,bP 5 a2,bX 6 zQ,vL 10 38 eRt v3.1,pB 11 v3.2,vL 12 38 eRt v4.1,pB 13 v4.2] [hC 3 [rO 38 eRt v4.1,.p (.bool v4.2)]] (A2 (yht hv4) (show List.all [rO 38 eRt v4.1,.p (.bool v4.2)] simpleR=true from(sa_o (wnR1 (yge (wn_P wn_I wn_I)) rfl) (sa_p rfl)))) ?_
 refine yab (yza (l1:=[dP 0 a0,bP 4 a1,bP 5 a2,bX 6 zQ,vL 10 38 eRt v3.1,vL 12 38 eRt v4.1,pB 59 ((!v3.2)||(!v4.2))]) ?_ ?_)
 ·rcases ft (!v3.2) with ha1 | ha1
  ·exact RegOk.of_eq (r_gq [dP 0 a0,bP 4 a1,bP 5 a2,bX 6 zQ,vL 10 38 eRt v3.1,vL 12 38 eRt v4.1,pB 59 true] [(3,gT),(4,gT),(5,bT)] (A3 ha1 ha1 ha1)) (by simp[ha1])
  exact RegOk.of_eq (r_gq [dP 0 a0,bP 4 a1,bP 5 a2,bX 6 zQ,vL 10 38 eRt v3.1,vL 12 38 eRt v4.1,pB 59 (!v4.2)] [(3,gF),(4,gF),(5,bF)] (A3 ha1 ha1 ha1)) (by simp[ha1])
 refine kI h (fun hc2_4 h=>?_) (fun hc2_4 h=>?_)
 ·refine kG [bX 6 zQ,pB 7 false] [] trivial ?_
  refine yra (q_r ?_)
  obtain rfl:=oi h
  exact er [(.p (.agg #[.int .i64 0,.int .i64 0,.int .i64 0,.int .i64 0]),6),(.p (.bool false),7)]
 refine yga (q_n (kG [dP 0 a0,bP 4 a1,bP 5 a2,bX 6 zQ,vL 10 38 eRt v3.1,vL 12 38 eRt v4.1,vN 14 38] [] trivial ?_))
 refine yib (J:=fun (x:(List Qr))=>[dP 0 a0,bP 4 a1,bP 5 a2,bX 6 zQ,vL 14 38 eRt x]) (K:=fun x=>yum a0 a1 a2 x=some r) (fun x6 h=>?_) ?_
 ·unfold yum at h
  refine yib (J:=fun (x:(List Qr))=>[dP 0 a0,bX 6 zQ,vL 14 38 eRt x]) (K:=fun x=>ycj a0 x=some r) (fun x7 h=>?_) ?_
  ·unfold ycj at h
   refine yib (J:=fun (x:Unit)=>[bX 6 zQ]) (K:=fun x=>ytm x=some r) (fun x8 h=>?_) ?_
   ·unfold ytm at h
    refine kG [bX 6 zQ,pB 7 false] [] trivial ?_
    refine yra ?_
    obtain rfl:=oi h
    exact er [(.p (.agg #[.int .i64 0,.int .i64 0,.int .i64 0,.int .i64 0]),6),(.p (.bool false),7)]
   refine kG [dP 0 a0,bX 6 zQ,vL 14 38 eRt x7,pI 21 1] [] trivial ?_
   refine yfa ?_
   obtain⟨y10,hl_x9,hk_x9⟩:=bs h
   clear h
   refine yfc (J:=fun (x:Int)=>[dP 0 a0,bX 6 zQ,vL 14 38 eRt x7,pI 21 x]) hl_x9 wkk (fun x9 o_x9 h hy_x9=>?_)
   unfold yzg at h
   refine yab (kG [dP 0 a0,bX 6 zQ,vL 14 38 eRt x7,pI 21 x9,pB 118 (decide (x9<(x7.length:Int)))] [hN 2 x7] (A1 (lF eRt x7)) ?_)
   refine kI h (fun hc5_10 h=>?_) (fun hc5_10 h=>?_)
   ·refine yga (q_n (yab (yfa ?_)))
    obtain⟨v12,hv12,h⟩:=bs h
    obtain⟨v13,hv13,h⟩:=bs h
    refine kG [dP 0 a0,bX 6 zQ,vL 14 38 eRt x7,pI 21 x9,bR 22 v13.1] [hR 4 (eRt v12),hR 5 (eRt v12),hC 6 [.p (vRt v13.1),.p (.bool v13.2)]] (A4 (yba hv12).1 (yca eRt (yba hv12).2) (gW 38 eRt hv12) (ybn hv13)) ?_
    obtain⟨v14,hv14,h⟩:=bs h
    obtain⟨v15,hv15,h⟩:=bs h
    refine kG [dP 0 a0,bX 6 zQ,vL 14 38 eRt x7,pI 21 x9,bR 22 v13.1,bR 24 v15.1] [hR 3 (eRt v14),hR 4 (eRt v14),hC 5 [.p (vRt v15.1),.p (.bool v15.2)]] (A4 (yba hv14).1 (yca eRt (yba hv14).2) (gW 38 eRt hv14) (ybn hv15)) ?_
    refine kG [dP 0 a0,bX 6 zQ,vL 14 38 eRt x7,pI 21 x9,pB 142 (nR v13.1 v15.1)] [(2,{pv:=some (.bool (nR v13.1 v15.1))})] (A1 (show PureAt Tryz.prog (.binOp .neq 38 (.tmp 140) (.tmp 141) 38) [vRt v13.1,vRt v15.1] (.bool (nR v13.1 v15.1)) from(yic1 (by kernel_rfl)))) ?_
    refine kI h (fun hc6_15 h=>?_) (fun hc6_15 h=>?_)
    ·refine yza (r_dq yda 9 [] [bX 6 [rI v12.1,rI v12.2,rI v14.1,rI v14.2],pB 7 true] [hR 3 (eRt v12),hR 4 (eRt v12),hR 7 (eRt v14),hR 8 (eRt v14)] (A6 (yba hv12).1 (yca eRt (yba hv12).2) (gW 38 eRt hv12) (yba hv14).1 (yca eRt (yba hv14).2) (gW 38 eRt hv14))) ?_
     refine yra (b_r (q_r (lq_r ?_)))
     refine b_r (q_r ?_)
     have hyy:=hy_x9 _ (oi h).symm
     subst hyy
     have h:=hk_x9
     dsimp only[Sum.elim] at h
     obtain rfl:=oi h
     exact er [(.p (.agg #[.int .i64 v12.1,.int .i64 v12.2,.int .i64 v14.1,.int .i64 v14.2]),6),(.p (.bool true),7)]
    refine yga (b_n (q_n (yub (r_gq [dP 0 a0,bX 6 zQ,vL 14 38 eRt x7,pI 21 (w64 (x9+1))] [] trivial) ?_)))
    exact lqn (w64 (x9+1)) h
   refine ywb (q_x (lq_x (b_x ?_)))
   have hyy:=hy_x9 _ (oi h).symm
   subst hyy
   have h:=hk_x9
   dsimp only[Sum.elim] at h
   refine q_n ?_
   exact jx () h
  refine kG [dP 0 a0,bP 5 a2,bX 6 zQ,vL 14 38 eRt x6,vL 89 38 eRt ([a1.1,a1.2]),pL 90 ([a1.1,a1.2]),pI 91 0] [hN 5 ([a1.1,a1.2])] (A1 (lF eRt ([a1.1,a1.2]))) ?_
  refine yfa ?_
  obtain⟨y18,hl_x17,hk_x17⟩:=bs h
  clear h
  refine yfc (J:=fun (x:((List Qr)×Int))=>[dP 0 a0,bP 5 a2,bX 6 zQ,vL 14 38 eRt x.1,vL 89 38 eRt ([a1.1,a1.2]),pL 90 ([a1.1,a1.2]),pI 91 x.2]) hl_x17 wkk (fun x17 o_x17 h hy_x17=>?_)
  unfold ydj at h
  refine kG [dP 0 a0,bP 5 a2,bX 6 zQ,vL 14 38 eRt x17.1,vL 89 38 eRt ([a1.1,a1.2]),pL 90 ([a1.1,a1.2]),pI 91 x17.2,pB 92 (decide (x17.2<(([a1.1,a1.2]).length:Int)))] [] trivial ?_
  refine yab (kI h (fun hc5_18 h=>?_) (fun hc5_18 h=>?_))
  ·refine yga (q_n (yab (yfa ?_)))
   obtain⟨v20,hv20,h⟩:=bs h
   refine kG [dP 0 a0,bP 5 a2,bX 6 zQ,vL 14 38 eRt x17.1,bR 18 v20,vL 89 38 eRt ([a1.1,a1.2]),pL 90 ([a1.1,a1.2]),pI 91 x17.2] [hR 0 (eRt v20),hR 1 (eRt v20)] (A3 (yba hv20).1 (yca eRt (yba hv20).2) (gW 38 eRt hv20)) ?_
   obtain⟨v21,hv21,h⟩:=bs h
   refine kG [dP 0 a0,bP 5 a2,bX 6 zQ,vL 14 38 eRt x17.1,bR 18 v20,bR 19 v21.1,vL 89 38 eRt ([a1.1,a1.2]),pL 90 ([a1.1,a1.2]),pI 91 x17.2] [hC 2 [.p (vRt v21.1),.p (.bool v21.2)]] (A1 (ybn hv21)) ?_
   refine yza (l1:=[dP 0 a0,bP 5 a2,bX 6 zQ,vL 14 38 eRt x17.1,bR 18 v20,vL 89 38 eRt ([a1.1,a1.2]),pL 90 ([a1.1,a1.2]),pI 91 x17.2,pB 110 (((v21.1.1==a2.1.1)&&(v21.1.2==a2.1.2))||((v21.1.1==a2.2.1)&&(v21.1.2==a2.2.2)))]) ?_ ?_
   ·rcases ft ((v21.1.1==a2.1.1)&&(v21.1.2==a2.1.2)) with ha3 | ha3
    ·exact RegOk.of_eq (r_gq [dP 0 a0,bP 5 a2,bX 6 zQ,vL 14 38 eRt x17.1,bR 18 v20,vL 89 38 eRt ([a1.1,a1.2]),pL 90 ([a1.1,a1.2]),pI 91 x17.2,pB 110 true] [(3,{pv:=some (.bool ((v21.1.1==a2.1.1)&&(v21.1.2==a2.1.2)))}),(5,gT),(6,gT),(7,gT),(8,gT),(9,bT)] (A6 (show PureAt Tryz.prog (.binOp .eql 38 (.tmp 101) (.tmp 103) 38) [vRt v21.1,vRt a2.1] (.bool ((v21.1.1==a2.1.1)&&(v21.1.2==a2.1.2))) from(ylf (by kernel_rfl))) ha3 ha3 ha3 ha3 ha3)) (by simp[ha3])
    exact RegOk.of_eq (r_gq [dP 0 a0,bP 5 a2,bX 6 zQ,vL 14 38 eRt x17.1,bR 18 v20,vL 89 38 eRt ([a1.1,a1.2]),pL 90 ([a1.1,a1.2]),pI 91 x17.2,pB 110 ((v21.1.1==a2.2.1)&&(v21.1.2==a2.2.2))] [(3,{pv:=some (.bool ((v21.1.1==a2.1.1)&&(v21.1.2==a2.1.2)))}),(5,gF),(6,gF),(7,gF),(8,(hB ((v21.1.1==a2.2.1)&&(v21.1.2==a2.2.2)))),(9,bF)] (B6 (show PureAt Tryz.prog (.binOp .eql 38 (.tmp 101) (.tmp 103) 38) [vRt v21.1,vRt a2.1] (.bool ((v21.1.1==a2.1.1)&&(v21.1.2==a2.1.2))) from(ylf (by kernel_rfl))) ha3 ha3 ha3 ha3 (show PureAt Tryz.prog (.binOp .eql 38 (.tmp 106) (.tmp 108) 38) [vRt v21.1,vRt a2.2] (.bool ((v21.1.1==a2.2.1)&&(v21.1.2==a2.2.2))) from(ylf (by kernel_rfl))) (A1 ha3))) (by simp[ha3])
   refine kI h (fun hc6_21 h=>?_) (fun hc6_21 h=>?_)
   ·obtain⟨v23,hv23,h⟩:=bs h
    refine yub (r_gq [dP 0 a0,bP 5 a2,bX 6 zQ,vL 14 38 eRt v23,vL 89 38 eRt ([a1.1,a1.2]),pL 90 ([a1.1,a1.2]),pI 91 x17.2] [(2,{lend:=some (none,[rO 38 eRt v23],.u,true)})] (A2 (yxd hv23) (sR' 38 v23))) ?_
    refine b_n (q_n (yub (r_gq [dP 0 a0,bP 5 a2,bX 6 zQ,vL 14 38 eRt v23,vL 89 38 eRt ([a1.1,a1.2]),pL 90 ([a1.1,a1.2]),pI 91 (w64 (x17.2+1))] [] trivial) ?_))
    exact lqn (v23,(w64 (x17.2+1))) h
   refine yga (b_n (q_n (yub (r_gq [dP 0 a0,bP 5 a2,bX 6 zQ,vL 14 38 eRt x17.1,vL 89 38 eRt ([a1.1,a1.2]),pL 90 ([a1.1,a1.2]),pI 91 (w64 (x17.2+1))] [] trivial) ?_)))
   exact lqn (x17.1,(w64 (x17.2+1))) h
  refine ywb (q_x (lq_x (b_x ?_)))
  have hyy:=hy_x17 _ (oi h).symm
  subst hyy
  have h:=hk_x17
  refine q_n ?_
  exact jx x17.1 h
 obtain⟨u24,hu24,h⟩:=bs h
 refine kG [dP 0 a0,bP 4 a1,bP 5 a2,bX 6 zQ,vN 14 38,vL 63 38 eRt (v3.1++v4.1),pL 64 (v3.1++v4.1),pI 65 0] [(2,{fix:=some (vL 63 38 eRt (v3.1++v4.1))}),hN 3 (v3.1++v4.1)] (A4 (lG' eRt hu24) (show ∀ row∈((v4.1.map eRt):List (List C)),row.length=2 from(ycc fun _=>rfl)) (aP' 38 eRt v3.1 v4.1) (lF eRt (v3.1++v4.1))) ?_
 refine yfa ?_
 obtain⟨y26,hl_x25,hk_x25⟩:=bs h
 clear h
 refine yfc (J:=fun (x:((List Qr)×Int))=>[dP 0 a0,bP 4 a1,bP 5 a2,bX 6 zQ,vL 14 38 eRt x.1,vL 63 38 eRt (v3.1++v4.1),pL 64 (v3.1++v4.1),pI 65 x.2]) hl_x25 wkk (fun x25 o_x25 h hy_x25=>?_)
 unfold yej at h
 refine kG [dP 0 a0,bP 4 a1,bP 5 a2,bX 6 zQ,vL 14 38 eRt x25.1,vL 63 38 eRt (v3.1++v4.1),pL 64 (v3.1++v4.1),pI 65 x25.2,pB 66 (decide (x25.2<((v3.1++v4.1).length:Int)))] [] trivial ?_
 refine yab (kI h (fun hc5_26 h=>?_) (fun hc5_26 h=>?_))
 ·refine yga (q_n (yab (yfa ?_)))
  obtain⟨v28,hv28,h⟩:=bs h
  refine kG [dP 0 a0,bP 4 a1,bP 5 a2,bX 6 zQ,vL 14 38 eRt x25.1,bR 16 v28,vL 63 38 eRt (v3.1++v4.1),pL 64 (v3.1++v4.1),pI 65 x25.2] [hR 0 (eRt v28),hR 1 (eRt v28)] (A3 (yba hv28).1 (yca eRt (yba hv28).2) (gW 38 eRt hv28)) ?_
  obtain⟨v29,hv29,h⟩:=bs h
  obtain⟨w31,hw31,h⟩:=bs h
  refine yza (l1:=[dP 0 a0,bP 4 a1,bP 5 a2,bX 6 zQ,vL 14 38 eRt x25.1,bR 16 v28,vL 63 38 eRt (v3.1++v4.1),pL 64 (v3.1++v4.1),pI 65 x25.2,pB 80 w31]) ?_ ?_
  ·clear h
   rcases ft (decide (v29<=0)) with ha3 | ha3
   ·obtain⟨v30,hv30,hw31⟩:=bs (yrh ha3 hw31)
    have hw31:=oi hw31
    subst hw31
    exact(r_gq [dP 0 a0,bP 4 a1,bP 5 a2,bX 6 zQ,vL 14 38 eRt x25.1,bR 16 v28,vL 63 38 eRt (v3.1++v4.1),pL 64 (v3.1++v4.1),pI 65 x25.2,pB 80 (decide (v30<=0))] [hC 3 [.p (iV v29)],(6,gT),(7,gT),(8,gT),(9,{g:=some true,call:=some (none,[.p (iV v30)],true)}),(10,gT),(11,bT)] (B6 (yta hv29) ha3 ha3 ha3 ha3 (yta hv30) (A2 ha3 ha3)))
   replace hw31:=ysh ha3 hw31
   have hw31:=oi hw31
   subst hw31
   exact(r_gq [dP 0 a0,bP 4 a1,bP 5 a2,bX 6 zQ,vL 14 38 eRt x25.1,bR 16 v28,vL 63 38 eRt (v3.1++v4.1),pL 64 (v3.1++v4.1),pI 65 x25.2,pB 80 false] [hC 3 [.p (iV v29)],(6,gF),(7,gF),(8,gF),(9,gF),(10,gF),(11,bF)] (B6 (yta hv29) ha3 ha3 ha3 ha3 ha3 (A1 ha3)))
  refine kI h (fun hc6_31 h=>?_) (fun hc6_31 h=>?_)
  ·obtain⟨v33,hv33,h⟩:=bs h
   refine yub (r_gq [dP 0 a0,bP 4 a1,bP 5 a2,bX 6 zQ,vL 14 38 eRt v33,vL 63 38 eRt (v3.1++v4.1),pL 64 (v3.1++v4.1),pI 65 x25.2] [(2,{lend:=some (none,[rO 38 eRt v33],.u,true)})] (A2 (yxd hv33) (sR' 38 v33))) ?_
   refine b_n (q_n (yub (r_gq [dP 0 a0,bP 4 a1,bP 5 a2,bX 6 zQ,vL 14 38 eRt v33,vL 63 38 eRt (v3.1++v4.1),pL 64 (v3.1++v4.1),pI 65 (w64 (x25.2+1))] [] trivial) ?_))
   exact lqn (v33,(w64 (x25.2+1))) h
  refine yga (b_n (q_n (yub (r_gq [dP 0 a0,bP 4 a1,bP 5 a2,bX 6 zQ,vL 14 38 eRt x25.1,vL 63 38 eRt (v3.1++v4.1),pL 64 (v3.1++v4.1),pI 65 (w64 (x25.2+1))] [] trivial) ?_)))
  exact lqn (x25.1,(w64 (x25.2+1))) h
 refine ywb (q_x (lq_x (b_x ?_)))
 have hyy:=hy_x25 _ (oi h).symm
 subst hyy
 have h:=hk_x25
 refine q_n ?_
 exact jx x25.1 h
theorem yxv {a0:(List Qp)} {a1:(List Qp)}  {r:((List Qp)×Bool)} (h:yec a0 a1=some r):Meets Tryz.prog 8 [.d false (sP a0),.d false (sP a1)] { vals:=[.ov false (oP 40 r.1),.p (.bool r.2)] }:=by
 refine mo Tryz.func8 [dP 0 a0,dP 1 a1] ?_
 unfold yec at h
 refine kG [dP 0 a0,dP 1 a1] [] trivial ?_
 refine yab ?_
 obtain⟨v1,hv1,h⟩:=bs h
 refine kG [dP 0 a0,dP 1 a1,pB 15 (!v1)] [hC 2 [.p (.bool v1)]] (A1 (yyd hv1)) ?_
 refine kI h (fun hc2_1 h=>?_) (fun hc2_1 h=>?_)
 ·refine kG [vN 4 40,pB 5 false] [] trivial ?_
  refine yra (q_r ?_)
  obtain rfl:=oi h
  exact er [(.ov false (oN 40),4),(.p (.bool false),5)]
 refine yga (q_n ?_)
 obtain⟨v3,hv3,h⟩:=bs h
 refine kG [dP 0 a0,dP 1 a1,vL 6 3 eI v3.1,pB 7 v3.2] [hC 2 [rO 3 eI v3.1,.p (.bool v3.2)]] (A2 (yol hv3) (show List.all [rO 3 eI v3.1,.p (.bool v3.2)] simpleR=true from(sa_o (wnR1 (yge wn_I) rfl) (sa_p rfl)))) ?_
 refine yab ?_
 obtain⟨w5,hw5,h⟩:=bs h
 refine yza (l1:=[dP 0 a0,dP 1 a1,pB 37 w5]) ?_ ?_
 ·clear h
  rcases ft (!v3.2) with ha1 | ha1
  ·replace hw5:=yrh ha1 hw5
   have hw5:=oi hw5
   subst hw5
   exact(r_gq [dP 0 a0,dP 1 a1,pB 37 true] [(3,gT),(4,gT),(5,gT),(6,gT),(14,gT),(15,bT)] (A6 ha1 ha1 ha1 ha1 ha1 ha1))
  replace hw5:=ysh ha1 hw5
  rcases ft (decide ((v3.1.length:Int)>0)) with ha2 | ha2
  ·obtain⟨v4,hv4,hw5⟩:=bs (yrh ha2 hw5)
   have hw5:=oi hw5
   subst hw5
   exact(r_gq [dP 0 a0,dP 1 a1,pB 37 (decide (v4<(w64 ((a1.length:Int)-1))))] [(3,gF),(4,{g:=some false,n:=some v3.1.length}),(5,gF),(6,gF),(7,gT),(8,{g:=some true,row:=some (eI v4)}),(9,{g:=some true,row:=some (eI v4)}),(10,gT),(11,{g:=some true,n:=some a1.length}),(12,gT),(13,gT),(14,gFbT),(15,bF)] (B6 ha1 ha1 (lF eI v3.1) ha1 ha1 ha2 (B6 ha2 (yba hv4).1 (yca eI (yba hv4).2) ha2 (gW 3 eI hv4) ha2 (B6 ha2 (lnP a1) ha2 ha2 ha1 ha2 (A1 ha1)))))
  replace hw5:=ysh ha2 hw5
  have hw5:=oi hw5
  subst hw5
  exact(r_gq [dP 0 a0,dP 1 a1,pB 37 false] [(3,gF),(4,{g:=some false,n:=some v3.1.length}),(5,gF),(6,gF),(7,gF),(8,gF),(9,gF),(10,gF),(11,gF),(12,gF),(13,gF),(14,gFbF),(15,bF)] (B6 ha1 ha1 (lF eI v3.1) ha1 ha1 ha2 (B6 ha2 ha2 ha2 ha2 ha2 ha2 (A3 ha1 ha2 ha1))))
 refine kI h (fun hc2_5 h=>?_) (fun hc2_5 h=>?_)
 ·refine kG [vN 4 40,pB 5 false] [] trivial ?_
  refine yra (q_r ?_)
  obtain rfl:=oi h
  exact er [(.ov false (oN 40),4),(.p (.bool false),5)]
 refine yga (q_n ?_)
 obtain⟨u7,hu7,h⟩:=bs h
 refine kG [dP 0 a0,dP 1 a1,vP 8 40 a1] [] (A2 (show List.length ([]:List (List C))+List.length ((a1.map ePt):List (List C))<=1099511627776 from(by have hg:=(yla hu7);simpa using hg)) (show ∀ row∈((a1.map ePt):List (List C)),row.length=4 from(ycc fun _=>rfl))) ?_
 refine yib (J:=fun (x:(List Qp))=>[vP 8 40 x]) (K:=fun x=>yvm x=some r) (fun x8 h=>?_) ?_
 ·unfold yvm at h
  refine kG [vP 4 40 x8,pB 5 true] [] trivial ?_
  refine yra ?_
  obtain rfl:=oi h
  exact er [(.ov false (oP 40 x8),4),(.p (.bool true),5)]
 refine kG [dP 0 a0,dP 1 a1,vP 8 40 a1,pI 9 (w64 ((a1.length:Int)-2))] [hN 1 a1] (A1 (lnP a1)) ?_
 refine yfa ?_
 obtain⟨y10,hl_x9,hk_x9⟩:=bs h
 clear h
 refine yfc (J:=fun (x:((List Qp)×Int))=>[dP 0 a0,dP 1 a1,vP 8 40 x.1,pI 9 x.2]) hl_x9 wkk (fun x9 o_x9 h hy_x9=>?_)
 unfold yac at h
 refine yab (kG [dP 0 a0,dP 1 a1,vP 8 40 x9.1,pI 9 x9.2,pB 45 (decide (x9.2>=0))] [] trivial ?_)
 refine kI h (fun hc5_10 h=>?_) (fun hc5_10 h=>?_)
 ·refine yga (q_n (yab (yfa ?_)))
  obtain⟨v12,hv12,h⟩:=bs h
  obtain⟨v13,hv13,h⟩:=bs h
  obtain⟨v14,hv14,h⟩:=bs h
  refine yza (r_dq yda 16 [(15,10)] [dP 0 a0,dP 1 a1,vP 8 40 x9.1,pI 9 x9.2,bP 10 v14.1,pB 11 v14.2] [hR 3 (ePt v12),hR 8 (ePt v13),hR 9 (ePt v13),hC 10 [.p (vPt v14.1),.p (.bool v14.2)]] (A6 (yba hv12).1 (yca ePt (yba hv12).2) (yba hv13).1 (yca ePt (yba hv13).2) (gW 40 ePt hv13) (yhz hv14))) ?_
  refine yab (kG [dP 0 a0,dP 1 a1,vP 8 40 x9.1,pI 9 x9.2,bP 10 v14.1,pB 63 (!v14.2)] [] trivial ?_)
  refine kI h (fun hc7_14 h=>?_) (fun hc7_14 h=>?_)
  ·refine kG [vN 4 40,pB 5 false] [] trivial ?_
   refine yra (q_r (b_r (q_r (lq_r ?_))))
   refine b_r (q_r ?_)
   have hyy:=hy_x9 _ (oi h).symm
   subst hyy
   have h:=hk_x9
   dsimp only[Sum.elim] at h
   obtain rfl:=oi h
   exact er [(.ov false (oN 40),4),(.p (.bool false),5)]
  refine yga (q_n ?_)
  obtain⟨v16,hv16,h⟩:=bs h
  refine yub (r_gq [dP 0 a0,dP 1 a1,vP 8 40 (x9.1.set (Int.toNat x9.2) v14.1),pI 9 x9.2] [hR 3 (ePt v16),(4,{row:=some (ePt v16),fix:=some (vP 8 40 (x9.1.set (Int.toNat x9.2) v14.1))})] (A4 (yba hv16).1 (yca ePt (yba hv16).2) (gW 40 ePt hv16) (show(SV.ov false [.sl (some 40) (setL (x9.1.map ePt) [((Int.toNat x9.2),0)] (ePt v14.1))]:SV)=.ov false (oP 40 (x9.1.set (Int.toNat x9.2) v14.1)) from(congrArg (fun z=>SV.ov false [.sl (some 40) z]) (set1 (f:=ePt) (y:=v14.1) (yba hv16).2 rfl))))) ?_
  refine b_n (q_n (yub (r_gq [dP 0 a0,dP 1 a1,vP 8 40 (x9.1.set (Int.toNat x9.2) v14.1),pI 9 (w64 (x9.2-1))] [] trivial) ?_))
  exact lqn ((x9.1.set (Int.toNat x9.2) v14.1),(w64 (x9.2-1))) h
 refine ywb (q_x (lq_x (b_x ?_)))
 have hyy:=hy_x9 _ (oi h).symm
 subst hyy
 have h:=hk_x9
 dsimp only[Sum.elim] at h
 refine q_n ?_
 exact jx x9.1 h
theorem yha1 {a0:(List Qp)} {a1:(List Qp)}  {r:(Bool×Bool)} (h:yfj a0 a1=some r):Meets Tryz.prog 10 [.d false (sP a0),.d false (sP a1)] { vals:=[.p (.bool r.1),.p (.bool r.2)] }:=by
 refine mo Tryz.func10 [dP 0 a0,dP 1 a1] ?_
 unfold yfj at h
 refine kG [dP 0 a0,dP 1 a1] [] trivial ?_
 refine yab ?_
 obtain⟨v1,hv1,h⟩:=bs h
 refine kG [dP 0 a0,dP 1 a1,pB 11 (!v1)] [hC 2 [.p (.bool v1)]] (A1 (yyd hv1)) ?_
 refine kI h (fun hc2_1 h=>?_) (fun hc2_1 h=>?_)
 ·refine kG [pB 4 false,pB 5 false] [] trivial ?_
  refine yra (q_r ?_)
  obtain rfl:=oi h
  exact er [(.p (.bool false),4),(.p (.bool false),5)]
 refine yga (q_n ?_)
 obtain⟨v3,hv3,h⟩:=bs h
 refine kG [dP 1 a1,vL 6 3 eI v3.1,pB 7 v3.2] [hC 2 [rO 3 eI v3.1,.p (.bool v3.2)]] (A2 (yol hv3) (show List.all [rO 3 eI v3.1,.p (.bool v3.2)] simpleR=true from(sa_o (wnR1 (yge wn_I) rfl) (sa_p rfl)))) ?_
 refine yab (kG [dP 1 a1,vL 6 3 eI v3.1,pB 19 (!v3.2)] [] trivial ?_)
 refine kI h (fun hc2_3 h=>?_) (fun hc2_3 h=>?_)
 ·refine kG [pB 4 false,pB 5 false] [] trivial ?_
  refine yra (q_r ?_)
  obtain rfl:=oi h
  exact er [(.p (.bool false),4),(.p (.bool false),5)]
 refine yga (q_n ?_)
 obtain⟨w6,hw6,h⟩:=bs h
 refine yza (l1:=[pB 4 w6,pB 5 true]) ?_ ?_
 ·clear h
  rcases ft ((v3.1.length:Int)==0) with ha2 | ha2
  ·replace hw6:=yrh ha2 hw6
   have hw6:=oi hw6
   subst hw6
   exact(r_gq [pB 4 true,pB 5 true] [hN 1 v3.1,(4,gT),(5,gT),(6,gT),(7,gT),(8,gT),(9,gT),(10,gT),(11,bT)] (B6 (lF eI v3.1) ha2 ha2 ha2 ha2 ha2 (A3 ha2 ha2 ha2)))
  obtain⟨v5,hv5,hw6⟩:=bs (ysh ha2 hw6)
  have hw6:=oi hw6
  subst hw6
  exact(r_gq [pB 4 (v5==(w64 ((a1.length:Int)-1))),pB 5 true] [hN 1 v3.1,(4,gF),(5,{g:=some false,row:=some (eI v5)}),(6,{g:=some false,row:=some (eI v5)}),(7,gF),(8,{g:=some false,n:=some a1.length}),(9,gF),(10,gF),(11,bF)] (B6 (lF eI v3.1) ha2 ha2 (yba hv5).1 (yca eI (yba hv5).2) ha2 (B6 (gW 3 eI hv5) ha2 ha2 (lnP a1) ha2 ha2 (A1 ha2))))
 refine yra ?_
 obtain rfl:=oi h
 exact er [(.p (.bool w6),4),(.p (.bool true),5)]
theorem yiz {a0:(List Qp)} {a1:(List Qp)}  {r:(Bool×Bool)} (h:yeh a0 a1=some r):Meets Tryz.prog 11 [.d false (sP a0),.d false (sP a1)] { vals:=[.p (.bool r.1),.p (.bool r.2)] }:=by
 refine mo Tryz.func11 [dP 0 a0,dP 1 a1] ?_
 unfold yeh at h
 refine kG [dP 0 a0,dP 1 a1] [] trivial ?_
 obtain⟨v1,hv1,h⟩:=bs h
 refine kG [vL 6 3 eI v1.1,pB 7 v1.2] [hC 2 [rO 3 eI v1.1,.p (.bool v1.2)]] (A2 (ynl hv1) (show List.all [rO 3 eI v1.1,.p (.bool v1.2)] simpleR=true from(sa_o (wnR1 (yge wn_I) rfl) (sa_p rfl)))) ?_
 refine yza (l1:=[pB 4 (v1.2&&((v1.1.length:Int)==0)),pB 5 v1.2]) ?_ ?_
 ·rcases ft v1.2 with ha0 | ha0
  ·exact RegOk.of_eq (r_gq [pB 4 ((v1.1.length:Int)==0),pB 5 v1.2] [(2,gT),(3,{g:=some true,n:=some v1.1.length}),(4,gT),(5,bT)] (A5 ha0 ha0 (lF eI v1.1) ha0 ha0)) (by simp[ha0])
  exact RegOk.of_eq (r_gq [pB 4 false,pB 5 v1.2] [(2,gF),(3,gF),(4,gF),(5,bF)] (A4 ha0 ha0 ha0 ha0)) (by simp[ha0])
 refine yra ?_
 obtain rfl:=oi h
 exact er [(.p (.bool (v1.2&&((v1.1.length:Int)==0))),4),(.p (.bool v1.2),5)]
theorem yuc1 {a0:(List Qp)} {a1:(List Qp)}  {r:(Bool×Bool)} (h:ytr a0 a1=some r):Meets Tryz.prog 55 [.d false (sP a0),.d false (sP a1)] { vals:=[.p (.bool r.1),.p (.bool r.2)] }:=by
 refine mo Tryz.func55 [dP 0 a0,dP 1 a1] ?_
 unfold ytr at h
 refine kG [dP 0 a0,dP 1 a1] [] trivial ?_
 obtain⟨v1,hv1,h⟩:=bs h
 refine kG [vL 6 3 eI v1.1,pB 7 v1.2] [hC 2 [rO 3 eI v1.1,.p (.bool v1.2)]] (A2 (yol hv1) (show List.all [rO 3 eI v1.1,.p (.bool v1.2)] simpleR=true from(sa_o (wnR1 (yge wn_I) rfl) (sa_p rfl)))) ?_
 refine yza (l1:=[pB 4 (v1.2&&((v1.1.length:Int)==0)),pB 5 v1.2]) ?_ ?_
 ·rcases ft v1.2 with ha0 | ha0
  ·exact RegOk.of_eq (r_gq [pB 4 ((v1.1.length:Int)==0),pB 5 v1.2] [(2,gT),(3,{g:=some true,n:=some v1.1.length}),(4,gT),(5,bT)] (A5 ha0 ha0 (lF eI v1.1) ha0 ha0)) (by simp[ha0])
  exact RegOk.of_eq (r_gq [pB 4 false,pB 5 v1.2] [(2,gF),(3,gF),(4,gF),(5,bF)] (A4 ha0 ha0 ha0 ha0)) (by simp[ha0])
 refine yra ?_
 obtain rfl:=oi h
 exact er [(.p (.bool (v1.2&&((v1.1.length:Int)==0))),4),(.p (.bool v1.2),5)]
theorem yjz {a0:(List Qp)} {a1:(List Qp)}  {r:(Bool×Bool)} (h:yfh a0 a1=some r):Meets Tryz.prog 12 [.d false (sP a0),.d false (sP a1)] { vals:=[.p (.bool r.1),.p (.bool r.2)] }:=by
 refine mo Tryz.func12 [dP 0 a0,dP 1 a1] ?_
 unfold yfh at h
 refine kG [dP 0 a0,dP 1 a1] [] trivial ?_
 refine yab ?_
 obtain⟨v1,hv1,h⟩:=bs h
 refine kG [dP 0 a0,dP 1 a1,pB 9 (!v1)] [hC 2 [.p (.bool v1)]] (A1 (yyd hv1)) ?_
 refine kI h (fun hc2_1 h=>?_) (fun hc2_1 h=>?_)
 ·refine kG [pB 4 false,pB 5 false] [] trivial ?_
  refine yra (q_r ?_)
  obtain rfl:=oi h
  exact er [(.p (.bool false),4),(.p (.bool false),5)]
 refine yga (q_n ?_)
 obtain⟨v3,hv3,h⟩:=bs h
 refine kG [pB 4 v3.1,pB 5 v3.2] [hC 2 [.p (.bool v3.1),.p (.bool v3.2)]] (A1 (yuc1 hv3)) ?_
 refine yra ?_
 obtain rfl:=oi h
 exact er [(.p (.bool v3.1),4),(.p (.bool v3.2),5)]
theorem yyv {a0:(List Qp)} {a1:(List Qp)}  {r:((List Int)×Bool)} (h:ymd a0 a1=some r):Meets Tryz.prog 13 [.d false (sP a0),.d false (sP a1)] { vals:=[rO 3 eI r.1,.p (.bool r.2)] }:=by
 refine mo Tryz.func13 [dP 0 a0,dP 1 a1] ?_
 unfold ymd at h
 refine kG [dP 0 a0,dP 1 a1] [] trivial ?_
 obtain⟨v1,hv1,h⟩:=bs h
 refine kG [vL 4 3 eI v1.1,pB 5 v1.2] [hC 2 [rO 3 eI v1.1,.p (.bool v1.2)]] (A2 (ynl hv1) (show List.all [rO 3 eI v1.1,.p (.bool v1.2)] simpleR=true from(sa_o (wnR1 (yge wn_I) rfl) (sa_p rfl)))) ?_
 refine yra ?_
 obtain rfl:=oi h
 exact er [(.ov false [.sl (some 3) (v1.1.map eI)],4),(.p (.bool v1.2),5)]
theorem yzv {a0:(List Qp)} {a1:(List Qp)}  {r:((List Int)×Bool)} (h:ynd a0 a1=some r):Meets Tryz.prog 14 [.d false (sP a0),.d false (sP a1)] { vals:=[rO 3 eI r.1,.p (.bool r.2)] }:=by
 refine mo Tryz.func14 [dP 0 a0,dP 1 a1] ?_
 unfold ynd at h
 refine kG [dP 0 a0,dP 1 a1] [] trivial ?_
 refine yab ?_
 obtain⟨v1,hv1,h⟩:=bs h
 refine kG [dP 0 a0,dP 1 a1,pB 9 (!v1)] [hC 2 [.p (.bool v1)]] (A1 (yyd hv1)) ?_
 refine kI h (fun hc2_1 h=>?_) (fun hc2_1 h=>?_)
 ·refine kG [vN 4 3,pB 5 false] [] trivial ?_
  refine yra (q_r ?_)
  obtain rfl:=oi h
  exact er [(.ov false (oN 3),4),(.p (.bool false),5)]
 refine yga (q_n ?_)
 obtain⟨v3,hv3,h⟩:=bs h
 refine kG [vL 4 3 eI v3.1,pB 5 v3.2] [hC 2 [rO 3 eI v3.1,.p (.bool v3.2)]] (A2 (yol hv3) (show List.all [rO 3 eI v3.1,.p (.bool v3.2)] simpleR=true from(sa_o (wnR1 (yge wn_I) rfl) (sa_p rfl)))) ?_
 refine yra ?_
 obtain rfl:=oi h
 exact er [(.ov false [.sl (some 3) (v3.1.map eI)],4),(.p (.bool v3.2),5)]
theorem yjb {a0:(List Qp)} {a1:(List Qp)}  {r:Bool} (h:ylk a0 a1=some r):Meets Tryz.prog 15 [.d false (sP a0),.d false (sP a1)] { vals:=[.p (.bool r)] }:=by
 refine mo Tryz.func15 [dP 0 a0,dP 1 a1] ?_
 unfold ylk at h
 refine kG [dP 0 a0,dP 1 a1] [] trivial ?_
 refine yab (kG [dP 0 a0,dP 1 a1,pB 10 ((a0.length:Int) != (a1.length:Int))] [hN 1 a0,hN 3 a1] (A2 (lnP a0) (lnP a1)) ?_)
 refine kI h (fun hc2_0 h=>?_) (fun hc2_0 h=>?_)
 ·refine kG [pB 4 false] [] trivial ?_
  refine yra (q_r ?_)
  obtain rfl:=oi h
  exact er [(.p (.bool false),4)]
 refine yga (q_n (yib (J:=fun (x:Unit)=>[]) (K:=fun x=>ysj x=some r) (fun x2 h=>?_) ?_))
 ·unfold ysj at h
  refine kG [pB 4 true] [] trivial ?_
  refine yra ?_
  obtain rfl:=oi h
  exact er [(.p (.bool true),4)]
 refine kG [dP 0 a0,dP 1 a1,pL 12 a0,pI 13 0] [hN 1 a0] (A1 (lnP a0)) ?_
 refine yfa ?_
 obtain⟨y4,hl_x3,hk_x3⟩:=bs h
 clear h
 refine yfc (J:=fun (x:Int)=>[dP 0 a0,dP 1 a1,pL 12 a0,pI 13 x]) hl_x3 wkk (fun x3 o_x3 h hy_x3=>?_)
 unfold yfe at h
 refine kG [dP 0 a0,dP 1 a1,pL 12 a0,pI 13 x3,pB 14 (decide (x3<(a0.length:Int)))] [] trivial ?_
 refine yab (kI h (fun hc5_4 h=>?_) (fun hc5_4 h=>?_))
 ·refine yga (q_n (yab (yfa (kG [dP 0 a0,dP 1 a1,pI 5 x3,pL 12 a0,pI 13 x3] [] trivial ?_))))
  obtain⟨v6,hv6,h⟩:=bs h
  obtain⟨v7,hv7,h⟩:=bs h
  refine yza (r_dq yda 8 [] [dP 0 a0,dP 1 a1,pL 12 a0,pI 13 x3,pB 24 (!(((v6.1.1==v7.1.1)&&(v6.1.2==v7.1.2))&&((v6.2.1==v7.2.1)&&(v6.2.2==v7.2.2))))] [hR 2 (ePt v6),hR 6 (ePt v7),(8,{pv:=some (.bool (!(((v6.1.1==v7.1.1)&&(v6.1.2==v7.1.2))&&((v6.2.1==v7.2.1)&&(v6.2.2==v7.2.2)))))})] (A5 (yba hv6).1 (yca ePt (yba hv6).2) (yba hv7).1 (yca ePt (yba hv7).2) (show PureAt Tryz.prog (.binOp .neq 40 (.tmp 19) (.tmp 23) 40) [vPt v6,vPt v7] (.bool (!(((v6.1.1==v7.1.1)&&(v6.1.2==v7.1.2))&&((v6.2.1==v7.2.1)&&(v6.2.2==v7.2.2))))) from(yth1 (by kernel_rfl))))) ?_
  refine kI h (fun hc6_7 h=>?_) (fun hc6_7 h=>?_)
  ·refine kG [pB 4 false] [] trivial ?_
   refine yra (b_r (q_r (lq_r ?_)))
   refine b_r (q_r ?_)
   have hyy:=hy_x3 _ (oi h).symm
   subst hyy
   have h:=hk_x3
   dsimp only[Sum.elim] at h
   obtain rfl:=oi h
   exact er [(.p (.bool false),4)]
  refine yga (b_n (q_n (yub (r_gq [dP 0 a0,dP 1 a1,pL 12 a0,pI 13 (w64 (x3+1))] [] trivial) ?_)))
  exact lqn (w64 (x3+1)) h
 refine ywb (q_x (lq_x (b_x ?_)))
 have hyy:=hy_x3 _ (oi h).symm
 subst hyy
 have h:=hk_x3
 dsimp only[Sum.elim] at h
 refine q_n ?_
 exact jx () h
theorem ykg {a0:(List Int)} {a1:(List Int)}  {r:Bool} (h:yco a0 a1=some r):Meets Tryz.prog 16 [.d false [.sl none (a0.map eI)],.d false [.sl none (a1.map eI)]] { vals:=[.p (.bool r)] }:=by
 refine mo Tryz.func16 [dL 0 eI a0,dL 1 eI a1] ?_
 unfold yco at h
 refine kG [dL 0 eI a0,dL 1 eI a1] [] trivial ?_
 refine yab (kG [dL 0 eI a0,dL 1 eI a1,pB 10 ((a0.length:Int) != (a1.length:Int))] [hN 1 a0,hN 3 a1] (A2 (lF eI a0) (lF eI a1)) ?_)
 refine kI h (fun hc2_0 h=>?_) (fun hc2_0 h=>?_)
 ·refine kG [pB 4 false] [] trivial ?_
  refine yra (q_r ?_)
  obtain rfl:=oi h
  exact er [(.p (.bool false),4)]
 refine yga (q_n (yib (J:=fun (x:Unit)=>[]) (K:=fun x=>ydm x=some r) (fun x2 h=>?_) ?_))
 ·unfold ydm at h
  refine kG [pB 4 true] [] trivial ?_
  refine yra ?_
  obtain rfl:=oi h
  exact er [(.p (.bool true),4)]
 refine kG [dL 0 eI a0,dL 1 eI a1,pL 12 a0,pI 13 0] [hN 1 a0] (A1 (lF eI a0)) ?_
 refine yfa ?_
 obtain⟨y4,hl_x3,hk_x3⟩:=bs h
 clear h
 refine yfc (J:=fun (x:Int)=>[dL 0 eI a0,dL 1 eI a1,pL 12 a0,pI 13 x]) hl_x3 wkk (fun x3 o_x3 h hy_x3=>?_)
 unfold yng at h
 refine kG [dL 0 eI a0,dL 1 eI a1,pL 12 a0,pI 13 x3,pB 14 (decide (x3<(a0.length:Int)))] [] trivial ?_
 refine yab (kI h (fun hc5_4 h=>?_) (fun hc5_4 h=>?_))
 ·refine yga (q_n (yab (yfa (kG [dL 0 eI a0,dL 1 eI a1,pI 5 x3,pL 12 a0,pI 13 x3] [] trivial ?_))))
  obtain⟨v6,hv6,h⟩:=bs h
  obtain⟨v7,hv7,h⟩:=bs h
  refine yza (r_dq yda 8 [] [dL 0 eI a0,dL 1 eI a1,pL 12 a0,pI 13 x3,pB 24 (v6 != v7)] [hR 2 (eI v6),hR 6 (eI v7)] (A4 (yba hv6).1 (yca eI (yba hv6).2) (yba hv7).1 (yca eI (yba hv7).2))) ?_
  refine kI h (fun hc6_7 h=>?_) (fun hc6_7 h=>?_)
  ·refine kG [pB 4 false] [] trivial ?_
   refine yra (b_r (q_r (lq_r ?_)))
   refine b_r (q_r ?_)
   have hyy:=hy_x3 _ (oi h).symm
   subst hyy
   have h:=hk_x3
   dsimp only[Sum.elim] at h
   obtain rfl:=oi h
   exact er [(.p (.bool false),4)]
  refine yga (b_n (q_n (yub (r_gq [dL 0 eI a0,dL 1 eI a1,pL 12 a0,pI 13 (w64 (x3+1))] [] trivial) ?_)))
  exact lqn (w64 (x3+1)) h
 refine ywb (q_x (lq_x (b_x ?_)))
 have hyy:=hy_x3 _ (oi h).symm
 subst hyy
 have h:=hk_x3
 dsimp only[Sum.elim] at h
 refine q_n ?_
 exact jx () h
theorem yit {a0:(List Qp)} {a1:Qp} {a2:Qp}  {r:(Bool×Bool)} (h:yvf a0 a1 a2=some r):Meets Tryz.prog 17 [.d false (sP a0),.v (vPt a1),.v (vPt a2)] { vals:=[.p (.bool r.1),.p (.bool r.2)] }:=by
 refine mo Tryz.func17 [dP 0 a0,(1,.p (vPt a1)),(2,.p (vPt a2))] ?_
 unfold yvf at h
 refine kG [dP 0 a0,bP 4 a1,bP 5 a2] [] trivial ?_
 refine yab ?_
 obtain⟨v1,hv1,h⟩:=bs h
 obtain⟨w4,hw4,h⟩:=bs h
 refine yza (l1:=[dP 0 a0,bP 4 a1,bP 5 a2,pB 22 w4]) ?_ ?_
 ·clear h
  rcases ft (!v1) with ha0 | ha0
  ·replace hw4:=yrh ha0 hw4
   have hw4:=oi hw4
   subst hw4
   exact(r_gq [dP 0 a0,bP 4 a1,bP 5 a2,pB 22 true] [hC 1 [.p (.bool v1)],(4,gT),(5,gT),(6,gT),(7,bT),(9,gT),(10,gT),(11,gT),(12,bT)] (B6 (yti hv1) ha0 ha0 ha0 ha0 tT (A3 tT tT tT)))
  obtain⟨v2,hv2,hw4⟩:=bs (ysh ha0 hw4)
  rcases ft (!v2) with ha1 | ha1
  ·replace hw4:=yrh ha1 hw4
   have hw4:=oi hw4
   subst hw4
   exact(r_gq [dP 0 a0,bP 4 a1,bP 5 a2,pB 22 true] [hC 1 [.p (.bool v1)],(4,gF),(5,(gN [.p (.bool v2)])),(6,gF),(7,bF),(9,gT),(10,gT),(11,gT),(12,bT)] (B6 (yti hv1) ha0 ha0 (ygj hv2) ha0 ha0 (A4 ha1 ha1 ha1 ha1)))
  obtain⟨v3,hv3,hw4⟩:=bs (ysh ha1 hw4)
  have hw4:=oi hw4
  subst hw4
  exact(r_gq [dP 0 a0,bP 4 a1,bP 5 a2,pB 22 (!v3)] [hC 1 [.p (.bool v1)],(4,gF),(5,(gN [.p (.bool v2)])),(6,gF),(7,bF),(9,gF),(10,(gN [.p (.bool v3)])),(11,gF),(12,bF)] (B6 (yti hv1) ha0 ha0 (ygj hv2) ha0 ha0 (A5 ha1 ha1 (ygj hv3) ha1 ha1)))
 refine kI h (fun hc2_4 h=>?_) (fun hc2_4 h=>?_)
 ·refine kG [pB 6 false,pB 7 false] [] trivial ?_
  refine yra (q_r ?_)
  obtain rfl:=oi h
  exact er [(.p (.bool false),6),(.p (.bool false),7)]
 refine yga (q_n (kG [dP 0 a0,bP 4 a1,bP 5 a2,bX 8 [.raw (.bool false)]] [] trivial ?_))
 obtain⟨v6,hv6,h⟩:=bs h
 refine kG [bX 8 [.raw (.bool v6.2)],pB 9 v6.1] [hT 3 [.p (.bool v6.1)] (.box [.raw (.bool v6.2)])] (A1 (yml hv6)) ?_
 refine yab (kG [pB 9 v6.1,pB 28 v6.2] [] trivial ?_)
 refine kI h (fun hc2_6 h=>?_) (fun hc2_6 h=>?_)
 ·refine kG [pB 6 false,pB 7 false] [] trivial ?_
  refine yra (q_r ?_)
  obtain rfl:=oi h
  exact er [(.p (.bool false),6),(.p (.bool false),7)]
 refine yga (q_n (kG [pB 6 v6.1,pB 7 true] [] trivial ?_))
 refine yra ?_
 obtain rfl:=oi h
 exact er [(.p (.bool v6.1),6),(.p (.bool true),7)]
theorem yjt {a0:Qr} {a1:Qr}  {r:Bool} (h:yqr a0 a1=some r):Meets Tryz.prog 18 [.v (vRt a0),.v (vRt a1)] { vals:=[.p (.bool r)] }:=by
 refine mo Tryz.func18 [(0,.p (vRt a0)),(1,.p (vRt a1))] ?_
 unfold yqr at h
 refine kG [bR 2 a0,bR 3 a1] [] trivial ?_
 refine kG [pB 4 (decide ((w64 (a0.1*a1.2))<(w64 (a1.1*a0.2))))] [] trivial ?_
 refine yra ?_
 obtain rfl:=oi h
 exact er [(.p (.bool (decide ((w64 (a0.1*a1.2))<(w64 (a1.1*a0.2))))),4)]
theorem yds {a0:Cu}  {r:(Int×Cu)} (h:yig a0=some r):MeetsB Tryz.prog 60 (.box (eCu a0)) [] [.p (iV r.1)] (.box (eCu r.2)):=by
 refine mob Tryz.func60 [bC 0 a0] ?_
 unfold yig at h
 refine kG [bC 0 a0] [] trivial ?_
 obtain⟨v1,hv1,h⟩:=bs h
 obtain⟨v2,hv2,h⟩:=bs h
 refine kG [bC 0 v2.2,pI 2 v2.1] [(3,{lend:=some (some [.d false [.sl none (([0,13]).map eI)]],[.p (iV v1.1)],.box (eCu v1.2),false),fix:=some (dL 5 eI ([0,13]))}),(5,{lend:=some (some [.d false [.sl none (([1,2,3,4,5,6,8,12,v1.1]).map eI)]],[.p (iV v2.1)],.box (eCu v2.2),false),fix:=some (dL 7 eI ([1,2,3,4,5,6,8,12,v1.1]))})] (A6 (show([.d false [.sl none (eraL (([0,13]).map eI))]]:List Arg)=[.d false [.sl none (([0,13]).map eI)]] from(by simp only[yua (h:=eI) er_I])) (ypa hv1) (show(SV.d false (eraR [.sl (some 3) (([0,13]).map eI)]):SV)=.d false [.sl none (([0,13]).map eI)] from(congrArg (fun z=>SV.d false z) (ycp (yua er_I) rfl))) (show([.d false [.sl none (eraL (([1,2,3,4,5,6,8,12,v1.1]).map eI))]]:List Arg)=[.d false [.sl none (([1,2,3,4,5,6,8,12,v1.1]).map eI)]] from(by simp only[yua (h:=eI) er_I])) (ypa hv2) (show(SV.d false (eraR [.sl (some 3) (([1,2,3,4,5,6,8,12,v1.1]).map eI)]):SV)=.d false [.sl none (([1,2,3,4,5,6,8,12,v1.1]).map eI)] from(congrArg (fun z=>SV.d false z) (ycp (yua er_I) rfl)))) ?_
 refine yra ?_
 obtain rfl:=oi h
 exact ebr [(.p (iV v2.1),2)]
theorem ykt {a0:(List Int)}  {r:((List Qp)×(List Qp)×Int)} (h:ywf a0=some r):Meets Tryz.prog 19 [.d false [.sl none (a0.map (eU .u8))]] { vals:=[.d false (sP r.1),.ov false (oP 40 r.2.1),.p (iV r.2.2)] }:=by
 refine mo Tryz.func19 [dL 0 (eU .u8) a0] ?_
 unfold ywf at h
 refine kG [dL 0 (eU .u8) a0] [] trivial ?_
 refine kG [(5,.addr 10 [(0,0)]),bC 10 (a0,0,0)] [] trivial ?_
 obtain⟨v1,hv1,h⟩:=bs h
 refine kG [(5,.addr 10 [(0,0)]),dP 6 v1.1,vP 7 40 v1.2.1,bC 10 v1.2.2] [hF 1 [.d false (sP v1.1),.ov false (oP 40 v1.2.1)] (.box (eCu v1.2.2))] (A1 (ylo hv1)) ?_
 obtain⟨v2,hv2,h⟩:=bs h
 refine kG [dP 2 v1.1,vP 3 40 v1.2.1,pI 4 v2.1] [hF 3 [.p (iV v2.1)] (.box (eCu v2.2))] (A1 (yds hv2)) ?_
 refine yra ?_
 obtain rfl:=oi h
 exact er [(.d false (sP v1.1),2),(.ov false (oP 40 v1.2.1),3),(.p (iV v2.1),4)]
theorem ycn {a0:Int}  {r:(List (List Int))} (h:ydg a0=some r):Meets Tryz.prog 132 [wI a0] { vals:=[rO 32 (eO 3 eI) r] }:=by
 refine mo Tryz.func132 [pI 0 a0] ?_
 unfold ydg at h
 refine kG [pI 0 a0] [] trivial ?_
 obtain⟨u1,hu1,h⟩:=bs h
 refine kG [pI 0 a0,vL 3 32 (eO 3 eI) (List.replicate (Int.toNat a0) ([]:(List Int)))] [(1,{fix:=some (vL 6 32 (eO 3 eI) (List.replicate (Int.toNat a0) ([]:(List Int))))})] (A4 (show a0=a0 from rfl) (yla hu1).1 (yla hu1).2 (show(SV.ov false [.sl (some 32) (List.replicate (Int.toNat a0) (oN 3))]:SV)=.ov false [.sl (some 32) ((List.replicate (Int.toNat a0) ([]:(List Int))).map (eO 3 eI))] from(congrArg (fun z=>SV.ov false [.sl (some 32) z]) (yqh1 (eO 3 eI) ([]:(List Int)))))) ?_
 refine yib (J:=fun (x:(List (List Int)))=>[vL 3 32 (eO 3 eI) x]) (K:=fun x=>ygn x=some r) (fun x2 h=>?_) ?_
 ·unfold ygn at h
  refine kG [vL 2 32 (eO 3 eI) x2] [] trivial ?_
  refine yra ?_
  obtain rfl:=oi h
  exact er [(.ov false [.sl (some 32) (x2.map (eO 3 eI))],2)]
 refine kG [pI 0 a0,vL 3 32 (eO 3 eI) (List.replicate (Int.toNat a0) ([]:(List Int))),pL 8 (List.replicate (Int.toNat a0) ([]:(List Int))),pI 9 0] [hN 1 (List.replicate (Int.toNat a0) ([]:(List Int)))] (A1 (lF (eO 3 eI) (List.replicate (Int.toNat a0) ([]:(List Int))))) ?_
 refine yfa ?_
 obtain⟨y4,hl_x3,hk_x3⟩:=bs h
 clear h
 refine yfc (J:=fun (x:((List (List Int))×Int))=>[pI 0 a0,vL 3 32 (eO 3 eI) x.1,pL 8 (List.replicate (Int.toNat a0) ([]:(List Int))),pI 9 x.2]) hl_x3 wkk (fun x3 o_x3 h hy_x3=>?_)
 unfold ylg at h
 refine kG [pI 0 a0,vL 3 32 (eO 3 eI) x3.1,pL 8 (List.replicate (Int.toNat a0) ([]:(List Int))),pI 9 x3.2,pB 10 (decide (x3.2<((List.replicate (Int.toNat a0) ([]:(List Int))).length:Int)))] [] trivial ?_
 refine yab (kI h (fun hc5_4 h=>?_) (fun hc5_4 h=>?_))
 ·refine yga (q_n (yab (yfa (kG [pI 0 a0,vL 3 32 (eO 3 eI) x3.1,pI 4 x3.2,pL 8 (List.replicate (Int.toNat a0) ([]:(List Int))),pI 9 x3.2] [] trivial ?_))))
  obtain⟨v6,hv6,h⟩:=bs h
  refine yub (r_gq [pI 0 a0,vL 3 32 (eO 3 eI) (x3.1.set (Int.toNat x3.2) (List.replicate (Int.toNat a0) (0:Int))),pL 8 (List.replicate (Int.toNat a0) ([]:(List Int))),pI 9 x3.2] [(3,{fix:=some (vL 15 3 eI (List.replicate (Int.toNat a0) (0:Int)))}),hR 4 [.sl (some 3) (v6.map eI)],(5,{row:=some [.sl (some 3) (v6.map eI)],fix:=some (vL 3 32 (eO 3 eI) (x3.1.set (Int.toNat x3.2) (List.replicate (Int.toNat a0) (0:Int))))})] (B6 (show a0=a0 from rfl) (yla hu1).1 (yla hu1).2 (show(SV.ov false [.sl (some 3) (List.replicate (Int.toNat a0) [rI 0])]:SV)=.ov false [.sl (some 3) ((List.replicate (Int.toNat a0) (0:Int)).map eI)] from(congrArg (fun z=>SV.ov false [.sl (some 3) z]) (yqh1 eI (0:Int)))) (yba hv6).1 (yca (eO 3 eI) (yba hv6).2) (A2 (gW 32 (eO 3 eI) hv6) (show(SV.ov false [.sl (some 32) (setL (x3.1.map (eO 3 eI)) [((Int.toNat x3.2),0)] [.sl (some 3) ((List.replicate (Int.toNat a0) (0:Int)).map eI)])]:SV)=.ov false [.sl (some 32) ((x3.1.set (Int.toNat x3.2) (List.replicate (Int.toNat a0) (0:Int))).map (eO 3 eI))] from(congrArg (fun z=>SV.ov false [.sl (some 32) z]) (set1 (f:=(eO 3 eI)) (y:=(List.replicate (Int.toNat a0) (0:Int))) (yba hv6).2 rfl)))))) ?_
  refine b_n (q_n (yub (r_gq [pI 0 a0,vL 3 32 (eO 3 eI) (x3.1.set (Int.toNat x3.2) (List.replicate (Int.toNat a0) (0:Int))),pL 8 (List.replicate (Int.toNat a0) ([]:(List Int))),pI 9 (w64 (x3.2+1))] [] trivial) ?_))
  exact lqn ((x3.1.set (Int.toNat x3.2) (List.replicate (Int.toNat a0) (0:Int))),(w64 (x3.2+1))) h
 refine ywb (q_x (lq_x (b_x ?_)))
 have hyy:=hy_x3 _ (oi h).symm
 subst hyy
 have h:=hk_x3
 refine q_n ?_
 exact jx x3.1 h
theorem yhr {a0:(List Qp)} {a1:(List Qp)}  {r:((List (List Int))×Bool)} (h:ysc a0 a1=some r):Meets Tryz.prog 61 [.d false (sP a0),.d false (sP a1)] { vals:=[rO 32 (eO 3 eI) r.1,.p (.bool r.2)] }:=by
 refine mo Tryz.func61 [dP 0 a0,dP 1 a1] ?_
 unfold ysc at h
 refine kG [dP 0 a0,dP 1 a1] [] trivial ?_
 refine yab ?_
 obtain⟨v1,hv1,h⟩:=bs h
 obtain⟨w3,hw3,h⟩:=bs h
 refine yza (l1:=[dP 0 a0,dP 1 a1,pB 19 w3]) ?_ ?_
 ·clear h
  rcases ft (!v1) with ha0 | ha0
  ·replace hw3:=yrh ha0 hw3
   have hw3:=oi hw3
   subst hw3
   exact(r_gq [dP 0 a0,dP 1 a1,pB 19 true] [hC 1 [.p (.bool v1)],(4,gT),(5,gT),(6,gT),(7,bT)] (A5 (yti hv1) ha0 ha0 ha0 ha0))
  obtain⟨v2,hv2,hw3⟩:=bs (ysh ha0 hw3)
  have hw3:=oi hw3
  subst hw3
  exact(r_gq [dP 0 a0,dP 1 a1,pB 19 (!v2)] [hC 1 [.p (.bool v1)],(4,gF),(5,(gN [.p (.bool v2)])),(6,gF),(7,bF)] (A6 (yti hv1) ha0 ha0 (ydp hv2) ha0 ha0))
 refine kI h (fun hc2_3 h=>?_) (fun hc2_3 h=>?_)
 ·refine kG [vN 4 32,pB 5 false] [] trivial ?_
  refine yra (q_r ?_)
  obtain rfl:=oi h
  exact er [(.ov false (oN 32),4),(.p (.bool false),5)]
 refine yga (q_n (kG [dP 0 a0,dP 1 a1,bX 6 [.raw (.bool false)]] [] trivial ?_))
 obtain⟨v5,hv5,h⟩:=bs h
 refine kG [dP 0 a0,dP 1 a1,bX 6 [.raw (.bool false)],vL 7 32 (eO 3 eI) v5] [hN 1 a1,hC 2 [rO 32 (eO 3 eI) v5]] (A3 (lnP a1) (ycn hv5) (show List.all [rO 32 (eO 3 eI) v5] simpleR=true from(sa_o (wnR1 (yge (wn_O wn_I)) rfl) rfl))) ?_
 refine yib (J:=fun (x:(Bool×(List (List Int))))=>[bX 6 [.raw (.bool x.1)],vL 7 32 (eO 3 eI) x.2]) (K:=fun x=>yug x=some r) (fun x6 h=>?_) ?_
 ·unfold yug at h
  refine yab (kG [vL 7 32 (eO 3 eI) x6.2,pB 50 x6.1] [] trivial ?_)
  refine kI h (fun hc2_6 h=>?_) (fun hc2_6 h=>?_)
  ·refine kG [vN 4 32,pB 5 false] [] trivial ?_
   refine yra (q_r ?_)
   obtain rfl:=oi h
   exact er [(.ov false (oN 32),4),(.p (.bool false),5)]
  refine yga (q_n (kG [vL 4 32 (eO 3 eI) x6.2,pB 5 true] [] trivial ?_))
  refine yra ?_
  obtain rfl:=oi h
  exact er [(.ov false [.sl (some 32) (x6.2.map (eO 3 eI))],4),(.p (.bool true),5)]
 refine kG [dP 0 a0,dP 1 a1,bX 6 [.raw (.bool false)],vL 7 32 (eO 3 eI) v5,dP 23 a1,pL 24 a1,pI 25 0] [hN 1 a1] (A1 (lnP a1)) ?_
 refine yfa ?_
 obtain⟨y9,hl_x8,hk_x8⟩:=bs h
 clear h
 refine yfc (J:=fun (x:(Bool×(List (List Int))×Int))=>[dP 0 a0,dP 1 a1,bX 6 [.raw (.bool x.1)],vL 7 32 (eO 3 eI) x.2.1,dP 23 a1,pL 24 a1,pI 25 x.2.2]) hl_x8 wkk (fun x8 o_x8 h hy_x8=>?_)
 unfold yde at h
 refine kG [dP 0 a0,dP 1 a1,bX 6 [.raw (.bool x8.1)],vL 7 32 (eO 3 eI) x8.2.1,dP 23 a1,pL 24 a1,pI 25 x8.2.2,pB 26 (decide (x8.2.2<(a1.length:Int)))] [] trivial ?_
 refine yab (kI h (fun hc5_9 h=>?_) (fun hc5_9 h=>?_))
 ·refine yga (q_n (yib (J:=fun (x:(Bool×(List (List Int))))=>[dP 0 a0,dP 1 a1,bX 6 [.raw (.bool x.1)],vL 7 32 (eO 3 eI) x.2,dP 23 a1,pL 24 a1,pI 25 x8.2.2]) (K:=fun x=>ypj x8 x=some o_x8) (fun x11 h=>?_) ?_))
  ·unfold ypj at h
   refine yub (r_gq [dP 0 a0,dP 1 a1,bX 6 [.raw (.bool x11.1)],vL 7 32 (eO 3 eI) x11.2,dP 23 a1,pL 24 a1,pI 25 (w64 (x8.2.2+1))] [] trivial) ?_
   exact lqn (x11.1,x11.2,(w64 (x8.2.2+1))) h
  refine yfa ?_
  obtain⟨v12,hv12,h⟩:=bs h
  refine kG [dP 0 a0,dP 1 a1,bX 6 [.raw (.bool x8.1)],vL 7 32 (eO 3 eI) x8.2.1,pI 8 x8.2.2,bP 9 v12,dP 23 a1,pL 24 a1,pI 25 x8.2.2] [hR 1 (ePt v12)] (A2 (yba hv12).1 (yca ePt (yba hv12).2)) ?_
  refine kG [dP 0 a0,dP 1 a1,bX 6 [.raw (.bool x8.1)],vL 7 32 (eO 3 eI) x8.2.1,pI 8 x8.2.2,bP 9 v12,dP 23 a1,pL 24 a1,pI 25 x8.2.2,dP 30 a1,pL 31 a1,pI 32 0] [hN 1 a1] (A1 (lnP a1)) ?_
  refine yfa ?_
  obtain⟨y14,hl_x13,hk_x13⟩:=bs h
  clear h
  refine yfc (J:=fun (x:(Bool×(List (List Int))×Int))=>[dP 0 a0,dP 1 a1,bX 6 [.raw (.bool x.1)],vL 7 32 (eO 3 eI) x.2.1,pI 8 x8.2.2,bP 9 v12,dP 23 a1,pL 24 a1,pI 25 x8.2.2,dP 30 a1,pL 31 a1,pI 32 x.2.2]) hl_x13 wkk (fun x13 o_x13 h hy_x13=>?_)
  unfold yrb at h
  refine kG [dP 0 a0,dP 1 a1,bX 6 [.raw (.bool x13.1)],vL 7 32 (eO 3 eI) x13.2.1,pI 8 x8.2.2,bP 9 v12,dP 23 a1,pL 24 a1,pI 25 x8.2.2,dP 30 a1,pL 31 a1,pI 32 x13.2.2,pB 33 (decide (x13.2.2<(a1.length:Int)))] [] trivial ?_
  refine yab (kI h (fun hc9_14 h=>?_) (fun hc9_14 h=>?_))
  ·refine yga (q_n (yab (yfa ?_)))
   obtain⟨v16,hv16,h⟩:=bs h
   refine kG [dP 0 a0,dP 1 a1,bX 6 [.raw (.bool x13.1)],vL 7 32 (eO 3 eI) x13.2.1,pI 8 x8.2.2,bP 9 v12,pI 10 x13.2.2,bP 11 v16,dP 23 a1,pL 24 a1,pI 25 x8.2.2,dP 30 a1,pL 31 a1,pI 32 x13.2.2] [hR 1 (ePt v16)] (A2 (yba hv16).1 (yca ePt (yba hv16).2)) ?_
   obtain⟨v17,hv17,h⟩:=bs h
   refine kG [dP 0 a0,dP 1 a1,bX 6 [.raw (.bool v17.2)],vL 7 32 (eO 3 eI) x13.2.1,pI 8 x8.2.2,bP 9 v12,pI 10 x13.2.2,dP 23 a1,pL 24 a1,pI 25 x8.2.2,dP 30 a1,pL 31 a1,pI 32 x13.2.2,pB 40 v17.1] [hT 3 [.p (.bool v17.1)] (.box [.raw (.bool v17.2)])] (A1 (yml hv17)) ?_
   refine kI h (fun hc10_17 h=>?_) (fun hc10_17 h=>?_)
   ·obtain⟨v19,hv19,h⟩:=bs h
    obtain⟨v20,hv20,h⟩:=bs h
    refine yub (r_gq [dP 0 a0,dP 1 a1,bX 6 [.raw (.bool v17.2)],vL 7 32 (eO 3 eI) (x13.2.1.set (Int.toNat x8.2.2) (v19.set (Int.toNat x13.2.2) 1)),pI 8 x8.2.2,bP 9 v12,dP 23 a1,pL 24 a1,pI 25 x8.2.2,dP 30 a1,pL 31 a1,pI 32 x13.2.2] [hR 2 [.sl (some 3) (v19.map eI)],hR 3 [.sl (some 3) (v19.map eI)],(5,{deep:=some [.sl (some 3) (v19.map eI)],row:=some (eI v20)}),(6,{row:=some (eI v20),fix:=some (vL 7 32 (eO 3 eI) (x13.2.1.set (Int.toNat x8.2.2) (v19.set (Int.toNat x13.2.2) 1)))})] (B6 (yba hv19).1 (yca (eO 3 eI) (yba hv19).2) (show frR [.sl (some 3) (v19.map eI)]=false from rfl) (gW 32 (eO 3 eI) hv19) (yba hv20).1 (yca eI (yba hv20).2) (A3 (gW 32 (eO 3 eI) hv19) (show getRow [[.sl (some 32) (x13.2.1.map (eO 3 eI))]] [(0,0),((Int.toNat x8.2.2),0),((Int.toNat x13.2.2),0)]=some (eI v20) from((gr0 rfl).trans ((grs (yca (eO 3 eI) (yba hv19).2) rfl).trans (gre (yca eI (yba hv20).2))))) (show(SV.ov false [.sl (some 32) (setL (x13.2.1.map (eO 3 eI)) [((Int.toNat x8.2.2),0),((Int.toNat x13.2.2),0)] [rI 1])]:SV)=.ov false [.sl (some 32) ((x13.2.1.set (Int.toNat x8.2.2) (v19.set (Int.toNat x13.2.2) 1)).map (eO 3 eI))] from(congrArg (fun z=>SV.ov false [.sl (some 32) z]) (set2 (f:=(eO 3 eI)) (y:=(v19.set (Int.toNat x13.2.2) 1)) (yba hv19).2 rfl (set1 (f:=eI) (y:=1) (yba hv20).2 rfl) rfl)))))) ?_
    refine b_n (q_n (yub (r_gq [dP 0 a0,dP 1 a1,bX 6 [.raw (.bool v17.2)],vL 7 32 (eO 3 eI) (x13.2.1.set (Int.toNat x8.2.2) (v19.set (Int.toNat x13.2.2) 1)),pI 8 x8.2.2,bP 9 v12,dP 23 a1,pL 24 a1,pI 25 x8.2.2,dP 30 a1,pL 31 a1,pI 32 (w64 (x13.2.2+1))] [] trivial) ?_))
    exact lqn (v17.2,(x13.2.1.set (Int.toNat x8.2.2) (v19.set (Int.toNat x13.2.2) 1)),(w64 (x13.2.2+1))) h
   refine yga (b_n (q_n (yub (r_gq [dP 0 a0,dP 1 a1,bX 6 [.raw (.bool v17.2)],vL 7 32 (eO 3 eI) x13.2.1,pI 8 x8.2.2,bP 9 v12,dP 23 a1,pL 24 a1,pI 25 x8.2.2,dP 30 a1,pL 31 a1,pI 32 (w64 (x13.2.2+1))] [] trivial) ?_)))
   exact lqn (v17.2,x13.2.1,(w64 (x13.2.2+1))) h
  refine ywb (q_x (lq_x (b_x (b_n ?_))))
  have hyy:=hy_x13 _ (oi h).symm
  subst hyy
  have h:=hk_x13
  refine q_n ?_
  exact jx (x13.1,x13.2.1) h
 refine ywb (q_x (lq_x (b_x ?_)))
 have hyy:=hy_x8 _ (oi h).symm
 subst hyy
 have h:=hk_x8
 refine q_n ?_
 exact jx (x8.1,x8.2.1) h
theorem yyx {a0:(List (List Int))} {a1:Int} {a2:Int}  {r:(List (List Int))} (h:ytl a0 a1 a2=some r):Meets Tryz.prog 133 [.d false [.sl none (a0.map (eF eI))],wI a1,wI a2] { vals:=[rO 32 (eO 3 eI) r] }:=by
 refine mo Tryz.func133 [dL 0 (eF eI) a0,pI 1 a1,pI 2 a2] ?_
 unfold ytl at h
 refine kG [dL 0 (eF eI) a0,pI 1 a1,pI 2 a2] [] trivial ?_
 obtain⟨v1,hv1,h⟩:=bs h
 refine kG [dL 0 (eF eI) a0,pI 1 a1,pI 2 a2,vL 7 32 (eO 3 eI) v1] [hN 1 a0,hC 2 [rO 32 (eO 3 eI) v1]] (A3 (lF (eF eI) a0) (ycn hv1) (show List.all [rO 32 (eO 3 eI) v1] simpleR=true from(sa_o (wnR1 (yge (wn_O wn_I)) rfl) rfl))) ?_
 refine yib (J:=fun (x:(List (List Int)))=>[dL 0 (eF eI) a0,pI 1 a1,pI 2 a2,vL 7 32 (eO 3 eI) x]) (K:=fun x=>yrk a0 a1 a2 x=some r) (fun x2 h=>?_) ?_
 ·unfold yrk at h
  refine yib (J:=fun (x:(List (List Int)))=>[vL 7 32 (eO 3 eI) x]) (K:=fun x=>yjo x=some r) (fun x3 h=>?_) ?_
  ·unfold yjo at h
   refine kG [vL 6 32 (eO 3 eI) x3] [] trivial ?_
   refine yra ?_
   obtain rfl:=oi h
   exact er [(.ov false [.sl (some 32) (x3.map (eO 3 eI))],6)]
  refine kG [dL 0 (eF eI) a0,pI 2 a2,vL 7 32 (eO 3 eI) x2,pI 31 a1,pI 32 0] [] trivial ?_
  refine yfa ?_
  obtain⟨y5,hl_x4,hk_x4⟩:=bs h
  clear h
  refine yfc (J:=fun (x:((List (List Int))×Int))=>[dL 0 (eF eI) a0,pI 2 a2,vL 7 32 (eO 3 eI) x.1,pI 31 a1,pI 32 x.2]) hl_x4 wkk (fun x4 o_x4 h hy_x4=>?_)
  unfold yaf at h
  refine kG [dL 0 (eF eI) a0,pI 2 a2,vL 7 32 (eO 3 eI) x4.1,pI 31 a1,pI 32 x4.2,pB 33 (decide (x4.2<a1))] [] trivial ?_
  refine yab (kI h (fun hc5_5 h=>?_) (fun hc5_5 h=>?_))
  ·refine yga (q_n (yib (J:=fun (x:(List (List Int)))=>[dL 0 (eF eI) a0,pI 2 a2,vL 7 32 (eO 3 eI) x,pI 31 a1,pI 32 x4.2]) (K:=fun x=>ynk x4 x=some o_x4) (fun x7 h=>?_) ?_))
   ·unfold ynk at h
    refine yub (r_gq [dL 0 (eF eI) a0,pI 2 a2,vL 7 32 (eO 3 eI) x7,pI 31 a1,pI 32 (w64 (x4.2+1))] [] trivial) ?_
    exact lqn (x7,(w64 (x4.2+1))) h
   refine yfa ?_
   obtain⟨v8,hv8,h⟩:=bs h
   refine kG [dL 0 (eF eI) a0,pI 2 a2,vL 7 32 (eO 3 eI) x4.1,vL 9 32 (eO 3 eI) v8,pI 31 a1,pI 32 x4.2] [hN 1 a0,hC 2 [rO 32 (eO 3 eI) v8]] (A3 (lF (eF eI) a0) (ycn hv8) (show List.all [rO 32 (eO 3 eI) v8] simpleR=true from(sa_o (wnR1 (yge (wn_O wn_I)) rfl) rfl))) ?_
   refine yib (J:=fun (x:(List (List Int)))=>[dL 0 (eF eI) a0,pI 2 a2,vL 9 32 (eO 3 eI) x,pI 31 a1,pI 32 x4.2]) (K:=fun x=>yok x4 x=some o_x4) (fun x9 h=>?_) ?_
   ·unfold yok at h
    refine yub (r_gq [dL 0 (eF eI) a0,pI 2 a2,vL 7 32 (eO 3 eI) x9,pI 31 a1,pI 32 x4.2] [] trivial) ?_
    refine b_n (q_n ?_)
    exact jx x9 h
   refine kG [dL 0 (eF eI) a0,pI 2 a2,vL 7 32 (eO 3 eI) x4.1,vL 9 32 (eO 3 eI) v8,pI 31 a1,pI 32 x4.2,rF 37 7,pL 38 x4.1,pI 39 0] [hN 1 x4.1] (A1 (lF (eO 3 eI) x4.1)) ?_
   refine yfa ?_
   obtain⟨y11,hl_x10,hk_x10⟩:=bs h
   clear h
   refine yfc (J:=fun (x:((List (List Int))×Int))=>[dL 0 (eF eI) a0,pI 2 a2,vL 7 32 (eO 3 eI) x4.1,vL 9 32 (eO 3 eI) x.1,pI 31 a1,pI 32 x4.2,rF 37 7,pL 38 x4.1,pI 39 x.2]) hl_x10 wkk (fun x10 o_x10 h hy_x10=>?_)
   unfold yze at h
   refine kG [dL 0 (eF eI) a0,pI 2 a2,vL 7 32 (eO 3 eI) x4.1,vL 9 32 (eO 3 eI) x10.1,pI 31 a1,pI 32 x4.2,rF 37 7,pL 38 x4.1,pI 39 x10.2,pB 40 (decide (x10.2<(x4.1.length:Int)))] [] trivial ?_
   refine yab (kI h (fun hc10_11 h=>?_) (fun hc10_11 h=>?_))
   ·refine yga (q_n (yib (J:=fun (x:(List (List Int)))=>[dL 0 (eF eI) a0,pI 2 a2,vL 7 32 (eO 3 eI) x4.1,vL 9 32 (eO 3 eI) x,pI 31 a1,pI 32 x4.2,rF 37 7,pL 38 x4.1,pI 39 x10.2]) (K:=fun x=>ypk x10 x=some o_x10) (fun x13 h=>?_) ?_))
    ·unfold ypk at h
     refine yub (r_gq [dL 0 (eF eI) a0,pI 2 a2,vL 7 32 (eO 3 eI) x4.1,vL 9 32 (eO 3 eI) x13,pI 31 a1,pI 32 x4.2,rF 37 7,pL 38 x4.1,pI 39 (w64 (x10.2+1))] [] trivial) ?_
     exact lqn (x13,(w64 (x10.2+1))) h
    refine yfa ?_
    obtain⟨v14,hv14,h⟩:=bs h
    refine kG [dL 0 (eF eI) a0,pI 2 a2,vL 7 32 (eO 3 eI) x4.1,vL 9 32 (eO 3 eI) x10.1,pI 10 x10.2,(11,.ref 7 [(0,0),((Int.toNat x10.2),0)] none),pI 31 a1,pI 32 x4.2,rF 37 7,pL 38 x4.1,pI 39 x10.2] [hR 1 [.sl (some 3) (v14.map eI)],hR 2 [.sl (some 3) (v14.map eI)]] (A4 (yba hv14).1 (yca (eO 3 eI) (yba hv14).2) (show frR [.sl (some 3) (v14.map eI)]=false from rfl) (gW 32 (eO 3 eI) hv14)) ?_
    refine kG [dL 0 (eF eI) a0,pI 2 a2,vL 7 32 (eO 3 eI) x4.1,vL 9 32 (eO 3 eI) x10.1,pI 10 x10.2,pI 31 a1,pI 32 x4.2,rF 37 7,pL 38 x4.1,pI 39 x10.2,(44,.ref 7 [(0,0),((Int.toNat x10.2),0)] none),pL 45 v14,pI 46 0] [(1,{deep:=some [.sl (some 3) (v14.map eI)],n:=some v14.length})] (A2 (lF eI v14) (gW 32 (eO 3 eI) hv14)) ?_
    refine yfa ?_
    obtain⟨y16,hl_x15,hk_x15⟩:=bs h
    clear h
    refine yfc (J:=fun (x:((List (List Int))×Int))=>[dL 0 (eF eI) a0,pI 2 a2,vL 7 32 (eO 3 eI) x4.1,vL 9 32 (eO 3 eI) x.1,pI 10 x10.2,pI 31 a1,pI 32 x4.2,rF 37 7,pL 38 x4.1,pI 39 x10.2,(44,.ref 7 [(0,0),((Int.toNat x10.2),0)] none),pL 45 v14,pI 46 x.2]) hl_x15 wkk (fun x15 o_x15 h hy_x15=>?_)
    unfold yye at h
    refine kG [dL 0 (eF eI) a0,pI 2 a2,vL 7 32 (eO 3 eI) x4.1,vL 9 32 (eO 3 eI) x15.1,pI 10 x10.2,pI 31 a1,pI 32 x4.2,rF 37 7,pL 38 x4.1,pI 39 x10.2,(44,.ref 7 [(0,0),((Int.toNat x10.2),0)] none),pL 45 v14,pI 46 x15.2,pB 47 (decide (x15.2<(v14.length:Int)))] [] trivial ?_
    refine yab (kI h (fun hc14_16 h=>?_) (fun hc14_16 h=>?_))
    ·refine yga (q_n (yib (J:=fun (x:(List (List Int)))=>[dL 0 (eF eI) a0,pI 2 a2,vL 7 32 (eO 3 eI) x4.1,vL 9 32 (eO 3 eI) x,pI 10 x10.2,pI 31 a1,pI 32 x4.2,rF 37 7,pL 38 x4.1,pI 39 x10.2,(44,.ref 7 [(0,0),((Int.toNat x10.2),0)] none),pL 45 v14,pI 46 x15.2]) (K:=fun x=>yqk x15 x=some o_x15) (fun x18 h=>?_) ?_))
     ·unfold yqk at h
      refine yub (r_gq [dL 0 (eF eI) a0,pI 2 a2,vL 7 32 (eO 3 eI) x4.1,vL 9 32 (eO 3 eI) x18,pI 10 x10.2,pI 31 a1,pI 32 x4.2,rF 37 7,pL 38 x4.1,pI 39 x10.2,(44,.ref 7 [(0,0),((Int.toNat x10.2),0)] none),pL 45 v14,pI 46 (w64 (x15.2+1))] [] trivial) ?_
      exact lqn (x18,(w64 (x15.2+1))) h
     refine yfa ?_
     obtain⟨v19,hv19,h⟩:=bs h
     refine kG [dL 0 (eF eI) a0,pI 2 a2,vL 7 32 (eO 3 eI) x4.1,vL 9 32 (eO 3 eI) x15.1,pI 10 x10.2,pI 12 x15.2,pI 13 v19,pI 31 a1,pI 32 x4.2,rF 37 7,pL 38 x4.1,pI 39 x10.2,(44,.ref 7 [(0,0),((Int.toNat x10.2),0)] none),pL 45 v14,pI 46 x15.2] [(1,{deep:=some [.sl (some 3) (v14.map eI)],row:=some (eI v19)}),hR 2 (eI v19)] (A4 (yba hv19).1 (yca eI (yba hv19).2) (gW 32 (eO 3 eI) hv14) (show getRow [[.sl (some 32) (x4.1.map (eO 3 eI))]] [(0,0),((Int.toNat x10.2),0),((Int.toNat x15.2),0)]=some (eI v19) from((gr0 rfl).trans ((grs (yca (eO 3 eI) (yba hv14).2) rfl).trans (gre (yca eI (yba hv19).2)))))) ?_
     obtain⟨v20,hv20,h⟩:=bs h
     refine kG [dL 0 (eF eI) a0,pI 2 a2,vL 7 32 (eO 3 eI) x4.1,vL 9 32 (eO 3 eI) x15.1,pI 10 x10.2,pI 13 v19,pI 31 a1,pI 32 x4.2,rF 37 7,pL 38 x4.1,pI 39 x10.2,(44,.ref 7 [(0,0),((Int.toNat x10.2),0)] none),pL 45 v14,pI 46 x15.2,dL 54 eI v20,pL 55 v20,pI 56 0] [hR 2 [.sl none (v20.map eI)],hN 4 v20] (A3 (yba hv20).1 (yca (eF eI) (yba hv20).2) (lF eI v20)) ?_
     refine yfa ?_
     obtain⟨y22,hl_x21,hk_x21⟩:=bs h
     clear h
     refine yfc (J:=fun (x:((List (List Int))×Int))=>[dL 0 (eF eI) a0,pI 2 a2,vL 7 32 (eO 3 eI) x4.1,vL 9 32 (eO 3 eI) x.1,pI 10 x10.2,pI 13 v19,pI 31 a1,pI 32 x4.2,rF 37 7,pL 38 x4.1,pI 39 x10.2,(44,.ref 7 [(0,0),((Int.toNat x10.2),0)] none),pL 45 v14,pI 46 x15.2,dL 54 eI v20,pL 55 v20,pI 56 x.2]) hl_x21 wkk (fun x21 o_x21 h hy_x21=>?_)
     unfold yxe at h
     refine kG [dL 0 (eF eI) a0,pI 2 a2,vL 7 32 (eO 3 eI) x4.1,vL 9 32 (eO 3 eI) x21.1,pI 10 x10.2,pI 13 v19,pI 31 a1,pI 32 x4.2,rF 37 7,pL 38 x4.1,pI 39 x10.2,(44,.ref 7 [(0,0),((Int.toNat x10.2),0)] none),pL 45 v14,pI 46 x15.2,dL 54 eI v20,pL 55 v20,pI 56 x21.2,pB 57 (decide (x21.2<(v20.length:Int)))] [] trivial ?_
     refine yab (kI h (fun hc18_22 h=>?_) (fun hc18_22 h=>?_))
     ·refine yga (q_n (yab (yfa ?_)))
      obtain⟨v24,hv24,h⟩:=bs h
      refine kG [dL 0 (eF eI) a0,pI 2 a2,vL 7 32 (eO 3 eI) x4.1,vL 9 32 (eO 3 eI) x21.1,pI 10 x10.2,pI 13 v19,pI 14 x21.2,pI 15 v24,pI 31 a1,pI 32 x4.2,rF 37 7,pL 38 x4.1,pI 39 x10.2,(44,.ref 7 [(0,0),((Int.toNat x10.2),0)] none),pL 45 v14,pI 46 x15.2,dL 54 eI v20,pL 55 v20,pI 56 x21.2] [hR 1 (eI v24)] (A2 (yba hv24).1 (yca eI (yba hv24).2)) ?_
      obtain⟨v25,hv25,h⟩:=bs h
      obtain⟨v26,hv26,h⟩:=bs h
      refine yub (r_dq yda 18 [] [dL 0 (eF eI) a0,pI 2 a2,vL 7 32 (eO 3 eI) x4.1,vL 9 32 (eO 3 eI) (x21.1.set (Int.toNat x10.2) (v25.set (Int.toNat x21.2) (if a2<(w64 (v26+(w64 (v19*v24)))) then a2 else(w64 (v26+(w64 (v19*v24))))))),pI 10 x10.2,pI 13 v19,pI 31 a1,pI 32 x4.2,rF 37 7,pL 38 x4.1,pI 39 x10.2,(44,.ref 7 [(0,0),((Int.toNat x10.2),0)] none),pL 45 v14,pI 46 x15.2,dL 54 eI v20,pL 55 v20,pI 56 x21.2] [hR 2 [.sl (some 3) (v25.map eI)],hR 3 [.sl (some 3) (v25.map eI)],hR 7 [.sl (some 3) (v25.map eI)],hR 8 [.sl (some 3) (v25.map eI)],(10,{deep:=some [.sl (some 3) (v25.map eI)],row:=some (eI v26)}),hR 11 (eI v26),(18,{deep:=some [.sl (some 3) (v25.map eI)],row:=some (eI v26)}),(19,{row:=some (eI v26),fix:=some (vL 9 32 (eO 3 eI) (x21.1.set (Int.toNat x10.2) (v25.set (Int.toNat x21.2) (if a2<(w64 (v26+(w64 (v19*v24)))) then a2 else(w64 (v26+(w64 (v19*v24))))))))})] (B6 (yba hv25).1 (yca (eO 3 eI) (yba hv25).2) (show frR [.sl (some 3) (v25.map eI)]=false from rfl) (gW 32 (eO 3 eI) hv25) (yba hv25).1 (yca (eO 3 eI) (yba hv25).2) (B6 (show frR [.sl (some 3) (v25.map eI)]=false from rfl) (gW 32 (eO 3 eI) hv25) (yba hv26).1 (yca eI (yba hv26).2) (gW 32 (eO 3 eI) hv25) (show getRow [[.sl (some 32) (x21.1.map (eO 3 eI))]] [(0,0),((Int.toNat x10.2),0),((Int.toNat x21.2),0)]=some (eI v26) from((gr0 rfl).trans ((grs (yca (eO 3 eI) (yba hv25).2) rfl).trans (gre (yca eI (yba hv26).2))))) (A5 (yba hv26).1 (yca eI (yba hv26).2) (gW 32 (eO 3 eI) hv25) (show getRow [[.sl (some 32) (x21.1.map (eO 3 eI))]] [(0,0),((Int.toNat x10.2),0),((Int.toNat x21.2),0)]=some (eI v26) from((gr0 rfl).trans ((grs (yca (eO 3 eI) (yba hv25).2) rfl).trans (gre (yca eI (yba hv26).2))))) (show(SV.ov false [.sl (some 32) (setL (x21.1.map (eO 3 eI)) [((Int.toNat x10.2),0),((Int.toNat x21.2),0)] [rI (if a2<(w64 (v26+(w64 (v19*v24)))) then a2 else(w64 (v26+(w64 (v19*v24)))))])]:SV)=.ov false [.sl (some 32) ((x21.1.set (Int.toNat x10.2) (v25.set (Int.toNat x21.2) (if a2<(w64 (v26+(w64 (v19*v24)))) then a2 else(w64 (v26+(w64 (v19*v24))))))).map (eO 3 eI))] from(congrArg (fun z=>SV.ov false [.sl (some 32) z]) (set2 (f:=(eO 3 eI)) (y:=(v25.set (Int.toNat x21.2) (if a2<(w64 (v26+(w64 (v19*v24)))) then a2 else(w64 (v26+(w64 (v19*v24))))))) (yba hv25).2 rfl (set1 (f:=eI) (y:=(if a2<(w64 (v26+(w64 (v19*v24)))) then a2 else(w64 (v26+(w64 (v19*v24)))))) (yba hv26).2 rfl) rfl))))))) ?_
      refine b_n (q_n (yub (r_gq [dL 0 (eF eI) a0,pI 2 a2,vL 7 32 (eO 3 eI) x4.1,vL 9 32 (eO 3 eI) (x21.1.set (Int.toNat x10.2) (v25.set (Int.toNat x21.2) (if a2<(w64 (v26+(w64 (v19*v24)))) then a2 else(w64 (v26+(w64 (v19*v24))))))),pI 10 x10.2,pI 13 v19,pI 31 a1,pI 32 x4.2,rF 37 7,pL 38 x4.1,pI 39 x10.2,(44,.ref 7 [(0,0),((Int.toNat x10.2),0)] none),pL 45 v14,pI 46 x15.2,dL 54 eI v20,pL 55 v20,pI 56 (w64 (x21.2+1))] [] trivial) ?_))
      exact lqn ((x21.1.set (Int.toNat x10.2) (v25.set (Int.toNat x21.2) (if a2<(w64 (v26+(w64 (v19*v24)))) then a2 else(w64 (v26+(w64 (v19*v24))))))),(w64 (x21.2+1))) h
     refine ywb (q_x (lq_x (b_x (b_n ?_))))
     have hyy:=hy_x21 _ (oi h).symm
     subst hyy
     have h:=hk_x21
     refine q_n ?_
     exact jx x21.1 h
    refine ywb (q_x (lq_x (b_x (b_n ?_))))
    have hyy:=hy_x15 _ (oi h).symm
    subst hyy
    have h:=hk_x15
    refine q_n ?_
    exact jx x15.1 h
   refine ywb (q_x (lq_x (b_x ?_)))
   have hyy:=hy_x10 _ (oi h).symm
   subst hyy
   have h:=hk_x10
   refine q_n ?_
   exact jx x10.1 h
  refine ywb (q_x (lq_x (b_x ?_)))
  have hyy:=hy_x4 _ (oi h).symm
  subst hyy
  have h:=hk_x4
  refine q_n ?_
  exact jx x4.1 h
 refine kG [dL 0 (eF eI) a0,pI 1 a1,pI 2 a2,vL 7 32 (eO 3 eI) v1,pL 20 v1,pI 21 0] [hN 1 v1] (A1 (lF (eO 3 eI) v1)) ?_
 refine yfa ?_
 obtain⟨y28,hl_x27,hk_x27⟩:=bs h
 clear h
 refine yfc (J:=fun (x:((List (List Int))×Int))=>[dL 0 (eF eI) a0,pI 1 a1,pI 2 a2,vL 7 32 (eO 3 eI) x.1,pL 20 v1,pI 21 x.2]) hl_x27 wkk (fun x27 o_x27 h hy_x27=>?_)
 unfold yvh at h
 refine kG [dL 0 (eF eI) a0,pI 1 a1,pI 2 a2,vL 7 32 (eO 3 eI) x27.1,pL 20 v1,pI 21 x27.2,pB 22 (decide (x27.2<(v1.length:Int)))] [] trivial ?_
 refine yab (kI h (fun hc5_28 h=>?_) (fun hc5_28 h=>?_))
 ·refine yga (q_n (yab (yfa (kG [dL 0 (eF eI) a0,pI 1 a1,pI 2 a2,vL 7 32 (eO 3 eI) x27.1,pI 8 x27.2,pL 20 v1,pI 21 x27.2] [] trivial ?_))))
  obtain⟨v30,hv30,h⟩:=bs h
  obtain⟨v31,hv31,h⟩:=bs h
  refine yub (r_gq [dL 0 (eF eI) a0,pI 1 a1,pI 2 a2,vL 7 32 (eO 3 eI) (x27.1.set (Int.toNat x27.2) (v30.set (Int.toNat x27.2) 1)),pL 20 v1,pI 21 x27.2] [hR 2 [.sl (some 3) (v30.map eI)],hR 3 [.sl (some 3) (v30.map eI)],(5,{deep:=some [.sl (some 3) (v30.map eI)],row:=some (eI v31)}),(6,{row:=some (eI v31),fix:=some (vL 7 32 (eO 3 eI) (x27.1.set (Int.toNat x27.2) (v30.set (Int.toNat x27.2) 1)))})] (B6 (yba hv30).1 (yca (eO 3 eI) (yba hv30).2) (show frR [.sl (some 3) (v30.map eI)]=false from rfl) (gW 32 (eO 3 eI) hv30) (yba hv31).1 (yca eI (yba hv31).2) (A3 (gW 32 (eO 3 eI) hv30) (show getRow [[.sl (some 32) (x27.1.map (eO 3 eI))]] [(0,0),((Int.toNat x27.2),0),((Int.toNat x27.2),0)]=some (eI v31) from((gr0 rfl).trans ((grs (yca (eO 3 eI) (yba hv30).2) rfl).trans (gre (yca eI (yba hv31).2))))) (show(SV.ov false [.sl (some 32) (setL (x27.1.map (eO 3 eI)) [((Int.toNat x27.2),0),((Int.toNat x27.2),0)] [rI 1])]:SV)=.ov false [.sl (some 32) ((x27.1.set (Int.toNat x27.2) (v30.set (Int.toNat x27.2) 1)).map (eO 3 eI))] from(congrArg (fun z=>SV.ov false [.sl (some 32) z]) (set2 (f:=(eO 3 eI)) (y:=(v30.set (Int.toNat x27.2) 1)) (yba hv30).2 rfl (set1 (f:=eI) (y:=1) (yba hv31).2 rfl) rfl)))))) ?_
  refine b_n (q_n (yub (r_gq [dL 0 (eF eI) a0,pI 1 a1,pI 2 a2,vL 7 32 (eO 3 eI) (x27.1.set (Int.toNat x27.2) (v30.set (Int.toNat x27.2) 1)),pL 20 v1,pI 21 (w64 (x27.2+1))] [] trivial) ?_))
  exact lqn ((x27.1.set (Int.toNat x27.2) (v30.set (Int.toNat x27.2) 1)),(w64 (x27.2+1))) h
 refine ywb (q_x (lq_x (b_x ?_)))
 have hyy:=hy_x27 _ (oi h).symm
 subst hyy
 have h:=hk_x27
 refine q_n ?_
 exact jx x27.1 h
theorem yia1 {a0:Int}  {r:Int} (h:yhn a0=some r):Meets Tryz.prog 134 [wI a0] { vals:=[.p (iV r)] }:=by
 refine mo Tryz.func134 [pI 0 a0] ?_
 unfold yhn at h
 refine kG [pI 0 a0] [] trivial ?_
 refine kG [pI 0 a0,pI 3 1] [] trivial ?_
 refine yib (J:=fun (x:Int)=>[pI 3 x]) (K:=fun x=>yqn x=some r) (fun x1 h=>?_) ?_
 ·unfold yqn at h
  refine kG [pI 2 x1] [] trivial ?_
  refine yra ?_
  obtain rfl:=oi h
  exact er [(.p (iV x1),2)]
 refine kG [pI 0 a0,pI 3 1,pI 4 2] [] trivial ?_
 refine yfa ?_
 obtain⟨y3,hl_x2,hk_x2⟩:=bs h
 clear h
 refine yfc (J:=fun (x:(Int×Int×Int))=>[pI 0 x.1,pI 3 x.2.1,pI 4 x.2.2]) hl_x2 wkk (fun x2 o_x2 h hy_x2=>?_)
 unfold yvq at h
 refine yab (kG [pI 0 x2.1,pI 3 x2.2.1,pI 4 x2.2.2,pB 7 (decide (x2.2.2<=x2.1))] [] trivial ?_)
 refine kI h (fun hc5_3 h=>?_) (fun hc5_3 h=>?_)
 ·refine yga (q_n (yab (yfa ?_)))
  obtain⟨u5,hu5,h⟩:=bs h
  refine kG [pI 0 x2.1,pI 3 x2.2.1,pI 4 x2.2.2,pB 13 ((Int.tmod x2.1 x2.2.2)==0)] [] (A1 (yla hu5)) ?_
  refine kI h (fun hc6_5 h=>?_) (fun hc6_5 h=>?_)
  ·refine kG [pI 0 (w64 (Int.tdiv x2.1 x2.2.2)),pI 3 x2.2.1,pI 4 x2.2.2] [] (A1 (yla hu5)) ?_
   refine kG [pI 0 (w64 (Int.tdiv x2.1 x2.2.2)),pI 3 (w64 (0-x2.2.1)),pI 4 x2.2.2] [] trivial ?_
   refine kG [pI 0 (w64 (Int.tdiv x2.1 x2.2.2)),pI 3 (w64 (0-x2.2.1)),pI 4 x2.2.2,pB 22 ((Int.tmod (w64 (Int.tdiv x2.1 x2.2.2)) x2.2.2)==0)] [] (A1 (yla hu5)) ?_
   refine kI h (fun hc6_6 h=>?_) (fun hc6_6 h=>?_)
   ·refine kG [pI 2 0] [] trivial ?_
    refine yra (b_r (q_r (lq_r ?_)))
    refine b_r (q_r ?_)
    have hyy:=hy_x2 _ (oi h).symm
    subst hyy
    have h:=hk_x2
    dsimp only[Sum.elim] at h
    obtain rfl:=oi h
    exact er [(.p (iV 0),2)]
   refine yga (b_n (q_n (yub (r_gq [pI 0 (w64 (Int.tdiv x2.1 x2.2.2)),pI 3 (w64 (0-x2.2.1)),pI 4 (w64 (x2.2.2+1))] [] trivial) ?_)))
   exact lqn ((w64 (Int.tdiv x2.1 x2.2.2)),(w64 (0-x2.2.1)),(w64 (x2.2.2+1))) h
  refine yga (b_n (q_n (yub (r_gq [pI 0 x2.1,pI 3 x2.2.1,pI 4 (w64 (x2.2.2+1))] [] trivial) ?_)))
  exact lqn (x2.1,x2.2.1,(w64 (x2.2.2+1))) h
 refine ywb (q_x (lq_x (b_x ?_)))
 have hyy:=hy_x2 _ (oi h).symm
 subst hyy
 have h:=hk_x2
 dsimp only[Sum.elim] at h
 refine q_n ?_
 exact jx x2.2.1 h
theorem yzx {a0:(List (List Int))} {a1:Int}  {r:Int} (h:ylm a0 a1=some r):Meets Tryz.prog 63 [.d false [.sl none (a0.map (eF eI))],wI a1] { vals:=[.p (iV r)] }:=by
 refine mo Tryz.func63 [dL 0 (eF eI) a0,pI 1 a1] ?_
 unfold ylm at h
 refine kG [dL 0 (eF eI) a0,pI 1 a1] [] trivial ?_
 refine kG [dL 0 (eF eI) a0,pI 1 a1,pI 5 0] [] trivial ?_
 refine yib (J:=fun (x:Int)=>[pI 1 a1,pI 5 x]) (K:=fun x=>ysk a1 x=some r) (fun x1 h=>?_) ?_
 ·unfold ysk at h
  obtain⟨u2,hu2,h⟩:=bs h
  refine kG [pI 4 (w64 (Int.tdiv x1 a1))] [] (A1 (yla hu2)) ?_
  refine yra ?_
  obtain rfl:=oi h
  exact er [(.p (iV (w64 (Int.tdiv x1 a1))),4)]
 refine kG [dL 0 (eF eI) a0,pI 1 a1,pI 5 0,pI 6 1] [] trivial ?_
 refine yfa ?_
 obtain⟨y4,hl_x3,hk_x3⟩:=bs h
 clear h
 refine yfc (J:=fun (x:Qr)=>[dL 0 (eF eI) a0,pI 1 a1,pI 5 x.1,pI 6 x.2]) hl_x3 wkk (fun x3 o_x3 h hy_x3=>?_)
 unfold yhf at h
 refine yab (kG [dL 0 (eF eI) a0,pI 1 a1,pI 5 x3.1,pI 6 x3.2,pB 11 (decide (x3.2<=a1))] [] trivial ?_)
 refine kI h (fun hc5_4 h=>?_) (fun hc5_4 h=>?_)
 ·refine yga (q_n (yib (J:=fun (x:Int)=>[dL 0 (eF eI) a0,pI 1 a1,pI 5 x,pI 6 x3.2]) (K:=fun x=>yff x3 x=some o_x3) (fun x6 h=>?_) ?_))
  ·unfold yff at h
   refine yub (r_gq [dL 0 (eF eI) a0,pI 1 a1,pI 5 x6,pI 6 (w64 (x3.2+1))] [] trivial) ?_
   exact lqn (x6,(w64 (x3.2+1))) h
  refine yfa ?_
  obtain⟨u7,hu7,h⟩:=bs h
  refine kG [dL 0 (eF eI) a0,pI 1 a1,pI 5 x3.1,pI 6 x3.2,pB 17 ((Int.tmod a1 x3.2)==0)] [] (A1 (yla hu7)) ?_
  refine kI h (fun hc6_7 h=>?_) (fun hc6_7 h=>?_)
  ·obtain⟨v9,hv9,h⟩:=bs h
   refine kG [dL 0 (eF eI) a0,pI 1 a1,pI 5 x3.1,pI 6 x3.2,vL 20 32 (eO 3 eI) v9,pL 21 v9,pI 22 0] [hC 2 [rO 32 (eO 3 eI) v9],hN 3 v9] (A3 (yyx hv9) (show List.all [rO 32 (eO 3 eI) v9] simpleR=true from(sa_o (wnR1 (yge (wn_O wn_I)) rfl) rfl)) (lF (eO 3 eI) v9)) ?_
   refine yfa ?_
   obtain⟨y11,hl_x10,hk_x10⟩:=bs h
   clear h
   refine yfc (J:=fun (x:Qr)=>[dL 0 (eF eI) a0,pI 1 a1,pI 5 x.1,pI 6 x3.2,vL 20 32 (eO 3 eI) v9,pL 21 v9,pI 22 x.2]) hl_x10 wkk (fun x10 o_x10 h hy_x10=>?_)
   unfold ygf at h
   refine kG [dL 0 (eF eI) a0,pI 1 a1,pI 5 x10.1,pI 6 x3.2,vL 20 32 (eO 3 eI) v9,pL 21 v9,pI 22 x10.2,pB 23 (decide (x10.2<(v9.length:Int)))] [] trivial ?_
   refine yab (kI h (fun hc9_11 h=>?_) (fun hc9_11 h=>?_))
   ·refine yga (q_n (yab (yfa ?_)))
    obtain⟨v13,hv13,h⟩:=bs h
    refine kG [dL 0 (eF eI) a0,pI 1 a1,pI 5 x10.1,pI 6 x3.2,pI 7 x10.2,(8,.ref 20 [(0,0),((Int.toNat x10.2),0)] none),vL 20 32 (eO 3 eI) v9,pL 21 v9,pI 22 x10.2] [hR 1 [.sl (some 3) (v13.map eI)],hR 2 [.sl (some 3) (v13.map eI)]] (A4 (yba hv13).1 (yca (eO 3 eI) (yba hv13).2) (show frR [.sl (some 3) (v13.map eI)]=false from rfl) (gW 32 (eO 3 eI) hv13)) ?_
    obtain⟨v14,hv14,h⟩:=bs h
    obtain⟨v15,hv15,h⟩:=bs h
    refine yub (r_dq yda 10 [] [dL 0 (eF eI) a0,pI 1 a1,pI 5 (w64 (x10.1+(w64 (v14*v15)))),pI 6 x3.2,vL 20 32 (eO 3 eI) v9,pL 21 v9,pI 22 x10.2] [hC 4 [.p (iV v14)],(7,{deep:=some [.sl (some 3) (v13.map eI)],row:=some (eI v15)}),hR 8 (eI v15)] (A6 (yla hu7) (yia1 hv14) (yba hv15).1 (yca eI (yba hv15).2) (gW 32 (eO 3 eI) hv13) (show getRow [[.sl (some 32) (v9.map (eO 3 eI))]] [(0,0),((Int.toNat x10.2),0),((Int.toNat x10.2),0)]=some (eI v15) from((gr0 rfl).trans ((grs (yca (eO 3 eI) (yba hv13).2) rfl).trans (gre (yca eI (yba hv15).2))))))) ?_
    refine b_n (q_n (yub (r_gq [dL 0 (eF eI) a0,pI 1 a1,pI 5 (w64 (x10.1+(w64 (v14*v15)))),pI 6 x3.2,vL 20 32 (eO 3 eI) v9,pL 21 v9,pI 22 (w64 (x10.2+1))] [] trivial) ?_))
    exact lqn ((w64 (x10.1+(w64 (v14*v15)))),(w64 (x10.2+1))) h
   refine ywb (q_x (lq_x (b_x (b_n ?_))))
   have hyy:=hy_x10 _ (oi h).symm
   subst hyy
   have h:=hk_x10
   refine q_n ?_
   exact jx x10.1 h
  refine yga (b_n (q_n ?_))
  exact jx x3.1 h
 refine ywb (q_x (lq_x (b_x ?_)))
 have hyy:=hy_x3 _ (oi h).symm
 subst hyy
 have h:=hk_x3
 refine q_n ?_
 exact jx x3.1 h
theorem yxw {a0:(List Qp)} {a1:(List Qp)} {a2:Int}  {r:(Int×Bool)} (h:ykk a0 a1 a2=some r):Meets Tryz.prog 20 [.d false (sP a0),.d false (sP a1),wI a2] { vals:=[.p (iV r.1),.p (.bool r.2)] }:=by
 refine mo Tryz.func20 [dP 0 a0,dP 1 a1,pI 2 a2] ?_
 unfold ykk at h
 refine kG [dP 0 a0,dP 1 a1,pI 2 a2] [] trivial ?_
 obtain⟨v1,hv1,h⟩:=bs h
 refine kG [pI 2 a2,vL 8 32 (eO 3 eI) v1.1,pB 9 v1.2] [hC 2 [rO 32 (eO 3 eI) v1.1,.p (.bool v1.2)]] (A2 (yhr hv1) (show List.all [rO 32 (eO 3 eI) v1.1,.p (.bool v1.2)] simpleR=true from(sa_o (wnR1 (yge (wn_O wn_I)) rfl) (sa_p rfl)))) ?_
 refine yab ?_
 obtain⟨w3,hw3,h⟩:=bs h
 refine yza (l1:=[pI 2 a2,vL 8 32 (eO 3 eI) v1.1,pB 22 w3]) ?_ ?_
 ·clear h
  rcases ft (!v1.2) with ha0 | ha0
  ·replace hw3:=yrh ha0 hw3
   have hw3:=oi hw3
   subst hw3
   exact(r_gq [pI 2 a2,vL 8 32 (eO 3 eI) v1.1,pB 22 true] [(3,gT),(4,gT),(5,gT),(6,bT)] (A4 ha0 ha0 ha0 ha0))
  obtain⟨v2,hv2,hw3⟩:=bs (ysh ha0 hw3)
  have hw3:=oi hw3
  subst hw3
  exact(r_gq [pI 2 a2,vL 8 32 (eO 3 eI) v1.1,pB 22 (!v2)] [(3,gF),(4,(gN [.p (.bool v2)])),(5,gF),(6,bF)] (A5 ha0 ha0 (ykd hv2) ha0 ha0))
 refine kI h (fun hc2_3 h=>?_) (fun hc2_3 h=>?_)
 ·refine kG [pI 6 0,pB 7 false] [] trivial ?_
  refine yra (q_r ?_)
  obtain rfl:=oi h
  exact er [(.p (iV 0),6),(.p (.bool false),7)]
 refine yga (q_n ?_)
 obtain⟨v5,hv5,h⟩:=bs h
 refine kG [pI 6 v5,pB 7 true] [(2,(cS [.d false [.sl none (v1.1.map (eF eI))],wI a2] [.p (iV v5)]))] (A2 (show([.d false [.sl none (eraL (v1.1.map (eO 3 eI)))],wI a2]:List Arg)=[.d false [.sl none (v1.1.map (eF eI))],wI a2] from(by simp only[yua (h:=(eF eI)) (yvy1 er_I)])) (yzx hv5)) ?_
 refine yra ?_
 obtain rfl:=oi h
 exact er [(.p (iV v5),6),(.p (.bool true),7)]
theorem ykz {a0:Int}  {r:Bool} (h:ylq a0=some r):Meets Tryz.prog 64 [wI a0] { vals:=[.p (.bool r)] }:=by
 refine mo Tryz.func64 [pI 0 a0] ?_
 unfold ylq at h
 refine kG [pI 0 a0] [] trivial ?_
 obtain⟨v1,hv1,h⟩:=bs h
 refine kG [pB 2 v1] [hC 1 [.p (.bool v1)]] (A1 (yhh hv1)) ?_
 refine yra ?_
 obtain rfl:=oi h
 exact er [(.p (.bool v1),2)]
theorem yyw {a0:(List Qp)} {a1:(List Qp)}  {r:((List (List Int))×Bool)} (h:yci a0 a1=some r):Meets Tryz.prog 65 [.d false (sP a0),.d false (sP a1)] { vals:=[rO 32 (eO 3 eI) r.1,.p (.bool r.2)] }:=by
 refine mo Tryz.func65 [dP 0 a0,dP 1 a1] ?_
 unfold yci at h
 refine kG [dP 0 a0,dP 1 a1] [] trivial ?_
 refine yab ?_
 obtain⟨v1,hv1,h⟩:=bs h
 obtain⟨w3,hw3,h⟩:=bs h
 refine yza (l1:=[dP 0 a0,dP 1 a1,pB 22 w3]) ?_ ?_
 ·clear h
  rcases ft (!v1) with ha0 | ha0
  ·replace hw3:=yrh ha0 hw3
   have hw3:=oi hw3
   subst hw3
   exact(r_gq [dP 0 a0,dP 1 a1,pB 22 true] [hC 1 [.p (.bool v1)],(4,gT),(5,gT),(6,gT),(7,bT)] (A5 (ymf hv1) ha0 ha0 ha0 ha0))
  obtain⟨v2,hv2,hw3⟩:=bs (ysh ha0 hw3)
  have hw3:=oi hw3
  subst hw3
  exact(r_gq [dP 0 a0,dP 1 a1,pB 22 (!v2)] [hC 1 [.p (.bool v1)],(4,gF),(5,(gN [.p (.bool v2)])),(6,gF),(7,bF)] (A6 (ymf hv1) ha0 ha0 (yqv hv2) ha0 ha0))
 refine kI h (fun hc2_3 h=>?_) (fun hc2_3 h=>?_)
 ·refine kG [vN 4 32,pB 5 false] [] trivial ?_
  refine yra (q_r ?_)
  obtain rfl:=oi h
  exact er [(.ov false (oN 32),4),(.p (.bool false),5)]
 refine yga (q_n (kG [dP 0 a0,dP 1 a1,vN 6 32] [] trivial ?_))
 refine yib (J:=fun (x:(List (List Int)))=>[vL 6 32 (eO 3 eI) x]) (K:=fun x=>yln x=some r) (fun x5 h=>?_) ?_
 ·unfold yln at h
  refine kG [vL 4 32 (eO 3 eI) x5,pB 5 true] [] trivial ?_
  refine yra ?_
  obtain rfl:=oi h
  exact er [(.ov false [.sl (some 32) (x5.map (eO 3 eI))],4),(.p (.bool true),5)]
 refine kG [dP 0 a0,dP 1 a1,vN 6 32,dP 23 a1,pL 24 a1,pI 25 0] [hN 1 a1] (A1 (lnP a1)) ?_
 refine yfa ?_
 obtain⟨y7,hl_x6,hk_x6⟩:=bs h
 clear h
 refine yfc (J:=fun (x:((List (List Int))×Int))=>[dP 0 a0,dP 1 a1,vL 6 32 (eO 3 eI) x.1,dP 23 a1,pL 24 a1,pI 25 x.2]) hl_x6 wkk (fun x6 o_x6 h hy_x6=>?_)
 unfold yjd at h
 refine kG [dP 0 a0,dP 1 a1,vL 6 32 (eO 3 eI) x6.1,dP 23 a1,pL 24 a1,pI 25 x6.2,pB 26 (decide (x6.2<(a1.length:Int)))] [] trivial ?_
 refine yab (kI h (fun hc5_7 h=>?_) (fun hc5_7 h=>?_))
 ·refine yga (q_n (yib (J:=fun (x:(List (List Int)))=>[dP 0 a0,dP 1 a1,vL 6 32 (eO 3 eI) x,dP 23 a1,pL 24 a1,pI 25 x6.2]) (K:=fun x=>ynj x6 x=some o_x6) (fun x9 h=>?_) ?_))
  ·unfold ynj at h
   refine yub (r_gq [dP 0 a0,dP 1 a1,vL 6 32 (eO 3 eI) x9,dP 23 a1,pL 24 a1,pI 25 (w64 (x6.2+1))] [] trivial) ?_
   exact lqn (x9,(w64 (x6.2+1))) h
  refine yfa ?_
  obtain⟨v10,hv10,h⟩:=bs h
  refine kG [dP 0 a0,dP 1 a1,vL 6 32 (eO 3 eI) x6.1,bP 8 v10,dP 23 a1,pL 24 a1,pI 25 x6.2] [hR 0 (ePt v10)] (A2 (yba hv10).1 (yca ePt (yba hv10).2)) ?_
  refine kG [dP 0 a0,dP 1 a1,vL 6 32 (eO 3 eI) x6.1,bP 8 v10,vN 9 3,dP 23 a1,pL 24 a1,pI 25 x6.2] [] trivial ?_
  refine yib (J:=fun (x:(List Int))=>[dP 0 a0,dP 1 a1,vL 6 32 (eO 3 eI) x6.1,vL 9 3 eI x,dP 23 a1,pL 24 a1,pI 25 x6.2]) (K:=fun x=>yoj x6 x=some o_x6) (fun x11 h=>?_) ?_
  ·unfold yoj at h
   obtain⟨u12,hu12,h⟩:=bs h
   refine yub (r_gq [dP 0 a0,dP 1 a1,vL 6 32 (eO 3 eI) (x6.1++[x11]),dP 23 a1,pL 24 a1,pI 25 x6.2] [(3,{fix:=some (vL 53 32 (eO 3 eI) (x6.1++[x11]))})] (A3 (lG' (eO 3 eI) hu12) (show ∀ row∈((([x11]).map (eO 3 eI)):List (List C)),row.length=1 from(ycc fun _=>rfl)) (aP' 32 (eO 3 eI) x6.1 ([x11])))) ?_
   refine b_n (q_n ?_)
   exact jx (x6.1++[x11]) h
  refine kG [dP 0 a0,dP 1 a1,vL 6 32 (eO 3 eI) x6.1,bP 8 v10,vN 9 3,dP 23 a1,pL 24 a1,pI 25 x6.2,dP 29 a1,pL 30 a1,pI 31 0] [hN 1 a1] (A1 (lnP a1)) ?_
  refine yfa ?_
  obtain⟨y14,hl_x13,hk_x13⟩:=bs h
  clear h
  refine yfc (J:=fun (x:((List Int)×Int))=>[dP 0 a0,dP 1 a1,vL 6 32 (eO 3 eI) x6.1,bP 8 v10,vL 9 3 eI x.1,dP 23 a1,pL 24 a1,pI 25 x6.2,dP 29 a1,pL 30 a1,pI 31 x.2]) hl_x13 wkk (fun x13 o_x13 h hy_x13=>?_)
  unfold yid at h
  refine kG [dP 0 a0,dP 1 a1,vL 6 32 (eO 3 eI) x6.1,bP 8 v10,vL 9 3 eI x13.1,dP 23 a1,pL 24 a1,pI 25 x6.2,dP 29 a1,pL 30 a1,pI 31 x13.2,pB 32 (decide (x13.2<(a1.length:Int)))] [] trivial ?_
  refine yab (kI h (fun hc10_14 h=>?_) (fun hc10_14 h=>?_))
  ·refine yga (q_n (yab (yfa ?_)))
   obtain⟨v16,hv16,h⟩:=bs h
   refine kG [dP 0 a0,dP 1 a1,vL 6 32 (eO 3 eI) x6.1,bP 8 v10,vL 9 3 eI x13.1,bP 11 v16,dP 23 a1,pL 24 a1,pI 25 x6.2,dP 29 a1,pL 30 a1,pI 31 x13.2] [hR 0 (ePt v16)] (A2 (yba hv16).1 (yca ePt (yba hv16).2)) ?_
   obtain⟨v17,hv17,h⟩:=bs h
   refine kG [dP 0 a0,dP 1 a1,vL 6 32 (eO 3 eI) x6.1,bP 8 v10,vL 9 3 eI x13.1,pB 12 v17.1,pB 13 v17.2,dP 23 a1,pL 24 a1,pI 25 x6.2,dP 29 a1,pL 30 a1,pI 31 x13.2] [hC 3 [.p (.bool v17.1),.p (.bool v17.2)]] (A1 (ysi hv17)) ?_
   refine yab (kG [dP 0 a0,dP 1 a1,vL 6 32 (eO 3 eI) x6.1,bP 8 v10,vL 9 3 eI x13.1,pB 12 v17.1,dP 23 a1,pL 24 a1,pI 25 x6.2,dP 29 a1,pL 30 a1,pI 31 x13.2,pB 43 (!v17.2)] [] trivial ?_)
   refine kI h (fun hc12_17 h=>?_) (fun hc12_17 h=>?_)
   ·refine kG [vN 4 32,pB 5 false] [] trivial ?_
    refine yra (q_r (b_r (q_r (lq_r ?_))))
    refine b_r (q_r (b_r (q_r (lq_r ?_))))
    refine b_r (q_r ?_)
    have hyy:=hy_x13 _ (oi h).symm
    subst hyy
    have h:=hk_x13
    dsimp only[Sum.elim] at h
    have hyy:=hy_x6 _ (oi h).symm
    subst hyy
    have h:=hk_x6
    dsimp only[Sum.elim] at h
    obtain rfl:=oi h
    exact er [(.ov false (oN 32),4),(.p (.bool false),5)]
   refine yga (q_n (kG [dP 0 a0,dP 1 a1,vL 6 32 (eO 3 eI) x6.1,bP 8 v10,vL 9 3 eI x13.1,pB 12 v17.1,pI 14 0,dP 23 a1,pL 24 a1,pI 25 x6.2,dP 29 a1,pL 30 a1,pI 31 x13.2] [] trivial ?_))
   refine yib (J:=fun (x:Int)=>[dP 0 a0,dP 1 a1,vL 6 32 (eO 3 eI) x6.1,bP 8 v10,vL 9 3 eI x13.1,pI 14 x,dP 23 a1,pL 24 a1,pI 25 x6.2,dP 29 a1,pL 30 a1,pI 31 x13.2]) (K:=fun x=>ypg x13 x=some o_x13) (fun x19 h=>?_) ?_
   ·unfold ypg at h
    obtain⟨u20,hu20,h⟩:=bs h
    refine yub (r_gq [dP 0 a0,dP 1 a1,vL 6 32 (eO 3 eI) x6.1,bP 8 v10,vL 9 3 eI (x13.1++[x19]),dP 23 a1,pL 24 a1,pI 25 x6.2,dP 29 a1,pL 30 a1,pI 31 x13.2] [(3,{fix:=some (vL 48 3 eI (x13.1++[x19]))})] (A3 (lG' eI hu20) (show ∀ row∈((([x19]).map eI):List (List C)),row.length=1 from(ycc fun _=>rfl)) (aP' 3 eI x13.1 ([x19])))) ?_
    refine b_n (q_n (yub (r_gq [dP 0 a0,dP 1 a1,vL 6 32 (eO 3 eI) x6.1,bP 8 v10,vL 9 3 eI (x13.1++[x19]),dP 23 a1,pL 24 a1,pI 25 x6.2,dP 29 a1,pL 30 a1,pI 31 (w64 (x13.2+1))] [] trivial) ?_))
    exact lqn ((x13.1++[x19]),(w64 (x13.2+1))) h
   refine kG [dP 0 a0,dP 1 a1,vL 6 32 (eO 3 eI) x6.1,bP 8 v10,vL 9 3 eI x13.1,pI 14 0,dP 23 a1,pL 24 a1,pI 25 x6.2,dP 29 a1,pL 30 a1,pI 31 x13.2,pB 44 v17.1] [] trivial ?_
   refine kI h (fun hc12_20 h=>?_) (fun hc12_20 h=>?_)
   ·refine yub (r_gq [dP 0 a0,dP 1 a1,vL 6 32 (eO 3 eI) x6.1,bP 8 v10,vL 9 3 eI x13.1,pI 14 1,dP 23 a1,pL 24 a1,pI 25 x6.2,dP 29 a1,pL 30 a1,pI 31 x13.2] [] trivial) ?_
    refine q_n ?_
    exact jx 1 h
   refine yga (q_n ?_)
   exact jx 0 h
  refine ywb (q_x (lq_x (b_x ?_)))
  have hyy:=hy_x13 _ (oi h).symm
  subst hyy
  have h:=hk_x13
  dsimp only[Sum.elim] at h
  refine q_n ?_
  exact jx x13.1 h
 refine ywb (q_x (lq_x (b_x ?_)))
 have hyy:=hy_x6 _ (oi h).symm
 subst hyy
 have h:=hk_x6
 dsimp only[Sum.elim] at h
 refine q_n ?_
 exact jx x6.1 h
end Go.PV

/-
  Walks through the functions that the law reaches: each answers as its plain definition does.
  Conditions: none.
-/
import Derived.KernelRfl
import Derived.Test.YtigabkbbbpokbaaGreatWChainsPartC
import Derived.Test.YtigabkbbbpokbaaGreatProg
import Derived.Test.YtigabkbbbpokbaaGreatSrtYtigabkbbbpokbaaGreat
import Derived.Test.YtigabkbbbpokbaaGreatPvCx
open Go Go.PV Go.Proofs
set_option linter.all false
namespace Go.PV
attribute [local irreducible] pvC pvL pvD sOp seqQ blockQ Meets MeetsB Ok OkL RegOk agree endQ seqL blockL loopQ endL endLB OkV Takes
theorem ylz {a0:(List (List Int))} {a1:Int}  {r:Int} (h:ydo a0 a1=some r):Meets Tryz.prog 135 [.d false [.sl none (a0.map (eF eI))],wI a1] { vals:=[.p (iV r)] }:=by
 refine mo Tryz.func135 [dL 0 (eF eI) a0,pI 1 a1] ?_
 unfold ydo at h
 refine kG [dL 0 (eF eI) a0,pI 1 a1] [] trivial ?_
 refine kG [dL 0 (eF eI) a0,pI 1 a1,pI 5 0] [] trivial ?_
 refine yib (J:=fun (x:Int)=>[pI 5 x]) (K:=fun x=>yup x=some r) (fun x1 h=>?_) ?_
 ·unfold yup at h
  refine kG [pI 4 x1] [] trivial ?_
  refine yra ?_
  obtain rfl:=oi h
  exact er [(.p (iV x1),4)]
 refine kG [dL 0 (eF eI) a0,pI 1 a1,pI 5 0,pL 15 a0,pI 16 0] [hN 1 a0] (A1 (lF (eF eI) a0)) ?_
 refine yfa ?_
 obtain⟨y3,hl_x2,hk_x2⟩:=bs h
 clear h
 refine yfc (J:=fun (x:Qr)=>[dL 0 (eF eI) a0,pI 1 a1,pI 5 x.1,pL 15 a0,pI 16 x.2]) hl_x2 wkk (fun x2 o_x2 h hy_x2=>?_)
 unfold ytg at h
 refine kG [dL 0 (eF eI) a0,pI 1 a1,pI 5 x2.1,pL 15 a0,pI 16 x2.2,pB 17 (decide (x2.2<(a0.length:Int)))] [] trivial ?_
 refine yab (kI h (fun hc5_3 h=>?_) (fun hc5_3 h=>?_))
 ·refine yga (q_n (yib (J:=fun (x:Int)=>[dL 0 (eF eI) a0,pI 1 a1,pI 5 x,pL 15 a0,pI 16 x2.2]) (K:=fun x=>yfm x2 x=some o_x2) (fun x5 h=>?_) ?_))
  ·unfold yfm at h
   refine yub (r_gq [dL 0 (eF eI) a0,pI 1 a1,pI 5 x5,pL 15 a0,pI 16 (w64 (x2.2+1))] [] trivial) ?_
   exact lqn (x5,(w64 (x2.2+1))) h
  refine yfa (kG [dL 0 (eF eI) a0,pI 1 a1,pI 5 x2.1,pI 6 x2.2,pL 15 a0,pI 16 x2.2] [] trivial ?_)
  obtain⟨u6,hu6,h⟩:=bs h
  refine kG [dL 0 (eF eI) a0,pI 1 a1,pI 5 x2.1,pI 6 x2.2,vL 7 3 eI (List.replicate (Int.toNat (a0.length:Int)) (0:Int)),pL 15 a0,pI 16 x2.2] [hN 1 a0,(2,{fix:=some (vL 21 3 eI (List.replicate (Int.toNat (a0.length:Int)) (0:Int)))})] (A5 (lF (eF eI) a0) (show(a0.length:Int)=(a0.length:Int) from rfl) (yla hu6).1 (yla hu6).2 (show(SV.ov false [.sl (some 3) (List.replicate (Int.toNat (a0.length:Int)) [rI 0])]:SV)=.ov false [.sl (some 3) ((List.replicate (Int.toNat (a0.length:Int)) (0:Int)).map eI)] from(congrArg (fun z=>SV.ov false [.sl (some 3) z]) (yqh1 eI (0:Int))))) ?_
  obtain⟨v7,hv7,h⟩:=bs h
  refine kG [dL 0 (eF eI) a0,pI 1 a1,pI 5 x2.1,pI 6 x2.2,vL 7 3 eI ((List.replicate (Int.toNat (a0.length:Int)) (0:Int)).set (Int.toNat x2.2) 1),pL 15 a0,pI 16 x2.2] [hR 2 (eI v7),(3,{row:=some (eI v7),fix:=some (vL 7 3 eI ((List.replicate (Int.toNat (a0.length:Int)) (0:Int)).set (Int.toNat x2.2) 1))})] (A4 (yba hv7).1 (yca eI (yba hv7).2) (gW 3 eI hv7) (show(SV.ov false [.sl (some 3) (setL ((List.replicate (Int.toNat (a0.length:Int)) (0:Int)).map eI) [((Int.toNat x2.2),0)] [rI 1])]:SV)=.ov false [.sl (some 3) (((List.replicate (Int.toNat (a0.length:Int)) (0:Int)).set (Int.toNat x2.2) 1).map eI)] from(congrArg (fun z=>SV.ov false [.sl (some 3) z]) (set1 (f:=eI) (y:=1) (yba hv7).2 rfl)))) ?_
  refine yib (J:=fun (x:(List Int))=>[dL 0 (eF eI) a0,pI 1 a1,pI 5 x2.1,pI 6 x2.2,vL 7 3 eI x,pL 15 a0,pI 16 x2.2]) (K:=fun x=>ygm x2 x=some o_x2) (fun x8 h=>?_) ?_
  ·unfold ygm at h
   obtain⟨v9,hv9,h⟩:=bs h
   refine yub (r_gq [dL 0 (eF eI) a0,pI 1 a1,pI 5 (w64 (x2.1+v9)),pL 15 a0,pI 16 x2.2] [hR 3 (eI v9),hR 4 (eI v9)] (A3 (yba hv9).1 (yca eI (yba hv9).2) (gW 3 eI hv9))) ?_
   refine b_n (q_n ?_)
   exact jx (w64 (x2.1+v9)) h
  refine kG [dL 0 (eF eI) a0,pI 1 a1,pI 5 x2.1,pI 6 x2.2,vL 7 3 eI ((List.replicate (Int.toNat (a0.length:Int)) (0:Int)).set (Int.toNat x2.2) 1),pI 8 0,pL 15 a0,pI 16 x2.2] [] trivial ?_
  refine yfa ?_
  obtain⟨y11,hl_x10,hk_x10⟩:=bs h
  clear h
  refine yfc (J:=fun (x:((List Int)×Int))=>[dL 0 (eF eI) a0,pI 1 a1,pI 5 x2.1,pI 6 x2.2,vL 7 3 eI x.1,pI 8 x.2,pL 15 a0,pI 16 x2.2]) hl_x10 wkk (fun x10 o_x10 h hy_x10=>?_)
  unfold ysg at h
  refine yab (kG [dL 0 (eF eI) a0,pI 1 a1,pI 5 x2.1,pI 6 x2.2,vL 7 3 eI x10.1,pI 8 x10.2,pL 15 a0,pI 16 x2.2,pB 27 (decide (x10.2<a1))] [] trivial ?_)
  refine kI h (fun hc10_11 h=>?_) (fun hc10_11 h=>?_)
  ·refine yga (q_n (yib (J:=fun (x:(List Int))=>[dL 0 (eF eI) a0,pI 1 a1,pI 5 x2.1,pI 6 x2.2,vL 7 3 eI x,pI 8 x10.2,pL 15 a0,pI 16 x2.2]) (K:=fun x=>yhm x10 x=some o_x10) (fun x13 h=>?_) ?_))
   ·unfold yhm at h
    refine yub (r_gq [dL 0 (eF eI) a0,pI 1 a1,pI 5 x2.1,pI 6 x2.2,vL 7 3 eI x13,pI 8 (w64 (x10.2+1)),pL 15 a0,pI 16 x2.2] [] trivial) ?_
    exact lqn (x13,(w64 (x10.2+1))) h
   refine yfa (kG [dL 0 (eF eI) a0,pI 1 a1,pI 5 x2.1,pI 6 x2.2,vL 7 3 eI x10.1,pI 8 x10.2,vL 9 3 eI (List.replicate (Int.toNat (a0.length:Int)) (0:Int)),pL 15 a0,pI 16 x2.2] [hN 1 a0,(2,{fix:=some (vL 32 3 eI (List.replicate (Int.toNat (a0.length:Int)) (0:Int)))})] (A5 (lF (eF eI) a0) (show(a0.length:Int)=(a0.length:Int) from rfl) (yla hu6).1 (yla hu6).2 (show(SV.ov false [.sl (some 3) (List.replicate (Int.toNat (a0.length:Int)) [rI 0])]:SV)=.ov false [.sl (some 3) ((List.replicate (Int.toNat (a0.length:Int)) (0:Int)).map eI)] from(congrArg (fun z=>SV.ov false [.sl (some 3) z]) (yqh1 eI (0:Int))))) ?_)
   refine yib (J:=fun (x:(List Int))=>[dL 0 (eF eI) a0,pI 1 a1,pI 5 x2.1,pI 6 x2.2,pI 8 x10.2,vL 9 3 eI x,pL 15 a0,pI 16 x2.2]) (K:=fun x=>yim x10 x=some o_x10) (fun x14 h=>?_) ?_
   ·unfold yim at h
    refine yub (r_gq [dL 0 (eF eI) a0,pI 1 a1,pI 5 x2.1,pI 6 x2.2,vL 7 3 eI x14,pI 8 x10.2,pL 15 a0,pI 16 x2.2] [] trivial) ?_
    refine b_n (q_n ?_)
    exact jx x14 h
   refine kG [dL 0 (eF eI) a0,pI 1 a1,pI 5 x2.1,pI 6 x2.2,vL 7 3 eI x10.1,pI 8 x10.2,vL 9 3 eI (List.replicate (Int.toNat (a0.length:Int)) (0:Int)),pL 15 a0,pI 16 x2.2,rF 33 7,pL 34 x10.1,pI 35 0] [hN 1 x10.1] (A1 (lF eI x10.1)) ?_
   refine yfa ?_
   obtain⟨y16,hl_x15,hk_x15⟩:=bs h
   clear h
   refine yfc (J:=fun (x:((List Int)×Int))=>[dL 0 (eF eI) a0,pI 1 a1,pI 5 x2.1,pI 6 x2.2,vL 7 3 eI x10.1,pI 8 x10.2,vL 9 3 eI x.1,pL 15 a0,pI 16 x2.2,rF 33 7,pL 34 x10.1,pI 35 x.2]) hl_x15 wkk (fun x15 o_x15 h hy_x15=>?_)
   unfold yrg at h
   refine kG [dL 0 (eF eI) a0,pI 1 a1,pI 5 x2.1,pI 6 x2.2,vL 7 3 eI x10.1,pI 8 x10.2,vL 9 3 eI x15.1,pL 15 a0,pI 16 x2.2,rF 33 7,pL 34 x10.1,pI 35 x15.2,pB 36 (decide (x15.2<(x10.1.length:Int)))] [] trivial ?_
   refine yab (kI h (fun hc15_16 h=>?_) (fun hc15_16 h=>?_))
   ·refine yga (q_n (yib (J:=fun (x:(List Int))=>[dL 0 (eF eI) a0,pI 1 a1,pI 5 x2.1,pI 6 x2.2,vL 7 3 eI x10.1,pI 8 x10.2,vL 9 3 eI x,pL 15 a0,pI 16 x2.2,rF 33 7,pL 34 x10.1,pI 35 x15.2]) (K:=fun x=>yjm x15 x=some o_x15) (fun x18 h=>?_) ?_))
    ·unfold yjm at h
     refine yub (r_gq [dL 0 (eF eI) a0,pI 1 a1,pI 5 x2.1,pI 6 x2.2,vL 7 3 eI x10.1,pI 8 x10.2,vL 9 3 eI x18,pL 15 a0,pI 16 x2.2,rF 33 7,pL 34 x10.1,pI 35 (w64 (x15.2+1))] [] trivial) ?_
     exact lqn (x18,(w64 (x15.2+1))) h
    refine yfa ?_
    obtain⟨v19,hv19,h⟩:=bs h
    refine kG [dL 0 (eF eI) a0,pI 1 a1,pI 5 x2.1,pI 6 x2.2,vL 7 3 eI x10.1,pI 8 x10.2,vL 9 3 eI x15.1,pI 10 x15.2,pI 11 v19,pL 15 a0,pI 16 x2.2,rF 33 7,pL 34 x10.1,pI 35 x15.2] [hR 1 (eI v19),hR 2 (eI v19)] (A3 (yba hv19).1 (yca eI (yba hv19).2) (gW 3 eI hv19)) ?_
    obtain⟨v20,hv20,h⟩:=bs h
    refine kG [dL 0 (eF eI) a0,pI 1 a1,pI 5 x2.1,pI 6 x2.2,vL 7 3 eI x10.1,pI 8 x10.2,vL 9 3 eI x15.1,pI 11 v19,pL 15 a0,pI 16 x2.2,rF 33 7,pL 34 x10.1,pI 35 x15.2,dL 43 eI v20,pL 44 v20,pI 45 0] [hR 2 [.sl none (v20.map eI)],hN 4 v20] (A3 (yba hv20).1 (yca (eF eI) (yba hv20).2) (lF eI v20)) ?_
    refine yfa ?_
    obtain⟨y22,hl_x21,hk_x21⟩:=bs h
    clear h
    refine yfc (J:=fun (x:((List Int)×Int))=>[dL 0 (eF eI) a0,pI 1 a1,pI 5 x2.1,pI 6 x2.2,vL 7 3 eI x10.1,pI 8 x10.2,vL 9 3 eI x.1,pI 11 v19,pL 15 a0,pI 16 x2.2,rF 33 7,pL 34 x10.1,pI 35 x15.2,dL 43 eI v20,pL 44 v20,pI 45 x.2]) hl_x21 wkk (fun x21 o_x21 h hy_x21=>?_)
    unfold yqg at h
    refine kG [dL 0 (eF eI) a0,pI 1 a1,pI 5 x2.1,pI 6 x2.2,vL 7 3 eI x10.1,pI 8 x10.2,vL 9 3 eI x21.1,pI 11 v19,pL 15 a0,pI 16 x2.2,rF 33 7,pL 34 x10.1,pI 35 x15.2,dL 43 eI v20,pL 44 v20,pI 45 x21.2,pB 46 (decide (x21.2<(v20.length:Int)))] [] trivial ?_
    refine yab (kI h (fun hc19_22 h=>?_) (fun hc19_22 h=>?_))
    ·refine yga (q_n (yab (yfa ?_)))
     obtain⟨v24,hv24,h⟩:=bs h
     refine kG [dL 0 (eF eI) a0,pI 1 a1,pI 5 x2.1,pI 6 x2.2,vL 7 3 eI x10.1,pI 8 x10.2,vL 9 3 eI x21.1,pI 11 v19,pI 12 x21.2,pI 13 v24,pL 15 a0,pI 16 x2.2,rF 33 7,pL 34 x10.1,pI 35 x15.2,dL 43 eI v20,pL 44 v20,pI 45 x21.2] [hR 1 (eI v24)] (A2 (yba hv24).1 (yca eI (yba hv24).2)) ?_
     obtain⟨v25,hv25,h⟩:=bs h
     refine yub (r_gq [dL 0 (eF eI) a0,pI 1 a1,pI 5 x2.1,pI 6 x2.2,vL 7 3 eI x10.1,pI 8 x10.2,vL 9 3 eI (x21.1.set (Int.toNat x21.2) (w64 (v25+(w64 (v19*v24))))),pI 11 v19,pL 15 a0,pI 16 x2.2,rF 33 7,pL 34 x10.1,pI 35 x15.2,dL 43 eI v20,pL 44 v20,pI 45 x21.2] [hR 2 (eI v25),hR 3 (eI v25),hR 8 (eI v25),(9,{row:=some (eI v25),fix:=some (vL 9 3 eI (x21.1.set (Int.toNat x21.2) (w64 (v25+(w64 (v19*v24))))))})] (B6 (yba hv25).1 (yca eI (yba hv25).2) (gW 3 eI hv25) (yba hv25).1 (yca eI (yba hv25).2) (gW 3 eI hv25) (A1 (show(SV.ov false [.sl (some 3) (setL (x21.1.map eI) [((Int.toNat x21.2),0)] [rI (w64 (v25+(w64 (v19*v24))))])]:SV)=.ov false [.sl (some 3) ((x21.1.set (Int.toNat x21.2) (w64 (v25+(w64 (v19*v24))))).map eI)] from(congrArg (fun z=>SV.ov false [.sl (some 3) z]) (set1 (f:=eI) (y:=(w64 (v25+(w64 (v19*v24))))) (yba hv25).2 rfl)))))) ?_
     refine b_n (q_n (yub (r_gq [dL 0 (eF eI) a0,pI 1 a1,pI 5 x2.1,pI 6 x2.2,vL 7 3 eI x10.1,pI 8 x10.2,vL 9 3 eI (x21.1.set (Int.toNat x21.2) (w64 (v25+(w64 (v19*v24))))),pI 11 v19,pL 15 a0,pI 16 x2.2,rF 33 7,pL 34 x10.1,pI 35 x15.2,dL 43 eI v20,pL 44 v20,pI 45 (w64 (x21.2+1))] [] trivial) ?_))
     exact lqn ((x21.1.set (Int.toNat x21.2) (w64 (v25+(w64 (v19*v24))))),(w64 (x21.2+1))) h
    refine ywb (q_x (lq_x (b_x (b_n ?_))))
    have hyy:=hy_x21 _ (oi h).symm
    subst hyy
    have h:=hk_x21
    refine q_n ?_
    exact jx x21.1 h
   refine ywb (q_x (lq_x (b_x ?_)))
   have hyy:=hy_x15 _ (oi h).symm
   subst hyy
   have h:=hk_x15
   refine q_n ?_
   exact jx x15.1 h
  refine ywb (q_x (lq_x (b_x ?_)))
  have hyy:=hy_x10 _ (oi h).symm
  subst hyy
  have h:=hk_x10
  refine q_n ?_
  exact jx x10.1 h
 refine ywb (q_x (lq_x (b_x ?_)))
 have hyy:=hy_x2 _ (oi h).symm
 subst hyy
 have h:=hk_x2
 refine q_n ?_
 exact jx x2.1 h
theorem yay {rc:((List (List Int))->Int->Option Int)} {a0:(List (List Int))} {a1:Int} (hrc:∀ x0 x1 y,rc x0 x1=some y->Meets Tryz.prog 66 [.d false [.sl none (x0.map (eF eI))],wI x1] { vals:=[.p (iV y)] }) {r:Int} (h:yph rc a0 a1=some r):Meets Tryz.prog 66 [.d false [.sl none (a0.map (eF eI))],wI a1] { vals:=[.p (iV r)] }:=by
 refine mo Tryz.func66 [dL 0 (eF eI) a0,pI 1 a1] ?_
 unfold yph at h
 refine kG [dL 0 (eF eI) a0,pI 1 a1] [] trivial ?_
 obtain⟨v1,hv1,h⟩:=bs h
 refine kG [dL 0 (eF eI) a0,pI 1 a1,pI 5 v1] [hC 2 [.p (iV v1)]] (A1 (ylz hv1)) ?_
 refine yib (J:=fun (x:Int)=>[pI 1 a1,pI 5 x]) (K:=fun x=>yyh a1 x=some r) (fun x2 h=>?_) ?_
 ·unfold yyh at h
  obtain⟨u3,hu3,h⟩:=bs h
  refine kG [pI 4 (w64 (Int.tdiv x2 a1))] [] (A1 (yla hu3)) ?_
  refine yra ?_
  obtain rfl:=oi h
  exact er [(.p (iV (w64 (Int.tdiv x2 a1))),4)]
 refine kG [dL 0 (eF eI) a0,pI 1 a1,pI 5 v1,pI 6 1] [] trivial ?_
 refine yfa ?_
 obtain⟨y5,hl_x4,hk_x4⟩:=bs h
 clear h
 refine yfc (J:=fun (x:Qr)=>[dL 0 (eF eI) a0,pI 1 a1,pI 5 x.1,pI 6 x.2]) hl_x4 wkk (fun x4 o_x4 h hy_x4=>?_)
 unfold yzc at h
 refine yab (kG [dL 0 (eF eI) a0,pI 1 a1,pI 5 x4.1,pI 6 x4.2,pB 12 (decide (x4.2<a1))] [] trivial ?_)
 refine kI h (fun hc5_5 h=>?_) (fun hc5_5 h=>?_)
 ·refine yga (q_n (yab (yfa ?_)))
  obtain⟨u7,hu7,h⟩:=bs h
  refine kG [dL 0 (eF eI) a0,pI 1 a1,pI 5 x4.1,pI 6 x4.2,pB 18 ((Int.tmod a1 x4.2)==0)] [] (A1 (yla hu7)) ?_
  refine kI h (fun hc6_7 h=>?_) (fun hc6_7 h=>?_)
  ·obtain⟨v9,hv9,h⟩:=bs h
   refine yub (r_gq [dL 0 (eF eI) a0,pI 1 a1,pI 5 (w64 (x4.1-(w64 (x4.2*v9)))),pI 6 x4.2] [hC 4 [.p (iV v9)]] (A1 (hrc _ _ _ hv9))) ?_
   refine b_n (q_n (yub (r_gq [dL 0 (eF eI) a0,pI 1 a1,pI 5 (w64 (x4.1-(w64 (x4.2*v9)))),pI 6 (w64 (x4.2+1))] [] trivial) ?_))
   exact lqn ((w64 (x4.1-(w64 (x4.2*v9)))),(w64 (x4.2+1))) h
  refine yga (b_n (q_n (yub (r_gq [dL 0 (eF eI) a0,pI 1 a1,pI 5 x4.1,pI 6 (w64 (x4.2+1))] [] trivial) ?_)))
  exact lqn (x4.1,(w64 (x4.2+1))) h
 refine ywb (q_x (lq_x (b_x ?_)))
 have hyy:=hy_x4 _ (oi h).symm
 subst hyy
 have h:=hk_x4
 refine q_n ?_
 exact jx x4.1 h
theorem yss:∀ (k:Nat) {a0:(List (List Int))} {a1:Int} {r:Int} (h:ykm k a0 a1=some r),Meets Tryz.prog 66 [.d false [.sl none (a0.map (eF eI))],wI a1] { vals:=[.p (iV r)] }
 | 0,_,_,_,h=>by cases h
 | k+1,_,_,_,h=>yay (fun _ _ _ hy=>yss k hy) h
theorem yja1 {a0:(List (List Int))} {a1:Int} {r:Int} (h:ybv a0 a1=some r):Meets Tryz.prog 66 [.d false [.sl none (a0.map (eF eI))],wI a1] { vals:=[.p (iV r)] }:=by
 obtain⟨k,hk⟩:=yhl1 h
 exact yss k hk
theorem yzw {a0:(List Qp)} {a1:(List Qp)} {a2:Int}  {r:(Int×Bool)} (h:yhk a0 a1 a2=some r):Meets Tryz.prog 21 [.d false (sP a0),.d false (sP a1),wI a2] { vals:=[.p (iV r.1),.p (.bool r.2)] }:=by
 refine mo Tryz.func21 [dP 0 a0,dP 1 a1,pI 2 a2] ?_
 unfold yhk at h
 refine kG [dP 0 a0,dP 1 a1,pI 2 a2] [] trivial ?_
 refine yab ?_
 obtain⟨v1,hv1,h⟩:=bs h
 obtain⟨w3,hw3,h⟩:=bs h
 refine yza (l1:=[dP 0 a0,dP 1 a1,pI 2 a2,pB 18 w3]) ?_ ?_
 ·clear h
  rcases ft (!v1) with ha0 | ha0
  ·replace hw3:=yrh ha0 hw3
   have hw3:=oi hw3
   subst hw3
   exact(r_gq [dP 0 a0,dP 1 a1,pI 2 a2,pB 18 true] [hC 2 [.p (.bool v1)],(5,gT),(6,gT),(7,gT),(8,bT)] (A5 (yyd hv1) ha0 ha0 ha0 ha0))
  obtain⟨v2,hv2,hw3⟩:=bs (ysh ha0 hw3)
  have hw3:=oi hw3
  subst hw3
  exact(r_gq [dP 0 a0,dP 1 a1,pI 2 a2,pB 18 (!v2)] [hC 2 [.p (.bool v1)],(5,gF),(6,(gN [.p (.bool v2)])),(7,gF),(8,bF)] (A6 (yyd hv1) ha0 ha0 (ykz hv2) ha0 ha0))
 refine kI h (fun hc2_3 h=>?_) (fun hc2_3 h=>?_)
 ·refine kG [pI 6 0,pB 7 false] [] trivial ?_
  refine yra (q_r ?_)
  obtain rfl:=oi h
  exact er [(.p (iV 0),6),(.p (.bool false),7)]
 refine yga (q_n ?_)
 obtain⟨v5,hv5,h⟩:=bs h
 refine kG [pI 2 a2,vL 8 32 (eO 3 eI) v5.1,pB 9 v5.2] [hC 2 [rO 32 (eO 3 eI) v5.1,.p (.bool v5.2)]] (A2 (yyw hv5) (show List.all [rO 32 (eO 3 eI) v5.1,.p (.bool v5.2)] simpleR=true from(sa_o (wnR1 (yge (wn_O wn_I)) rfl) (sa_p rfl)))) ?_
 refine yab (kG [pI 2 a2,vL 8 32 (eO 3 eI) v5.1,pB 26 (!v5.2)] [] trivial ?_)
 refine kI h (fun hc2_5 h=>?_) (fun hc2_5 h=>?_)
 ·refine kG [pI 6 0,pB 7 false] [] trivial ?_
  refine yra (q_r ?_)
  obtain rfl:=oi h
  exact er [(.p (iV 0),6),(.p (.bool false),7)]
 refine yga (q_n ?_)
 obtain⟨v7,hv7,h⟩:=bs h
 refine kG [pI 6 v7,pB 7 true] [(2,(cS [.d false [.sl none (v5.1.map (eF eI))],wI a2] [.p (iV v7)]))] (A2 (show([.d false [.sl none (eraL (v5.1.map (eO 3 eI)))],wI a2]:List Arg)=[.d false [.sl none (v5.1.map (eF eI))],wI a2] from(by simp only[yua (h:=(eF eI)) (yvy1 er_I)])) (yja1 hv7)) ?_
 refine yra ?_
 obtain rfl:=oi h
 exact er [(.p (iV v7),6),(.p (.bool true),7)]
theorem yws {a0:(List Int)}  {r:((List Qp)×Qp×Qp)} (h:yoe a0=some r):Meets Tryz.prog 22 [.d false [.sl none (a0.map (eU .u8))]] { vals:=[.d false (sP r.1),.p (vPt r.2.1),.p (vPt r.2.2)] }:=by
 refine mo Tryz.func22 [dL 0 (eU .u8) a0] ?_
 unfold yoe at h
 refine kG [dL 0 (eU .u8) a0,bX 3 zQ,bX 4 zQ] [] trivial ?_
 refine kG [bX 3 zQ,bX 4 zQ,(5,.addr 18 [(0,0)]),bC 18 (a0,0,0)] [] trivial ?_
 refine yib (J:=fun (x:Cu)=>[bX 3 zQ,bX 4 zQ,(5,.addr 18 [(0,0)]),bC 18 x]) (K:=fun x=>yse x=some r) (fun x1 h=>?_) ?_
 ·unfold yse at h
  obtain⟨v2,hv2,h⟩:=bs h
  refine kG [bX 3 zQ,bX 4 zQ,(5,.addr 18 [(0,0)]),vP 15 96 v2.1,bC 18 v2.2] [hF 1 [.ov false (oP 96 v2.1)] (.box (eCu v2.2))] (A1 (ykl hv2)) ?_
  obtain⟨v3,hv3,h⟩:=bs h
  obtain⟨v4,hv4,h⟩:=bs h
  refine kG [dP 2 v2.1,bP 3 v3.1,bP 4 v4.1] [(3,{lend:=some (some [.d false (sP v2.1)],[.p (vPt v3.1)],.box (eCu v3.2),false),fix:=some (dP 15 v2.1)}),hF 6 [.p (vPt v4.1)] (.box (eCu v4.2))] (A4 (show([.d false [.sl none (eraL (v2.1.map ePt))]]:List Arg)=[.d false (sP v2.1)] from(by simp only[erPt])) (yih hv3) (show(SV.d false (eraR (oP 96 v2.1)):SV)=.d false (sP v2.1) from(congrArg (fun z=>SV.d false z) (ycp (yua (yku (yku er_I er_I) (yku er_I er_I))) rfl))) (yih hv4)) ?_
  refine yra ?_
  obtain rfl:=oi h
  exact er [(.d false (sP v2.1),2),(.p (vPt v3.1),3),(.p (vPt v4.1),4)]
 obtain⟨v5,hv5,h⟩:=bs h
 refine kG [bX 3 zQ,bX 4 zQ,(5,.addr 18 [(0,0)]),bC 18 v5.2,pB 20 v5.1] [hF 1 [.p (.bool v5.1)] (.box (eCu v5.2))] (A1 (yeb hv5)) ?_
 refine kI h (fun hc2_5 h=>?_) (fun hc2_5 h=>?_)
 ·obtain⟨v7,hv7,h⟩:=bs h
  refine kG [bX 3 zQ,bX 4 zQ,pI 6 v7.1] [(2,{lend:=some (some [.d false [.sl none (([2,3,4]).map eI)]],[.p (iV v7.1)],.box (eCu v7.2),false),fix:=some (dL 22 eI ([2,3,4]))})] (A3 (show([.d false [.sl none (eraL (([2,3,4]).map eI))]]:List Arg)=[.d false [.sl none (([2,3,4]).map eI)]] from(by simp only[yua (h:=eI) er_I])) (ypa hv7) (show(SV.d false (eraR [.sl (some 3) (([2,3,4]).map eI)]):SV)=.d false [.sl none (([2,3,4]).map eI)] from(congrArg (fun z=>SV.d false z) (ycp (yua er_I) rfl)))) ?_
  refine kG [bX 3 zQ,bX 4 zQ,pI 6 v7.1,vN 7 96] [] trivial ?_
  refine yib (J:=fun (x:(List Qp))=>[bX 3 zQ,bX 4 zQ,pI 6 v7.1,vP 7 96 x]) (K:=fun x=>yte v7 x=some r) (fun x8 h=>?_) ?_
  ·unfold yte at h
   obtain⟨v9,hv9,h⟩:=bs h
   refine kG [bX 3 zQ,bX 4 zQ,pI 6 v7.1,vP 7 96 x8,bR 11 v9.1] [hC 1 [.p (vRt v9.1),.p (.bool v9.2)]] (A1 (ykb hv9)) ?_
   obtain⟨v10,hv10,h⟩:=bs h
   refine kG [bX 3 zQ,bX 4 zQ,vP 7 96 x8,bR 11 v9.1,bR 13 v10.1] [hC 3 [.p (vRt v10.1),.p (.bool v10.2)]] (A1 (ykb hv10)) ?_
   refine yha2 7 (g:=false) (cs:=(oP 96 x8)) (sP x8) [bX 3 zQ,bX 4 zQ,dP 7 x8,bR 11 v9.1,bR 13 v10.1] (ycp (yua (yku (yku er_I er_I) (yku er_I er_I))) rfl) ?_
   obtain⟨v11,hv11,h⟩:=bs h
   obtain⟨v12,hv12,h⟩:=bs h
   refine yza (r_dq yda 9 [(8,3)] [dP 2 x8,bX 3 [rI v11.1,rI v11.2,rI v9.1.1,rI v9.1.2],bX 4 [rI v10.1.1,rI v10.1.2,rI v12.1,rI v12.2]] [hC 1 [.p (vRt v11)],hC 5 [.p (vRt v12)]] (A2 (ydb hv11) (ydb hv12))) ?_
   refine yra (q_r ?_)
   obtain rfl:=oi h
   exact er [(.d false (sP x8),2),(.p (.agg #[.int .i64 v11.1,.int .i64 v11.2,.int .i64 v9.1.1,.int .i64 v9.1.2]),3),(.p (.agg #[.int .i64 v10.1.1,.int .i64 v10.1.2,.int .i64 v12.1,.int .i64 v12.2]),4)]
  refine kG [bX 3 zQ,bX 4 zQ,pI 6 v7.1,vN 7 96,pI 8 0] [] trivial ?_
  refine yfa ?_
  obtain⟨y14,hl_x13,hk_x13⟩:=bs h
  clear h
  refine yfc (J:=fun (x:((List Qp)×Int))=>[bX 3 zQ,bX 4 zQ,pI 6 v7.1,vP 7 96 x.1,pI 8 x.2]) hl_x13 wkk (fun x13 o_x13 h hy_x13=>?_)
  unfold yii at h
  refine yab (kG [bX 3 zQ,bX 4 zQ,pI 6 v7.1,vP 7 96 x13.1,pI 8 x13.2,pB 26 (decide (x13.2<=v7.1))] [] trivial ?_)
  refine kI h (fun hc6_14 h=>?_) (fun hc6_14 h=>?_)
  ·refine yga (q_n (yab (yfa ?_)))
   obtain⟨v16,hv16,h⟩:=bs h
   refine kG [bX 3 zQ,bX 4 zQ,pI 6 v7.1,vP 7 96 x13.1,pI 8 x13.2,bR 9 v16.1] [hC 2 [.p (vRt v16.1),.p (.bool v16.2)]] (A1 (ykb hv16)) ?_
   obtain⟨v17,hv17,h⟩:=bs h
   obtain⟨u18,hu18,h⟩:=bs h
   refine yub (r_dq yda 7 [] [bX 3 zQ,bX 4 zQ,pI 6 v7.1,vP 7 96 (x13.1++[(v16.1,v17)]),pI 8 x13.2] [hC 4 [.p (vRt v17)],(7,{fix:=some (vP 42 96 (x13.1++[(v16.1,v17)]))})] (A5 (show 2≠(0:Int) from(by decide)) (ydb hv17) (lG' ePt hu18) (show ∀ row∈((([(v16.1,v17)]).map ePt):List (List C)),row.length=4 from(ycc fun _=>rfl)) (aP' 96 ePt x13.1 ([(v16.1,v17)])))) ?_
   refine b_n (q_n (yub (r_gq [bX 3 zQ,bX 4 zQ,pI 6 v7.1,vP 7 96 (x13.1++[(v16.1,v17)]),pI 8 (w64 (x13.2+1))] [] trivial) ?_))
   exact lqn ((x13.1++[(v16.1,v17)]),(w64 (x13.2+1))) h
  refine ywb (q_x (lq_x (b_x ?_)))
  have hyy:=hy_x13 _ (oi h).symm
  subst hyy
  have h:=hk_x13
  refine q_n ?_
  exact jx x13.1 h
 refine yga (q_n ?_)
 exact jx v5.2 h
theorem ypx {a0:Qp} {a1:Qp}  {r:Bool} (h:yyt a0 a1=some r):Meets Tryz.prog 73 [.v (vPt a0),.v (vPt a1)] { vals:=[.p (.bool r)] }:=by
 refine mo Tryz.func73 [(0,.p (vPt a0)),(1,.p (vPt a1))] ?_
 unfold yyt at h
 refine kG [bP 2 a0,bP 3 a1] [] trivial ?_
 obtain⟨v1,hv1,h⟩:=bs h
 obtain⟨w3,hw3,h⟩:=bs h
 refine yza (l1:=[pB 4 w3]) ?_ ?_
 ·clear h
  rcases ft (!v1) with ha0 | ha0
  ·obtain⟨v2,hv2,hw3⟩:=bs (yrh ha0 hw3)
   have hw3:=oi hw3
   subst hw3
   exact(r_gq [pB 4 (!v2)] [hC 4 [.p (.bool v1)],(7,gT),(8,gT),(9,gT),(10,gT),(11,{g:=some true,call:=some (none,[.p (.bool v2)],true)}),(12,gT),(13,bT)] (B6 (ydc hv1) ha0 ha0 ha0 ha0 ha0 (A3 (ydc hv2) ha0 ha0)))
  replace hw3:=ysh ha0 hw3
  have hw3:=oi hw3
  subst hw3
  exact(r_gq [pB 4 false] [hC 4 [.p (.bool v1)],(7,gF),(8,gF),(9,gF),(10,gF),(11,gF),(12,gF),(13,bF)] (B6 (ydc hv1) ha0 ha0 ha0 ha0 ha0 (A2 ha0 ha0)))
 refine yra ?_
 obtain rfl:=oi h
 exact er [(.p (.bool w3),4)]
theorem ygq {a0:(List Qp)} {a1:Qp} {a2:Qp}  {r:(Bool×Bool)} (h:ywc a0 a1 a2=some r):Meets Tryz.prog 23 [.d false (sP a0),.v (vPt a1),.v (vPt a2)] { vals:=[.p (.bool r.1),.p (.bool r.2)] }:=by
 refine mo Tryz.func23 [dP 0 a0,(1,.p (vPt a1)),(2,.p (vPt a2))] ?_
 unfold ywc at h
 refine kG [dP 0 a0,bP 4 a1,bP 5 a2] [] trivial ?_
 obtain⟨v1,hv1,h⟩:=bs h
 refine kG [bP 4 a1,bP 5 a2,vL 8 32 (eO 3 eI) v1.1,pB 9 v1.2] [(4,(cS [.d false (sP a0),.d false (sP ([a1,a2]))] [rO 32 (eO 3 eI) v1.1,.p (.bool v1.2)]))] (A3 (show([.d false (sP a0),.d false [.sl none (eraL (([a1,a2]).map ePt))]]:List Arg)=[.d false (sP a0),.d false (sP ([a1,a2]))] from(by simp only[erPt])) (yhr hv1) (show List.all [rO 32 (eO 3 eI) v1.1,.p (.bool v1.2)] simpleR=true from(sa_o (wnR1 (yge (wn_O wn_I)) rfl) (sa_p rfl)))) ?_
 refine yab (kG [bP 4 a1,bP 5 a2,vL 8 32 (eO 3 eI) v1.1,pB 19 (!v1.2)] [] trivial ?_)
 refine kI h (fun hc2_1 h=>?_) (fun hc2_1 h=>?_)
 ·refine kG [pB 6 false,pB 7 false] [] trivial ?_
  refine yra (q_r ?_)
  obtain rfl:=oi h
  exact er [(.p (.bool false),6),(.p (.bool false),7)]
 refine yga (q_n ?_)
 obtain⟨v3,hv3,h⟩:=bs h
 obtain⟨w10,hw10,h⟩:=bs h
 refine yza (l1:=[pB 6 w10,pB 7 true]) ?_ ?_
 ·clear h
  rcases ft (!v3) with ha1 | ha1
  ·obtain⟨v4,hv4,hw10⟩:=bs (yrh ha1 hw10)
   obtain⟨v5,hv5,hw10⟩:=bs hw10
   obtain⟨v6,hv6,hw10⟩:=bs hw10
   obtain⟨v7,hv7,hw10⟩:=bs hw10
   obtain⟨v8,hv8,hw10⟩:=bs hw10
   obtain⟨v9,hv9,hw10⟩:=bs hw10
   have hw10:=oi hw10
   subst hw10
   exact(r_dq yda 27 [] [pB 6 ((w64 ((w64 ((w64 (v5+v6))+v8))+v9))==4),pB 7 true] [hC 2 [.p (.bool v3)],(5,gT),(6,{g:=some true,row:=some [.sl (some 3) (v4.map eI)]}),(7,{g:=some true,row:=some [.sl (some 3) (v4.map eI)]}),(8,{g:=some true,deep:=some [.sl (some 3) (v4.map eI)],row:=some (eI v5)}),(9,{g:=some true,row:=some (eI v5)}),(10,gT),(11,{g:=some true,row:=some [.sl (some 3) (v4.map eI)]}),(12,{g:=some true,row:=some [.sl (some 3) (v4.map eI)]}),(13,{g:=some true,deep:=some [.sl (some 3) (v4.map eI)],row:=some (eI v6)}),(14,{g:=some true,row:=some (eI v6)}),(15,gT),(16,gT),(17,{g:=some true,row:=some [.sl (some 3) (v7.map eI)]}),(18,{g:=some true,row:=some [.sl (some 3) (v7.map eI)]}),(19,{g:=some true,deep:=some [.sl (some 3) (v7.map eI)],row:=some (eI v8)}),(20,{g:=some true,row:=some (eI v8)}),(21,gT),(22,gT),(23,{g:=some true,row:=some [.sl (some 3) (v7.map eI)]}),(24,{g:=some true,row:=some [.sl (some 3) (v7.map eI)]}),(25,{g:=some true,deep:=some [.sl (some 3) (v7.map eI)],row:=some (eI v9)}),(26,{g:=some true,row:=some (eI v9)}),(27,gT),(28,gT),(29,bT)] (B6 (ypx hv3) ha1 ha1 (yba hv4).1 (yca (eO 3 eI) (yba hv4).2) ha1 (B6 (show frR [.sl (some 3) (v4.map eI)]=false from rfl) (gW 32 (eO 3 eI) hv4) ha1 (yba hv5).1 (yca eI (yba hv5).2) (gW 32 (eO 3 eI) hv4) (B6 ha1 (show getRow [[.sl (some 32) (v1.1.map (eO 3 eI))]] [(0,0),((Int.toNat 0),0),((Int.toNat 0),0)]=some (eI v5) from((gr0 rfl).trans ((grs (yca (eO 3 eI) (yba hv4).2) rfl).trans (gre (yca eI (yba hv5).2))))) ha1 ha1 (yba hv4).1 (yca (eO 3 eI) (yba hv4).2) (B6 ha1 (show frR [.sl (some 3) (v4.map eI)]=false from rfl) (gW 32 (eO 3 eI) hv4) ha1 (yba hv6).1 (yca eI (yba hv6).2) (B6 (gW 32 (eO 3 eI) hv4) ha1 (show getRow [[.sl (some 32) (v1.1.map (eO 3 eI))]] [(0,0),((Int.toNat 0),0),((Int.toNat 1),0)]=some (eI v6) from((gr0 rfl).trans ((grs (yca (eO 3 eI) (yba hv4).2) rfl).trans (gre (yca eI (yba hv6).2))))) ha1 ha1 ha1 (B6 (yba hv7).1 (yca (eO 3 eI) (yba hv7).2) ha1 (show frR [.sl (some 3) (v7.map eI)]=false from rfl) (gW 32 (eO 3 eI) hv7) ha1 (B6 (yba hv8).1 (yca eI (yba hv8).2) (gW 32 (eO 3 eI) hv7) ha1 (show getRow [[.sl (some 32) (v1.1.map (eO 3 eI))]] [(0,0),((Int.toNat 1),0),((Int.toNat 0),0)]=some (eI v8) from((gr0 rfl).trans ((grs (yca (eO 3 eI) (yba hv7).2) rfl).trans (gre (yca eI (yba hv8).2))))) ha1 (B6 ha1 ha1 (yba hv7).1 (yca (eO 3 eI) (yba hv7).2) ha1 (show frR [.sl (some 3) (v7.map eI)]=false from rfl) (B6 (gW 32 (eO 3 eI) hv7) ha1 (yba hv9).1 (yca eI (yba hv9).2) (gW 32 (eO 3 eI) hv7) ha1 (A4 (show getRow [[.sl (some 32) (v1.1.map (eO 3 eI))]] [(0,0),((Int.toNat 1),0),((Int.toNat 1),0)]=some (eI v9) from((gr0 rfl).trans ((grs (yca (eO 3 eI) (yba hv7).2) rfl).trans (gre (yca eI (yba hv9).2))))) ha1 ha1 ha1)))))))))))
  replace hw10:=ysh ha1 hw10
  have hw10:=oi hw10
  subst hw10
  exact(r_dq yda 27 [] [pB 6 false,pB 7 true] [hC 2 [.p (.bool v3)],(5,gF),(6,gF),(7,gF),(8,gF),(9,gF),(10,gF),(11,gF),(12,gF),(13,gF),(14,gF),(15,gF),(16,gF),(17,gF),(18,gF),(19,gF),(20,gF),(21,gF),(22,gF),(23,gF),(24,gF),(25,gF),(26,gF),(27,gF),(28,gF),(29,bF)] (B6 (ypx hv3) ha1 ha1 ha1 ha1 ha1 (B6 ha1 ha1 ha1 ha1 ha1 ha1 (B6 ha1 ha1 ha1 ha1 ha1 ha1 (B6 ha1 ha1 ha1 ha1 ha1 ha1 (A2 ha1 ha1))))))
 refine yra ?_
 obtain rfl:=oi h
 exact er [(.p (.bool w10),6),(.p (.bool true),7)]
theorem yka1 {a0:Qp} {a1:Qp}  {r:Bool} (h:yaq a0 a1=some r):Meets Tryz.prog 76 [.v (vPt a0),.v (vPt a1)] { vals:=[.p (.bool r)] }:=by
 refine mo Tryz.func76 [(0,.p (vPt a0)),(1,.p (vPt a1))] ?_
 unfold yaq at h
 refine kG [bP 2 a0,bP 3 a1] [] trivial ?_
 obtain⟨v1,hv1,h⟩:=bs h
 obtain⟨w3,hw3,h⟩:=bs h
 refine yza (l1:=[pB 4 w3]) ?_ ?_
 ·clear h
  rcases ft (decide (v1<0)) with ha0 | ha0
  ·replace hw3:=yrh ha0 hw3
   have hw3:=oi hw3
   subst hw3
   exact(r_gq [pB 4 true] [hC 4 [.p (iV v1)],(7,gT),(8,gT),(9,gT),(10,gT),(11,gT),(12,gT),(13,bT)] (B6 (yta hv1) ha0 ha0 ha0 ha0 ha0 (A2 ha0 ha0)))
  obtain⟨v2,hv2,hw3⟩:=bs (ysh ha0 hw3)
  have hw3:=oi hw3
  subst hw3
  exact(r_gq [pB 4 (decide (v2<0))] [hC 4 [.p (iV v1)],(7,gF),(8,gF),(9,gF),(10,gF),(11,(gN [.p (iV v2)])),(12,gF),(13,bF)] (B6 (yta hv1) ha0 ha0 ha0 ha0 ha0 (A3 (yta hv2) ha0 ha0)))
 refine yra ?_
 obtain rfl:=oi h
 exact er [(.p (.bool w3),4)]
theorem yaw {a0:(List Qp)} {a1:Qp} {a2:Qp}  {r:(Bool×Bool)} (h:yod a0 a1 a2=some r):Meets Tryz.prog 24 [.d false (sP a0),.v (vPt a1),.v (vPt a2)] { vals:=[.p (.bool r.1),.p (.bool r.2)] }:=by
 refine mo Tryz.func24 [dP 0 a0,(1,.p (vPt a1)),(2,.p (vPt a2))] ?_
 unfold yod at h
 refine kG [dP 0 a0,bP 4 a1,bP 5 a2] [] trivial ?_
 refine yab ?_
 obtain⟨v1,hv1,h⟩:=bs h
 obtain⟨w4,hw4,h⟩:=bs h
 refine yza (l1:=[dP 0 a0,bP 4 a1,bP 5 a2,pB 27 w4]) ?_ ?_
 ·clear h
  rcases ft (!v1) with ha0 | ha0
  ·replace hw4:=yrh ha0 hw4
   have hw4:=oi hw4
   subst hw4
   exact(r_gq [dP 0 a0,bP 4 a1,bP 5 a2,pB 27 true] [hC 1 [.p (.bool v1)],(4,gT),(5,gT),(6,gT),(7,bT),(9,gT),(10,gT),(11,gT),(12,bT)] (B6 (ymf hv1) ha0 ha0 ha0 ha0 tT (A3 tT tT tT)))
  obtain⟨v2,hv2,hw4⟩:=bs (ysh ha0 hw4)
  rcases ft (!v2) with ha1 | ha1
  ·replace hw4:=yrh ha1 hw4
   have hw4:=oi hw4
   subst hw4
   exact(r_gq [dP 0 a0,bP 4 a1,bP 5 a2,pB 27 true] [hC 1 [.p (.bool v1)],(4,gF),(5,(gN [.p (.bool v2)])),(6,gF),(7,bF),(9,gT),(10,gT),(11,gT),(12,bT)] (B6 (ymf hv1) ha0 ha0 (ymo hv2) ha0 ha0 (A4 ha1 ha1 ha1 ha1)))
  obtain⟨v3,hv3,hw4⟩:=bs (ysh ha1 hw4)
  have hw4:=oi hw4
  subst hw4
  exact(r_gq [dP 0 a0,bP 4 a1,bP 5 a2,pB 27 (!v3)] [hC 1 [.p (.bool v1)],(4,gF),(5,(gN [.p (.bool v2)])),(6,gF),(7,bF),(9,gF),(10,(gN [.p (.bool v3)])),(11,gF),(12,bF)] (B6 (ymf hv1) ha0 ha0 (ymo hv2) ha0 ha0 (A5 ha1 ha1 (ymo hv3) ha1 ha1)))
 refine kI h (fun hc2_4 h=>?_) (fun hc2_4 h=>?_)
 ·refine kG [pB 6 false,pB 7 false] [] trivial ?_
  refine yra (q_r ?_)
  obtain rfl:=oi h
  exact er [(.p (.bool false),6),(.p (.bool false),7)]
 refine yga (q_n ?_)
 obtain⟨v6,hv6,h⟩:=bs h
 refine kG [dP 0 a0,bP 4 a1,bP 5 a2,pB 8 v6] [hC 2 [.p (.bool v6)]] (A1 (yka1 hv6)) ?_
 refine yib (J:=fun (x:Bool)=>[pB 8 x]) (K:=fun x=>yoi x=some r) (fun x7 h=>?_) ?_
 ·unfold yoi at h
  refine kG [pB 6 x7,pB 7 true] [] trivial ?_
  refine yra ?_
  obtain rfl:=oi h
  exact er [(.p (.bool x7),6),(.p (.bool true),7)]
 refine kG [dP 0 a0,bP 4 a1,bP 5 a2,pB 8 v6,vP 33 40 ([a1,a2]),pL 34 ([a1,a2]),pI 35 0] [hN 3 ([a1,a2])] (A1 (lF ePt ([a1,a2]))) ?_
 refine yfa ?_
 obtain⟨y9,hl_x8,hk_x8⟩:=bs h
 clear h
 refine yfc (J:=fun (x:(Bool×Int))=>[dP 0 a0,bP 4 a1,bP 5 a2,pB 8 x.1,vP 33 40 ([a1,a2]),pL 34 ([a1,a2]),pI 35 x.2]) hl_x8 wkk (fun x8 o_x8 h hy_x8=>?_)
 unfold yyf at h
 refine kG [dP 0 a0,bP 4 a1,bP 5 a2,pB 8 x8.1,vP 33 40 ([a1,a2]),pL 34 ([a1,a2]),pI 35 x8.2,pB 36 (decide (x8.2<(([a1,a2]).length:Int)))] [] trivial ?_
 refine yab (kI h (fun hc5_9 h=>?_) (fun hc5_9 h=>?_))
 ·refine yga (q_n (yib (J:=fun (x:Bool)=>[dP 0 a0,bP 4 a1,bP 5 a2,pB 8 x,vP 33 40 ([a1,a2]),pL 34 ([a1,a2]),pI 35 x8.2]) (K:=fun x=>yxf x8 x=some o_x8) (fun x11 h=>?_) ?_))
  ·unfold yxf at h
   refine yub (r_gq [dP 0 a0,bP 4 a1,bP 5 a2,pB 8 x11,vP 33 40 ([a1,a2]),pL 34 ([a1,a2]),pI 35 (w64 (x8.2+1))] [] trivial) ?_
   exact lqn (x11,(w64 (x8.2+1))) h
  refine yfa ?_
  obtain⟨v12,hv12,h⟩:=bs h
  refine kG [dP 0 a0,bP 4 a1,bP 5 a2,pB 8 x8.1,bP 10 v12,vP 33 40 ([a1,a2]),pL 34 ([a1,a2]),pI 35 x8.2] [hR 0 (ePt v12),hR 1 (ePt v12)] (A3 (yba hv12).1 (yca ePt (yba hv12).2) (gW 40 ePt hv12)) ?_
  refine kG [dP 0 a0,bP 4 a1,bP 5 a2,pB 8 x8.1,bP 10 v12,vP 33 40 ([a1,a2]),pL 34 ([a1,a2]),pI 35 x8.2,vP 41 40 ([a1,a2]),pL 42 ([a1,a2]),pI 43 0] [hN 3 ([a1,a2])] (A1 (lF ePt ([a1,a2]))) ?_
  refine yfa ?_
  obtain⟨y14,hl_x13,hk_x13⟩:=bs h
  clear h
  refine yfc (J:=fun (x:(Bool×Int))=>[dP 0 a0,bP 4 a1,bP 5 a2,pB 8 x.1,bP 10 v12,vP 33 40 ([a1,a2]),pL 34 ([a1,a2]),pI 35 x8.2,vP 41 40 ([a1,a2]),pL 42 ([a1,a2]),pI 43 x.2]) hl_x13 wkk (fun x13 o_x13 h hy_x13=>?_)
  unfold yxc at h
  refine kG [dP 0 a0,bP 4 a1,bP 5 a2,pB 8 x13.1,bP 10 v12,vP 33 40 ([a1,a2]),pL 34 ([a1,a2]),pI 35 x8.2,vP 41 40 ([a1,a2]),pL 42 ([a1,a2]),pI 43 x13.2,pB 44 (decide (x13.2<(([a1,a2]).length:Int)))] [] trivial ?_
  refine yab (kI h (fun hc9_14 h=>?_) (fun hc9_14 h=>?_))
  ·refine yga (q_n (yab (yfa ?_)))
   obtain⟨v16,hv16,h⟩:=bs h
   refine kG [dP 0 a0,bP 4 a1,bP 5 a2,pB 8 x13.1,bP 10 v12,bP 12 v16,vP 33 40 ([a1,a2]),pL 34 ([a1,a2]),pI 35 x8.2,vP 41 40 ([a1,a2]),pL 42 ([a1,a2]),pI 43 x13.2] [hR 0 (ePt v16),hR 1 (ePt v16)] (A3 (yba hv16).1 (yca ePt (yba hv16).2) (gW 40 ePt hv16)) ?_
   obtain⟨v17,hv17,h⟩:=bs h
   refine kG [dP 0 a0,bP 4 a1,bP 5 a2,pB 8 x13.1,bP 10 v12,pB 13 v17.1,pB 14 v17.2,vP 33 40 ([a1,a2]),pL 34 ([a1,a2]),pI 35 x8.2,vP 41 40 ([a1,a2]),pL 42 ([a1,a2]),pI 43 x13.2] [hC 3 [.p (.bool v17.1),.p (.bool v17.2)]] (A1 (ysi hv17)) ?_
   refine yab (kG [dP 0 a0,bP 4 a1,bP 5 a2,pB 8 x13.1,bP 10 v12,pB 13 v17.1,vP 33 40 ([a1,a2]),pL 34 ([a1,a2]),pI 35 x8.2,vP 41 40 ([a1,a2]),pL 42 ([a1,a2]),pI 43 x13.2,pB 55 (!v17.2)] [] trivial ?_)
   refine kI h (fun hc11_17 h=>?_) (fun hc11_17 h=>?_)
   ·refine kG [pB 6 false,pB 7 false] [] trivial ?_
    refine yra (q_r (b_r (q_r (lq_r ?_))))
    refine b_r (b_r (q_r (lq_r ?_)))
    refine b_r (q_r ?_)
    have hyy:=hy_x13 _ (oi h).symm
    subst hyy
    have h:=hk_x13
    dsimp only[Sum.elim] at h
    have hyy:=hy_x8 _ (oi h).symm
    subst hyy
    have h:=hk_x8
    dsimp only[Sum.elim] at h
    obtain rfl:=oi h
    exact er [(.p (.bool false),6),(.p (.bool false),7)]
   refine yga (q_n (yub (l1:=[dP 0 a0,bP 4 a1,bP 5 a2,pB 8 (x13.1&&v17.1),bP 10 v12,vP 33 40 ([a1,a2]),pL 34 ([a1,a2]),pI 35 x8.2,vP 41 40 ([a1,a2]),pL 42 ([a1,a2]),pI 43 x13.2]) ?_ ?_))
   ·rcases ft x13.1 with ha4 | ha4
    ·exact RegOk.of_eq (r_gq [dP 0 a0,bP 4 a1,bP 5 a2,pB 8 v17.1,bP 10 v12,vP 33 40 ([a1,a2]),pL 34 ([a1,a2]),pI 35 x8.2,vP 41 40 ([a1,a2]),pL 42 ([a1,a2]),pI 43 x13.2] [(2,gT),(3,bT)] (A2 ha4 ha4)) (by simp[ha4])
    exact RegOk.of_eq (r_gq [dP 0 a0,bP 4 a1,bP 5 a2,pB 8 false,bP 10 v12,vP 33 40 ([a1,a2]),pL 34 ([a1,a2]),pI 35 x8.2,vP 41 40 ([a1,a2]),pL 42 ([a1,a2]),pI 43 x13.2] [(2,gF),(3,bF)] (A2 ha4 ha4)) (by simp[ha4])
   refine b_n (q_n (yub (r_gq [dP 0 a0,bP 4 a1,bP 5 a2,pB 8 (x13.1&&v17.1),bP 10 v12,vP 33 40 ([a1,a2]),pL 34 ([a1,a2]),pI 35 x8.2,vP 41 40 ([a1,a2]),pL 42 ([a1,a2]),pI 43 (w64 (x13.2+1))] [] trivial) ?_))
   exact lqn ((x13.1&&v17.1),(w64 (x13.2+1))) h
  refine ywb (q_x (lq_x (b_x (b_n ?_))))
  have hyy:=hy_x13 _ (oi h).symm
  subst hyy
  have h:=hk_x13
  dsimp only[Sum.elim] at h
  refine q_n ?_
  exact jx x13.1 h
 refine ywb (q_x (lq_x (b_x ?_)))
 have hyy:=hy_x8 _ (oi h).symm
 subst hyy
 have h:=hk_x8
 dsimp only[Sum.elim] at h
 refine q_n ?_
 exact jx x8.1 h
theorem wk_laws_FnChains {a0:(List Int)} {a1:(List Int)}  {r:Bool} (h:laws_FnChains a0 a1=some r):Meets Tryz.prog 3 [.d false [.sl none (a0.map (eU .u8))],.d false [.sl none (a1.map (eU .u8))]] { vals:=[.p (.bool r)] }:=by
 refine mo Tryz.func3 [dL 0 (eU .u8) a0,dL 1 (eU .u8) a1] ?_
 unfold laws_FnChains at h
 refine kG [dL 0 (eU .u8) a0,dL 1 (eU .u8) a1] [] trivial ?_
 refine yab ?_
 obtain⟨v1,hv1,h⟩:=bs h
 refine kG [dL 0 (eU .u8) a0,dL 1 (eU .u8) a1,pB 44 v1] [hC 2 [.p (.bool v1)]] (A1 (yej1 hv1)) ?_
 refine kI h (fun hc2_1 h=>?_) (fun hc2_1 h=>?_)
 ·refine kG [pB 4 true] [] trivial ?_
  refine yra (q_r ?_)
  obtain rfl:=oi h
  exact er [(.p (.bool true),4)]
 refine yga (q_n ?_)
 obtain⟨v3,hv3,h⟩:=bs h
 refine kG [dL 1 (eU .u8) a1,dP 5 v3.1,vP 6 40 v3.2] [(1,{call:=some (none,[.d false (sP v3.1),.ov false (oP 40 v3.2)],false)})] (A1 (yvs hv3)) ?_
 obtain⟨v4,hv4,h⟩:=bs h
 refine kG [dL 1 (eU .u8) a1,dP 5 v3.1,vP 6 40 v3.2,vP 7 40 v4.1,pB 8 v4.2] [(2,(cS [.d false (sP v3.1),.d false (sP v3.2)] [.ov false (oP 40 v4.1),.p (.bool v4.2)]))] (A3 (show([.d false (sP v3.1),.d false [.sl none (eraL (v3.2.map ePt))]]:List Arg)=[.d false (sP v3.1),.d false (sP v3.2)] from(by simp only[erPt])) (ywv hv4) (show List.all [.ov false (oP 40 v4.1),.p (.bool v4.2)] simpleR=true from(sa_o (wnR1 (yge (wn_P (wn_P wn_I wn_I) (wn_P wn_I wn_I))) rfl) (sa_p rfl)))) ?_
 obtain⟨v5,hv5,h⟩:=bs h
 refine kG [dL 1 (eU .u8) a1,dP 5 v3.1,vP 6 40 v3.2,vP 7 40 v4.1,pB 8 v4.2,vP 9 40 v5.1,pB 10 v5.2] [(2,(cS [.d false (sP v3.1),.d false (sP v3.2)] [.ov false (oP 40 v5.1),.p (.bool v5.2)]))] (A3 (show([.d false (sP v3.1),.d false [.sl none (eraL (v3.2.map ePt))]]:List Arg)=[.d false (sP v3.1),.d false (sP v3.2)] from(by simp only[erPt])) (yxv hv5) (show List.all [.ov false (oP 40 v5.1),.p (.bool v5.2)] simpleR=true from(sa_o (wnR1 (yge (wn_P (wn_P wn_I wn_I) (wn_P wn_I wn_I))) rfl) (sa_p rfl)))) ?_
 obtain⟨v6,hv6,h⟩:=bs h
 refine kG [dL 1 (eU .u8) a1,dP 5 v3.1,vP 6 40 v3.2,vP 7 40 v4.1,pB 8 v4.2,vP 9 40 v5.1,pB 10 v5.2,pB 11 v6.1,pB 12 v6.2] [(2,(cS [.d false (sP v3.1),.d false (sP v3.2)] [.p (.bool v6.1),.p (.bool v6.2)]))] (A2 (show([.d false (sP v3.1),.d false [.sl none (eraL (v3.2.map ePt))]]:List Arg)=[.d false (sP v3.1),.d false (sP v3.2)] from(by simp only[erPt])) (ypu hv6)) ?_
 obtain⟨v7,hv7,h⟩:=bs h
 refine kG [dL 1 (eU .u8) a1,dP 5 v3.1,vP 6 40 v3.2,vP 7 40 v4.1,pB 8 v4.2,vP 9 40 v5.1,pB 10 v5.2,pB 11 v6.1,pB 12 v6.2,pB 13 v7.1,pB 14 v7.2] [(2,(cS [.d false (sP v3.1),.d false (sP v3.2)] [.p (.bool v7.1),.p (.bool v7.2)]))] (A2 (show([.d false (sP v3.1),.d false [.sl none (eraL (v3.2.map ePt))]]:List Arg)=[.d false (sP v3.1),.d false (sP v3.2)] from(by simp only[erPt])) (yha1 hv7)) ?_
 obtain⟨v8,hv8,h⟩:=bs h
 refine kG [dL 1 (eU .u8) a1,dP 5 v3.1,vP 6 40 v3.2,vP 7 40 v4.1,pB 8 v4.2,vP 9 40 v5.1,pB 10 v5.2,pB 11 v6.1,pB 12 v6.2,pB 13 v7.1,pB 14 v7.2,pB 15 v8.1,pB 16 v8.2] [(2,(cS [.d false (sP v3.1),.d false (sP v3.2)] [.p (.bool v8.1),.p (.bool v8.2)]))] (A2 (show([.d false (sP v3.1),.d false [.sl none (eraL (v3.2.map ePt))]]:List Arg)=[.d false (sP v3.1),.d false (sP v3.2)] from(by simp only[erPt])) (yiz hv8)) ?_
 obtain⟨v9,hv9,h⟩:=bs h
 refine kG [dL 1 (eU .u8) a1,dP 5 v3.1,vP 6 40 v3.2,vP 7 40 v4.1,pB 8 v4.2,vP 9 40 v5.1,pB 10 v5.2,pB 11 v6.1,pB 12 v6.2,pB 13 v7.1,pB 14 v7.2,pB 15 v8.1,pB 16 v8.2,pB 17 v9.1,pB 18 v9.2] [(2,(cS [.d false (sP v3.1),.d false (sP v3.2)] [.p (.bool v9.1),.p (.bool v9.2)]))] (A2 (show([.d false (sP v3.1),.d false [.sl none (eraL (v3.2.map ePt))]]:List Arg)=[.d false (sP v3.1),.d false (sP v3.2)] from(by simp only[erPt])) (yjz hv9)) ?_
 obtain⟨v10,hv10,h⟩:=bs h
 refine kG [dL 1 (eU .u8) a1,dP 5 v3.1,vP 6 40 v3.2,vP 7 40 v4.1,pB 8 v4.2,vP 9 40 v5.1,pB 10 v5.2,pB 11 v6.1,pB 12 v6.2,pB 13 v7.1,pB 14 v7.2,pB 15 v8.1,pB 16 v8.2,pB 17 v9.1,pB 18 v9.2,vL 19 3 eI v10.1,pB 20 v10.2] [(2,(cS [.d false (sP v3.1),.d false (sP v3.2)] [rO 3 eI v10.1,.p (.bool v10.2)]))] (A3 (show([.d false (sP v3.1),.d false [.sl none (eraL (v3.2.map ePt))]]:List Arg)=[.d false (sP v3.1),.d false (sP v3.2)] from(by simp only[erPt])) (yyv hv10) (show List.all [rO 3 eI v10.1,.p (.bool v10.2)] simpleR=true from(sa_o (wnR1 (yge wn_I) rfl) (sa_p rfl)))) ?_
 obtain⟨v11,hv11,h⟩:=bs h
 refine kG [dL 1 (eU .u8) a1,dP 5 v3.1,vP 6 40 v3.2,vP 7 40 v4.1,pB 8 v4.2,vP 9 40 v5.1,pB 10 v5.2,pB 11 v6.1,pB 12 v6.2,pB 13 v7.1,pB 14 v7.2,pB 15 v8.1,pB 16 v8.2,pB 17 v9.1,pB 18 v9.2,vL 19 3 eI v10.1,pB 20 v10.2,vL 21 3 eI v11.1,pB 22 v11.2] [(2,(cS [.d false (sP v3.1),.d false (sP v3.2)] [rO 3 eI v11.1,.p (.bool v11.2)]))] (A3 (show([.d false (sP v3.1),.d false [.sl none (eraL (v3.2.map ePt))]]:List Arg)=[.d false (sP v3.1),.d false (sP v3.2)] from(by simp only[erPt])) (yzv hv11) (show List.all [rO 3 eI v11.1,.p (.bool v11.2)] simpleR=true from(sa_o (wnR1 (yge wn_I) rfl) (sa_p rfl)))) ?_
 refine yab ?_
 obtain⟨w14,hw14,h⟩:=bs h
 refine yza (l1:=[dL 1 (eU .u8) a1,dP 5 v3.1,vP 6 40 v3.2,vP 7 40 v4.1,pB 8 v4.2,vP 9 40 v5.1,pB 12 v6.2,pB 13 v7.1,pB 17 v9.1,vL 21 3 eI v11.1,pB 158 w14]) ?_ ?_
 ·clear h
  have q1:([.d false [.sl none (eraL (v4.1.map ePt))],.d false [.sl none (eraL (v5.1.map ePt))]]:List Arg)=[.d false (sP v4.1),.d false (sP v5.1)]:=(by simp only[yua (h:=ePt) (yku (yku er_I er_I) (yku er_I er_I)),yua (h:=ePt) (yku (yku er_I er_I) (yku er_I er_I))])
  have q2:([.d false [.sl none (eraL (v10.1.map eI))],.d false [.sl none (eraL (v11.1.map eI))]]:List Arg)=[.d false [.sl none (v10.1.map eI)],.d false [.sl none (v11.1.map eI)]]:=(by simp only[yua (h:=eI) er_I,yua (h:=eI) er_I])
  rcases ft (!(v4.2==v5.2)) with ha1 | ha1
  ·replace hw14:=yrh ha1 hw14
   have hw14:=oi hw14
   subst hw14
   exact(r_gq [dL 1 (eU .u8) a1,dP 5 v3.1,vP 6 40 v3.2,vP 7 40 v4.1,pB 8 v4.2,vP 9 40 v5.1,pB 12 v6.2,pB 13 v7.1,pB 17 v9.1,vL 21 3 eI v11.1,pB 158 true] [(4,gT),(5,gT),(6,gT),(7,gT),(8,bT),(10,gT),(11,gT),(12,gT),(13,bT),(15,gT),(16,gT),(17,gT),(18,bT),(20,gT),(21,gT),(22,gT),(23,bT),(25,gT),(26,gT),(27,gT),(28,bT),(30,gT),(31,gT),(32,gT),(33,bT),(35,gT),(36,gT),(37,gT),(38,gT),(39,bT),(41,gT),(42,gT),(43,gT),(44,bT),(46,gT),(47,gT),(48,gT),(49,bT),(51,gT),(52,gT),(59,gT),(60,bT)] (B6 ha1 ha1 ha1 ha1 ha1 tT (B6 tT tT tT tT tT tT (B6 tT tT tT tT tT tT (B6 tT tT tT tT tT tT (B6 tT tT tT tT tT tT (B6 tT tT tT tT tT tT (A6 tT tT tT tT tT tT))))))))
  obtain⟨v12,hv12,hw14⟩:=bs (ysh ha1 hw14)
  rcases ft (!v12) with ha2 | ha2
  ·replace hw14:=yrh ha2 hw14
   have hw14:=oi hw14
   subst hw14
   exact(r_gq [dL 1 (eU .u8) a1,dP 5 v3.1,vP 6 40 v3.2,vP 7 40 v4.1,pB 8 v4.2,vP 9 40 v5.1,pB 12 v6.2,pB 13 v7.1,pB 17 v9.1,vL 21 3 eI v11.1,pB 158 true] [(4,gF),(5,gF),(6,(gC [.d false (sP v4.1),.d false (sP v5.1)] [.p (.bool v12)])),(7,gF),(8,bF),(10,gT),(11,gT),(12,gT),(13,bT),(15,gT),(16,gT),(17,gT),(18,bT),(20,gT),(21,gT),(22,gT),(23,bT),(25,gT),(26,gT),(27,gT),(28,bT),(30,gT),(31,gT),(32,gT),(33,bT),(35,gT),(36,gT),(37,gT),(38,gT),(39,bT),(41,gT),(42,gT),(43,gT),(44,bT),(46,gT),(47,gT),(48,gT),(49,bT),(51,gT),(52,gT),(59,gT),(60,bT)] (B6 ha1 ha1 ha1 q1 (yjb hv12) ha1 (B6 ha1 ha2 ha2 ha2 ha2 tT (B6 tT tT tT tT tT tT (B6 tT tT tT tT tT tT (B6 tT tT tT tT tT tT (B6 tT tT tT tT tT tT (B6 tT tT tT tT tT tT (A2 tT tT)))))))))
  replace hw14:=ysh ha2 hw14
  rcases ft (!(v6.2==v7.2)) with ha3 | ha3
  ·replace hw14:=yrh ha3 hw14
   have hw14:=oi hw14
   subst hw14
   exact(r_gq [dL 1 (eU .u8) a1,dP 5 v3.1,vP 6 40 v3.2,vP 7 40 v4.1,pB 8 v4.2,vP 9 40 v5.1,pB 12 v6.2,pB 13 v7.1,pB 17 v9.1,vL 21 3 eI v11.1,pB 158 true] [(4,gF),(5,gF),(6,(gC [.d false (sP v4.1),.d false (sP v5.1)] [.p (.bool v12)])),(7,gF),(8,bF),(10,gF),(11,gF),(12,gF),(13,bF),(15,gT),(16,gT),(17,gT),(18,bT),(20,gT),(21,gT),(22,gT),(23,bT),(25,gT),(26,gT),(27,gT),(28,bT),(30,gT),(31,gT),(32,gT),(33,bT),(35,gT),(36,gT),(37,gT),(38,gT),(39,bT),(41,gT),(42,gT),(43,gT),(44,bT),(46,gT),(47,gT),(48,gT),(49,bT),(51,gT),(52,gT),(59,gT),(60,bT)] (B6 ha1 ha1 ha1 q1 (yjb hv12) ha1 (B6 ha1 ha2 ha2 ha2 ha2 ha3 (B6 ha3 ha3 ha3 tT tT tT (B6 tT tT tT tT tT tT (B6 tT tT tT tT tT tT (B6 tT tT tT tT tT tT (B6 tT tT tT tT tT tT (A2 tT tT)))))))))
  replace hw14:=ysh ha3 hw14
  rcases ft (!(v6.1==v7.1)) with ha4 | ha4
  ·replace hw14:=yrh ha4 hw14
   have hw14:=oi hw14
   subst hw14
   exact(r_gq [dL 1 (eU .u8) a1,dP 5 v3.1,vP 6 40 v3.2,vP 7 40 v4.1,pB 8 v4.2,vP 9 40 v5.1,pB 12 v6.2,pB 13 v7.1,pB 17 v9.1,vL 21 3 eI v11.1,pB 158 true] [(4,gF),(5,gF),(6,(gC [.d false (sP v4.1),.d false (sP v5.1)] [.p (.bool v12)])),(7,gF),(8,bF),(10,gF),(11,gF),(12,gF),(13,bF),(15,gF),(16,gF),(17,gF),(18,bF),(20,gT),(21,gT),(22,gT),(23,bT),(25,gT),(26,gT),(27,gT),(28,bT),(30,gT),(31,gT),(32,gT),(33,bT),(35,gT),(36,gT),(37,gT),(38,gT),(39,bT),(41,gT),(42,gT),(43,gT),(44,bT),(46,gT),(47,gT),(48,gT),(49,bT),(51,gT),(52,gT),(59,gT),(60,bT)] (B6 ha1 ha1 ha1 q1 (yjb hv12) ha1 (B6 ha1 ha2 ha2 ha2 ha2 ha3 (B6 ha3 ha3 ha3 ha4 ha4 ha4 (B6 ha4 tT tT tT tT tT (B6 tT tT tT tT tT tT (B6 tT tT tT tT tT tT (B6 tT tT tT tT tT tT (A2 tT tT)))))))))
  replace hw14:=ysh ha4 hw14
  rcases ft (!(v8.2==v9.2)) with ha5 | ha5
  ·replace hw14:=yrh ha5 hw14
   have hw14:=oi hw14
   subst hw14
   exact(r_gq [dL 1 (eU .u8) a1,dP 5 v3.1,vP 6 40 v3.2,vP 7 40 v4.1,pB 8 v4.2,vP 9 40 v5.1,pB 12 v6.2,pB 13 v7.1,pB 17 v9.1,vL 21 3 eI v11.1,pB 158 true] [(4,gF),(5,gF),(6,(gC [.d false (sP v4.1),.d false (sP v5.1)] [.p (.bool v12)])),(7,gF),(8,bF),(10,gF),(11,gF),(12,gF),(13,bF),(15,gF),(16,gF),(17,gF),(18,bF),(20,gF),(21,gF),(22,gF),(23,bF),(25,gT),(26,gT),(27,gT),(28,bT),(30,gT),(31,gT),(32,gT),(33,bT),(35,gT),(36,gT),(37,gT),(38,gT),(39,bT),(41,gT),(42,gT),(43,gT),(44,bT),(46,gT),(47,gT),(48,gT),(49,bT),(51,gT),(52,gT),(59,gT),(60,bT)] (B6 ha1 ha1 ha1 q1 (yjb hv12) ha1 (B6 ha1 ha2 ha2 ha2 ha2 ha3 (B6 ha3 ha3 ha3 ha4 ha4 ha4 (B6 ha4 ha5 ha5 ha5 ha5 tT (B6 tT tT tT tT tT tT (B6 tT tT tT tT tT tT (B6 tT tT tT tT tT tT (A2 tT tT)))))))))
  replace hw14:=ysh ha5 hw14
  rcases ft (!(v8.1==v9.1)) with ha6 | ha6
  ·replace hw14:=yrh ha6 hw14
   have hw14:=oi hw14
   subst hw14
   exact(r_gq [dL 1 (eU .u8) a1,dP 5 v3.1,vP 6 40 v3.2,vP 7 40 v4.1,pB 8 v4.2,vP 9 40 v5.1,pB 12 v6.2,pB 13 v7.1,pB 17 v9.1,vL 21 3 eI v11.1,pB 158 true] [(4,gF),(5,gF),(6,(gC [.d false (sP v4.1),.d false (sP v5.1)] [.p (.bool v12)])),(7,gF),(8,bF),(10,gF),(11,gF),(12,gF),(13,bF),(15,gF),(16,gF),(17,gF),(18,bF),(20,gF),(21,gF),(22,gF),(23,bF),(25,gF),(26,gF),(27,gF),(28,bF),(30,gT),(31,gT),(32,gT),(33,bT),(35,gT),(36,gT),(37,gT),(38,gT),(39,bT),(41,gT),(42,gT),(43,gT),(44,bT),(46,gT),(47,gT),(48,gT),(49,bT),(51,gT),(52,gT),(59,gT),(60,bT)] (B6 ha1 ha1 ha1 q1 (yjb hv12) ha1 (B6 ha1 ha2 ha2 ha2 ha2 ha3 (B6 ha3 ha3 ha3 ha4 ha4 ha4 (B6 ha4 ha5 ha5 ha5 ha5 ha6 (B6 ha6 ha6 ha6 tT tT tT (B6 tT tT tT tT tT tT (B6 tT tT tT tT tT tT (A2 tT tT)))))))))
  replace hw14:=ysh ha6 hw14
  rcases ft (!(v10.2==v11.2)) with ha7 | ha7
  ·replace hw14:=yrh ha7 hw14
   have hw14:=oi hw14
   subst hw14
   exact(r_gq [dL 1 (eU .u8) a1,dP 5 v3.1,vP 6 40 v3.2,vP 7 40 v4.1,pB 8 v4.2,vP 9 40 v5.1,pB 12 v6.2,pB 13 v7.1,pB 17 v9.1,vL 21 3 eI v11.1,pB 158 true] [(4,gF),(5,gF),(6,(gC [.d false (sP v4.1),.d false (sP v5.1)] [.p (.bool v12)])),(7,gF),(8,bF),(10,gF),(11,gF),(12,gF),(13,bF),(15,gF),(16,gF),(17,gF),(18,bF),(20,gF),(21,gF),(22,gF),(23,bF),(25,gF),(26,gF),(27,gF),(28,bF),(30,gF),(31,gF),(32,gF),(33,bF),(35,gT),(36,gT),(37,gT),(38,gT),(39,bT),(41,gT),(42,gT),(43,gT),(44,bT),(46,gT),(47,gT),(48,gT),(49,bT),(51,gT),(52,gT),(59,gT),(60,bT)] (B6 ha1 ha1 ha1 q1 (yjb hv12) ha1 (B6 ha1 ha2 ha2 ha2 ha2 ha3 (B6 ha3 ha3 ha3 ha4 ha4 ha4 (B6 ha4 ha5 ha5 ha5 ha5 ha6 (B6 ha6 ha6 ha6 ha7 ha7 ha7 (B6 ha7 ha7 tT tT tT tT (B6 tT tT tT tT tT tT (A2 tT tT)))))))))
  obtain⟨v13,hv13,hw14⟩:=bs (ysh ha7 hw14)
  rcases ft (!v13) with ha8 | ha8
  ·replace hw14:=yrh ha8 hw14
   have hw14:=oi hw14
   subst hw14
   exact(r_gq [dL 1 (eU .u8) a1,dP 5 v3.1,vP 6 40 v3.2,vP 7 40 v4.1,pB 8 v4.2,vP 9 40 v5.1,pB 12 v6.2,pB 13 v7.1,pB 17 v9.1,vL 21 3 eI v11.1,pB 158 true] [(4,gF),(5,gF),(6,(gC [.d false (sP v4.1),.d false (sP v5.1)] [.p (.bool v12)])),(7,gF),(8,bF),(10,gF),(11,gF),(12,gF),(13,bF),(15,gF),(16,gF),(17,gF),(18,bF),(20,gF),(21,gF),(22,gF),(23,bF),(25,gF),(26,gF),(27,gF),(28,bF),(30,gF),(31,gF),(32,gF),(33,bF),(35,gF),(36,gF),(37,(gC [.d false [.sl none (v10.1.map eI)],.d false [.sl none (v11.1.map eI)]] [.p (.bool v13)])),(38,gF),(39,bF),(41,gT),(42,gT),(43,gT),(44,bT),(46,gT),(47,gT),(48,gT),(49,bT),(51,gT),(52,gT),(59,gT),(60,bT)] (B6 ha1 ha1 ha1 q1 (yjb hv12) ha1 (B6 ha1 ha2 ha2 ha2 ha2 ha3 (B6 ha3 ha3 ha3 ha4 ha4 ha4 (B6 ha4 ha5 ha5 ha5 ha5 ha6 (B6 ha6 ha6 ha6 ha7 ha7 ha7 (B6 q2 (ykg hv13) ha7 ha7 ha8 ha8 (B6 ha8 ha8 tT tT tT tT (A4 tT tT tT tT)))))))))
  replace hw14:=ysh ha8 hw14
  rcases ft (!(v8.2==v6.2)) with ha9 | ha9
  ·replace hw14:=yrh ha9 hw14
   have hw14:=oi hw14
   subst hw14
   exact(r_gq [dL 1 (eU .u8) a1,dP 5 v3.1,vP 6 40 v3.2,vP 7 40 v4.1,pB 8 v4.2,vP 9 40 v5.1,pB 12 v6.2,pB 13 v7.1,pB 17 v9.1,vL 21 3 eI v11.1,pB 158 true] [(4,gF),(5,gF),(6,(gC [.d false (sP v4.1),.d false (sP v5.1)] [.p (.bool v12)])),(7,gF),(8,bF),(10,gF),(11,gF),(12,gF),(13,bF),(15,gF),(16,gF),(17,gF),(18,bF),(20,gF),(21,gF),(22,gF),(23,bF),(25,gF),(26,gF),(27,gF),(28,bF),(30,gF),(31,gF),(32,gF),(33,bF),(35,gF),(36,gF),(37,(gC [.d false [.sl none (v10.1.map eI)],.d false [.sl none (v11.1.map eI)]] [.p (.bool v13)])),(38,gF),(39,bF),(41,gF),(42,gF),(43,gF),(44,bF),(46,gT),(47,gT),(48,gT),(49,bT),(51,gT),(52,gT),(59,gT),(60,bT)] (B6 ha1 ha1 ha1 q1 (yjb hv12) ha1 (B6 ha1 ha2 ha2 ha2 ha2 ha3 (B6 ha3 ha3 ha3 ha4 ha4 ha4 (B6 ha4 ha5 ha5 ha5 ha5 ha6 (B6 ha6 ha6 ha6 ha7 ha7 ha7 (B6 q2 (ykg hv13) ha7 ha7 ha8 ha8 (B6 ha8 ha8 ha9 ha9 ha9 ha9 (A4 tT tT tT tT)))))))))
  replace hw14:=ysh ha9 hw14
  rcases ft (!(v10.2==v6.2)) with ha10 | ha10
  ·replace hw14:=yrh ha10 hw14
   have hw14:=oi hw14
   subst hw14
   exact(r_gq [dL 1 (eU .u8) a1,dP 5 v3.1,vP 6 40 v3.2,vP 7 40 v4.1,pB 8 v4.2,vP 9 40 v5.1,pB 12 v6.2,pB 13 v7.1,pB 17 v9.1,vL 21 3 eI v11.1,pB 158 true] [(4,gF),(5,gF),(6,(gC [.d false (sP v4.1),.d false (sP v5.1)] [.p (.bool v12)])),(7,gF),(8,bF),(10,gF),(11,gF),(12,gF),(13,bF),(15,gF),(16,gF),(17,gF),(18,bF),(20,gF),(21,gF),(22,gF),(23,bF),(25,gF),(26,gF),(27,gF),(28,bF),(30,gF),(31,gF),(32,gF),(33,bF),(35,gF),(36,gF),(37,(gC [.d false [.sl none (v10.1.map eI)],.d false [.sl none (v11.1.map eI)]] [.p (.bool v13)])),(38,gF),(39,bF),(41,gF),(42,gF),(43,gF),(44,bF),(46,gF),(47,gF),(48,gF),(49,bF),(51,gT),(52,gT),(59,gT),(60,bT)] (B6 ha1 ha1 ha1 q1 (yjb hv12) ha1 (B6 ha1 ha2 ha2 ha2 ha2 ha3 (B6 ha3 ha3 ha3 ha4 ha4 ha4 (B6 ha4 ha5 ha5 ha5 ha5 ha6 (B6 ha6 ha6 ha6 ha7 ha7 ha7 (B6 q2 (ykg hv13) ha7 ha7 ha8 ha8 (B6 ha8 ha8 ha9 ha9 ha9 ha9 (A4 ha10 ha10 ha10 ha10)))))))))
  replace hw14:=ysh ha10 hw14
  rcases ft v4.2 with ha11 | ha11
  ·replace hw14:=yrh ha11 hw14
   rcases ft (!v6.2) with ha12 | ha12
   ·replace hw14:=yrh ha12 hw14
    have hw14:=oi hw14
    subst hw14
    exact(r_gq [dL 1 (eU .u8) a1,dP 5 v3.1,vP 6 40 v3.2,vP 7 40 v4.1,pB 8 v4.2,vP 9 40 v5.1,pB 12 v6.2,pB 13 v7.1,pB 17 v9.1,vL 21 3 eI v11.1,pB 158 true] [(4,gF),(5,gF),(6,(gC [.d false (sP v4.1),.d false (sP v5.1)] [.p (.bool v12)])),(7,gF),(8,bF),(10,gF),(11,gF),(12,gF),(13,bF),(15,gF),(16,gF),(17,gF),(18,bF),(20,gF),(21,gF),(22,gF),(23,bF),(25,gF),(26,gF),(27,gF),(28,bF),(30,gF),(31,gF),(32,gF),(33,bF),(35,gF),(36,gF),(37,(gC [.d false [.sl none (v10.1.map eI)],.d false [.sl none (v11.1.map eI)]] [.p (.bool v13)])),(38,gF),(39,bF),(41,gF),(42,gF),(43,gF),(44,bF),(46,gF),(47,gF),(48,gF),(49,bF),(51,gF),(52,gF),(53,gT),(54,gT),(55,gT),(56,gT),(57,gT),(58,{g:=some true,b:=some true}),(59,gFbT),(60,bF)] (B6 ha1 ha1 ha1 q1 (yjb hv12) ha1 (B6 ha1 ha2 ha2 ha2 ha2 ha3 (B6 ha3 ha3 ha3 ha4 ha4 ha4 (B6 ha4 ha5 ha5 ha5 ha5 ha6 (B6 ha6 ha6 ha6 ha7 ha7 ha7 (B6 q2 (ykg hv13) ha7 ha7 ha8 ha8 (B6 ha8 ha8 ha9 ha9 ha9 ha9 (B6 ha10 ha10 ha11 ha11 ha11 ha12 (A6 ha12 ha11 ha12 ha10 ha11 ha10))))))))))
   replace hw14:=ysh ha12 hw14
   have hw14:=oi hw14
   subst hw14
   exact(r_gq [dL 1 (eU .u8) a1,dP 5 v3.1,vP 6 40 v3.2,vP 7 40 v4.1,pB 8 v4.2,vP 9 40 v5.1,pB 12 v6.2,pB 13 v7.1,pB 17 v9.1,vL 21 3 eI v11.1,pB 158 (!v7.1)] [(4,gF),(5,gF),(6,(gC [.d false (sP v4.1),.d false (sP v5.1)] [.p (.bool v12)])),(7,gF),(8,bF),(10,gF),(11,gF),(12,gF),(13,bF),(15,gF),(16,gF),(17,gF),(18,bF),(20,gF),(21,gF),(22,gF),(23,bF),(25,gF),(26,gF),(27,gF),(28,bF),(30,gF),(31,gF),(32,gF),(33,bF),(35,gF),(36,gF),(37,(gC [.d false [.sl none (v10.1.map eI)],.d false [.sl none (v11.1.map eI)]] [.p (.bool v13)])),(38,gF),(39,bF),(41,gF),(42,gF),(43,gF),(44,bF),(46,gF),(47,gF),(48,gF),(49,bF),(51,gF),(52,gF),(53,gT),(54,gT),(55,gT),(56,gF),(57,gF),(58,{g:=some true,b:=some false}),(59,gFbT),(60,bF)] (B6 ha1 ha1 ha1 q1 (yjb hv12) ha1 (B6 ha1 ha2 ha2 ha2 ha2 ha3 (B6 ha3 ha3 ha3 ha4 ha4 ha4 (B6 ha4 ha5 ha5 ha5 ha5 ha6 (B6 ha6 ha6 ha6 ha7 ha7 ha7 (B6 q2 (ykg hv13) ha7 ha7 ha8 ha8 (B6 ha8 ha8 ha9 ha9 ha9 ha9 (B6 ha10 ha10 ha11 ha11 ha11 ha12 (A6 ha12 ha11 ha12 ha10 ha11 ha10))))))))))
  replace hw14:=ysh ha11 hw14
  have hw14:=oi hw14
  subst hw14
  exact(r_gq [dL 1 (eU .u8) a1,dP 5 v3.1,vP 6 40 v3.2,vP 7 40 v4.1,pB 8 v4.2,vP 9 40 v5.1,pB 12 v6.2,pB 13 v7.1,pB 17 v9.1,vL 21 3 eI v11.1,pB 158 false] [(4,gF),(5,gF),(6,(gC [.d false (sP v4.1),.d false (sP v5.1)] [.p (.bool v12)])),(7,gF),(8,bF),(10,gF),(11,gF),(12,gF),(13,bF),(15,gF),(16,gF),(17,gF),(18,bF),(20,gF),(21,gF),(22,gF),(23,bF),(25,gF),(26,gF),(27,gF),(28,bF),(30,gF),(31,gF),(32,gF),(33,bF),(35,gF),(36,gF),(37,(gC [.d false [.sl none (v10.1.map eI)],.d false [.sl none (v11.1.map eI)]] [.p (.bool v13)])),(38,gF),(39,bF),(41,gF),(42,gF),(43,gF),(44,bF),(46,gF),(47,gF),(48,gF),(49,bF),(51,gF),(52,gF),(53,gF),(54,gF),(55,gF),(58,gF),(59,gFbF),(60,bF)] (B6 ha1 ha1 ha1 q1 (yjb hv12) ha1 (B6 ha1 ha2 ha2 ha2 ha2 ha3 (B6 ha3 ha3 ha3 ha4 ha4 ha4 (B6 ha4 ha5 ha5 ha5 ha5 ha6 (B6 ha6 ha6 ha6 ha7 ha7 ha7 (B6 q2 (ykg hv13) ha7 ha7 ha8 ha8 (B6 ha8 ha8 ha9 ha9 ha9 ha9 (B6 ha10 ha10 ha11 ha11 ha11 ha11 (A3 ha10 ha11 ha10))))))))))
 refine kI h (fun hc2_14 h=>?_) (fun hc2_14 h=>?_)
 ·refine kG [pB 4 false] [] trivial ?_
  refine yra (q_r ?_)
  obtain rfl:=oi h
  exact er [(.p (.bool false),4)]
 refine yga (q_n (yab ?_))
 obtain⟨w17,hw17,h⟩:=bs h
 refine yza (l1:=[dL 1 (eU .u8) a1,dP 5 v3.1,vP 6 40 v3.2,vP 7 40 v4.1,pB 8 v4.2,vP 9 40 v5.1,pB 189 w17]) ?_ ?_
 ·clear h
  have q3:(v11.1.map eI).length=v11.1.length:=(List.length_map ..)
  rcases ft v6.2 with ha2 | ha2
  ·replace hw17:=yrh ha2 hw17
   rcases ft (!(v9.1==((v11.1.length:Int)==0))) with ha3 | ha3
   ·replace hw17:=yrh ha3 hw17
    have hw17:=oi hw17
    subst hw17
    exact(r_gq [dL 1 (eU .u8) a1,dP 5 v3.1,vP 6 40 v3.2,vP 7 40 v4.1,pB 8 v4.2,vP 9 40 v5.1,pB 189 true] [(2,gT),(3,gT),(4,{g:=some true,n:=some v11.1.length}),(5,gT),(6,gT),(7,gT),(8,gT),(9,gT),(10,gT),(11,gT),(12,gT),(20,gT),(21,gT),(22,{g:=some true,b:=some true}),(23,gT),(24,gT),(25,gT),(28,gT),(29,{g:=some true,b:=some true}),(30,bT)] (B6 ha2 ha2 ha2 q3 ha2 ha2 (B6 ha2 ha3 ha3 ha3 ha3 ha3 (B6 ha3 ha3 ha2 ha3 ha2 tT (A5 tT tT ha2 tT ha2)))))
   replace hw17:=ysh ha3 hw17
   rcases ft ((v11.1.length:Int)==0) with ha4 | ha4
   ·replace hw17:=yrh ha4 hw17
    rcases ft (!(v7.1==true)) with ha5 | ha5
    ·replace hw17:=yrh ha5 hw17
     have hw17:=oi hw17
     subst hw17
     exact(r_gq [dL 1 (eU .u8) a1,dP 5 v3.1,vP 6 40 v3.2,vP 7 40 v4.1,pB 8 v4.2,vP 9 40 v5.1,pB 189 true] [(2,gT),(3,gT),(4,{g:=some true,n:=some v11.1.length}),(5,gT),(6,gT),(7,gT),(8,gF),(9,gF),(10,{g:=some false,n:=some v11.1.length}),(11,gF),(12,gF),(13,gT),(14,gT),(15,gT),(16,gT),(17,gT),(18,gT),(19,gT),(20,gFbT),(21,gF),(22,{g:=some true,b:=some false}),(23,gT),(24,gT),(25,gT),(28,gT),(29,{g:=some true,b:=some true}),(30,bT)] (B6 ha2 ha2 ha2 q3 ha2 ha2 (B6 ha2 ha3 ha3 ha3 q3 ha3 (B6 ha3 ha4 ha4 ha4 ha4 ha4 (B6 ha4 ha4 ha3 ha4 ha3 ha2 (B6 ha3 ha2 ha5 ha5 ha5 ha2 (A2 ha5 ha2)))))))
    replace hw17:=ysh ha5 hw17
    rcases ft v9.1 with ha6 | ha6
    ·replace hw17:=yrh ha6 hw17
     have hw17:=oi hw17
     subst hw17
     exact(r_gq [dL 1 (eU .u8) a1,dP 5 v3.1,vP 6 40 v3.2,vP 7 40 v4.1,pB 8 v4.2,vP 9 40 v5.1,pB 189 (!v7.1)] [(2,gT),(3,gT),(4,{g:=some true,n:=some v11.1.length}),(5,gT),(6,gT),(7,gT),(8,gF),(9,gF),(10,{g:=some false,n:=some v11.1.length}),(11,gF),(12,gF),(13,gT),(14,gT),(15,gT),(16,gT),(17,gT),(18,gT),(19,gT),(20,gFbT),(21,gF),(22,{g:=some true,b:=some false}),(23,gT),(24,gF),(25,gF),(26,gT),(27,gT),(28,gFbT),(29,{g:=some true,b:=some false}),(30,bT)] (B6 ha2 ha2 ha2 q3 ha2 ha2 (B6 ha2 ha3 ha3 ha3 q3 ha3 (B6 ha3 ha4 ha4 ha4 ha4 ha4 (B6 ha4 ha4 ha3 ha4 ha3 ha2 (B6 ha3 ha2 ha5 ha5 ha6 ha6 (A5 ha5 ha6 ha2 ha5 ha2)))))))
    replace hw17:=ysh ha6 hw17
    have hw17:=oi hw17
    subst hw17
    exact(r_gq [dL 1 (eU .u8) a1,dP 5 v3.1,vP 6 40 v3.2,vP 7 40 v4.1,pB 8 v4.2,vP 9 40 v5.1,pB 189 false] [(2,gT),(3,gT),(4,{g:=some true,n:=some v11.1.length}),(5,gT),(6,gT),(7,gT),(8,gF),(9,gF),(10,{g:=some false,n:=some v11.1.length}),(11,gF),(12,gF),(13,gT),(14,gT),(15,gT),(16,gT),(17,gT),(18,gT),(19,gT),(20,gFbT),(21,gF),(22,{g:=some true,b:=some false}),(23,gT),(24,gF),(25,gF),(26,gF),(27,gF),(28,gFbF),(29,{g:=some true,b:=some false}),(30,bT)] (B6 ha2 ha2 ha2 q3 ha2 ha2 (B6 ha2 ha3 ha3 ha3 q3 ha3 (B6 ha3 ha4 ha4 ha4 ha4 ha4 (B6 ha4 ha4 ha3 ha4 ha3 ha2 (B6 ha3 ha2 ha5 ha5 ha6 ha6 (A5 ha5 ha6 ha2 ha5 ha2)))))))
   obtain⟨v16,hv16,hw17⟩:=bs (ysh ha4 hw17)
   rcases ft (!(v7.1==(v16==(w64 ((v3.2.length:Int)-1))))) with ha5 | ha5
   ·replace hw17:=yrh ha5 hw17
    have hw17:=oi hw17
    subst hw17
    exact(r_gq [dL 1 (eU .u8) a1,dP 5 v3.1,vP 6 40 v3.2,vP 7 40 v4.1,pB 8 v4.2,vP 9 40 v5.1,pB 189 true] [(2,gT),(3,gT),(4,{g:=some true,n:=some v11.1.length}),(5,gT),(6,gT),(7,gT),(8,gF),(9,gF),(10,{g:=some false,n:=some v11.1.length}),(11,gF),(12,gF),(13,gF),(14,{g:=some false,row:=some (eI v16)}),(15,{g:=some false,row:=some (eI v16)}),(16,gF),(17,{g:=some false,n:=some v3.2.length}),(18,gF),(19,gF),(20,gFbF),(21,gF),(22,{g:=some true,b:=some false}),(23,gT),(24,gT),(25,gT),(28,gT),(29,{g:=some true,b:=some true}),(30,bT)] (B6 ha2 ha2 ha2 q3 ha2 ha2 (B6 ha2 ha3 ha3 ha3 q3 ha3 (B6 ha3 ha4 ha4 (yba hv16).1 (yca eI (yba hv16).2) ha4 (B6 (gW 3 eI hv16) ha4 ha4 (lnP v3.2) ha4 ha4 (B6 ha3 ha4 ha3 ha2 ha3 ha2 (A6 ha5 ha5 ha5 ha2 ha5 ha2)))))))
   replace hw17:=ysh ha5 hw17
   rcases ft v9.1 with ha6 | ha6
   ·replace hw17:=yrh ha6 hw17
    have hw17:=oi hw17
    subst hw17
    exact(r_gq [dL 1 (eU .u8) a1,dP 5 v3.1,vP 6 40 v3.2,vP 7 40 v4.1,pB 8 v4.2,vP 9 40 v5.1,pB 189 (!v7.1)] [(2,gT),(3,gT),(4,{g:=some true,n:=some v11.1.length}),(5,gT),(6,gT),(7,gT),(8,gF),(9,gF),(10,{g:=some false,n:=some v11.1.length}),(11,gF),(12,gF),(13,gF),(14,{g:=some false,row:=some (eI v16)}),(15,{g:=some false,row:=some (eI v16)}),(16,gF),(17,{g:=some false,n:=some v3.2.length}),(18,gF),(19,gF),(20,gFbF),(21,gF),(22,{g:=some true,b:=some false}),(23,gT),(24,gF),(25,gF),(26,gT),(27,gT),(28,gFbT),(29,{g:=some true,b:=some false}),(30,bT)] (B6 ha2 ha2 ha2 q3 ha2 ha2 (B6 ha2 ha3 ha3 ha3 q3 ha3 (B6 ha3 ha4 ha4 (yba hv16).1 (yca eI (yba hv16).2) ha4 (B6 (gW 3 eI hv16) ha4 ha4 (lnP v3.2) ha4 ha4 (B6 ha3 ha4 ha3 ha2 ha3 ha2 (B6 ha5 ha5 ha6 ha6 ha5 ha6 (A3 ha2 ha5 ha2))))))))
   replace hw17:=ysh ha6 hw17
   have hw17:=oi hw17
   subst hw17
   exact(r_gq [dL 1 (eU .u8) a1,dP 5 v3.1,vP 6 40 v3.2,vP 7 40 v4.1,pB 8 v4.2,vP 9 40 v5.1,pB 189 false] [(2,gT),(3,gT),(4,{g:=some true,n:=some v11.1.length}),(5,gT),(6,gT),(7,gT),(8,gF),(9,gF),(10,{g:=some false,n:=some v11.1.length}),(11,gF),(12,gF),(13,gF),(14,{g:=some false,row:=some (eI v16)}),(15,{g:=some false,row:=some (eI v16)}),(16,gF),(17,{g:=some false,n:=some v3.2.length}),(18,gF),(19,gF),(20,gFbF),(21,gF),(22,{g:=some true,b:=some false}),(23,gT),(24,gF),(25,gF),(26,gF),(27,gF),(28,gFbF),(29,{g:=some true,b:=some false}),(30,bT)] (B6 ha2 ha2 ha2 q3 ha2 ha2 (B6 ha2 ha3 ha3 ha3 q3 ha3 (B6 ha3 ha4 ha4 (yba hv16).1 (yca eI (yba hv16).2) ha4 (B6 (gW 3 eI hv16) ha4 ha4 (lnP v3.2) ha4 ha4 (B6 ha3 ha4 ha3 ha2 ha3 ha2 (B6 ha5 ha5 ha6 ha6 ha5 ha6 (A3 ha2 ha5 ha2))))))))
  replace hw17:=ysh ha2 hw17
  have hw17:=oi hw17
  subst hw17
  exact(r_gq [dL 1 (eU .u8) a1,dP 5 v3.1,vP 6 40 v3.2,vP 7 40 v4.1,pB 8 v4.2,vP 9 40 v5.1,pB 189 false] [(2,gF),(3,gF),(4,gF),(5,gF),(6,gF),(7,gF),(22,gF),(23,gF),(29,gF),(30,bF)] (B6 ha2 ha2 ha2 ha2 ha2 ha2 (A4 ha2 ha2 ha2 ha2)))
 refine kI h (fun hc2_17 h=>?_) (fun hc2_17 h=>?_)
 ·refine kG [pB 4 false] [] trivial ?_
  refine yra (q_r ?_)
  obtain rfl:=oi h
  exact er [(.p (.bool false),4)]
 refine yga (q_n (yib (J:=fun (x:Unit)=>[dL 1 (eU .u8) a1]) (K:=fun x=>laws_FnChains_k1 a1 x=some r) (fun x19 h=>?_) ?_))
 ·unfold laws_FnChains_k1 at h
  obtain⟨v20,hv20,h⟩:=bs h
  refine kG [dL 1 (eU .u8) a1,dP 26 v20.1,vP 27 40 v20.2.1,pI 28 v20.2.2] [(1,{call:=some (none,[.d false (sP v20.1),.ov false (oP 40 v20.2.1),.p (iV v20.2.2)],false)})] (A1 (ykt hv20)) ?_
  obtain⟨v21,hv21,h⟩:=bs h
  refine kG [dL 1 (eU .u8) a1,dP 26 v20.1,vP 27 40 v20.2.1,pI 28 v20.2.2,pI 29 v21.1,pB 30 v21.2] [(3,(cS [.d false (sP v20.1),.d false (sP v20.2.1),wI v20.2.2] [.p (iV v21.1),.p (.bool v21.2)]))] (A2 (show([.d false (sP v20.1),.d false [.sl none (eraL (v20.2.1.map ePt))],wI v20.2.2]:List Arg)=[.d false (sP v20.1),.d false (sP v20.2.1),wI v20.2.2] from(by simp only[erPt])) (yxw hv21)) ?_
  obtain⟨v22,hv22,h⟩:=bs h
  refine kG [dL 1 (eU .u8) a1,pI 29 v21.1,pB 30 v21.2,pI 31 v22.1,pB 32 v22.2] [(3,(cS [.d false (sP v20.1),.d false (sP v20.2.1),wI v20.2.2] [.p (iV v22.1),.p (.bool v22.2)]))] (A2 (show([.d false (sP v20.1),.d false [.sl none (eraL (v20.2.1.map ePt))],wI v20.2.2]:List Arg)=[.d false (sP v20.1),.d false (sP v20.2.1),wI v20.2.2] from(by simp only[erPt])) (yzw hv22)) ?_
  obtain⟨v23,hv23,h⟩:=bs h
  refine kG [pI 29 v21.1,pB 30 v21.2,pI 31 v22.1,pB 32 v22.2,dP 33 v23.1,bP 34 v23.2.1,bP 35 v23.2.2] [(1,{call:=some (none,[.d false (sP v23.1),.p (vPt v23.2.1),.p (vPt v23.2.2)],false)})] (A1 (yws hv23)) ?_
  obtain⟨v24,hv24,h⟩:=bs h
  refine kG [pI 29 v21.1,pB 30 v21.2,pI 31 v22.1,pB 32 v22.2,dP 33 v23.1,bP 34 v23.2.1,bP 35 v23.2.2,pB 36 v24.1,pB 37 v24.2] [hC 3 [.p (.bool v24.1),.p (.bool v24.2)]] (A1 (ygq hv24)) ?_
  obtain⟨v25,hv25,h⟩:=bs h
  refine kG [pI 29 v21.1,pB 30 v21.2,pI 31 v22.1,pB 32 v22.2,dP 33 v23.1,bP 34 v23.2.1,bP 35 v23.2.2,pB 36 v24.1,pB 37 v24.2,pB 38 v25.1,pB 39 v25.2] [hC 3 [.p (.bool v25.1),.p (.bool v25.2)]] (A1 (yaw hv25)) ?_
  refine yab (yza (l1:=[dP 33 v23.1,bP 34 v23.2.1,bP 35 v23.2.2,pB 37 v24.2,pB 38 v25.1,pB 321 ((!(v21.2==v22.2))||((v21.1 != v22.1)||((!(v24.2==v25.2))||(!(v24.1==v25.1)))))]) ?_ ?_)
  ·rcases ft (!(v21.2==v22.2)) with ha3 | ha3
   ·exact RegOk.of_eq (r_gq [dP 33 v23.1,bP 34 v23.2.1,bP 35 v23.2.2,pB 37 v24.2,pB 38 v25.1,pB 321 true] [(4,gT),(5,gT),(6,gT),(7,bT),(9,gT),(10,gT),(11,gT),(12,bT),(14,gT),(15,gT),(16,gT),(17,bT)] (B6 ha3 ha3 ha3 ha3 tT tT (A6 tT tT tT tT tT tT))) (by simp[ha3])
   rcases ft (v21.1 != v22.1) with ha4 | ha4
   ·exact RegOk.of_eq (r_gq [dP 33 v23.1,bP 34 v23.2.1,bP 35 v23.2.2,pB 37 v24.2,pB 38 v25.1,pB 321 true] [(4,gF),(5,gF),(6,gF),(7,bF),(9,gT),(10,gT),(11,gT),(12,bT),(14,gT),(15,gT),(16,gT),(17,bT)] (B6 ha3 ha3 ha3 ha3 ha4 ha4 (A6 ha4 ha4 tT tT tT tT))) (by simp[ha3,ha4])
   rcases ft (!(v24.2==v25.2)) with ha5 | ha5
   ·exact RegOk.of_eq (r_gq [dP 33 v23.1,bP 34 v23.2.1,bP 35 v23.2.2,pB 37 v24.2,pB 38 v25.1,pB 321 true] [(4,gF),(5,gF),(6,gF),(7,bF),(9,gF),(10,gF),(11,gF),(12,bF),(14,gT),(15,gT),(16,gT),(17,bT)] (B6 ha3 ha3 ha3 ha3 ha4 ha4 (A6 ha4 ha4 ha5 ha5 ha5 ha5))) (by(try rw[ha3]);(try rw[ha4]);(try rw[ha5]);all_goals (first | rfl | simp[ha3,ha4,ha5]))
   exact RegOk.of_eq (r_gq [dP 33 v23.1,bP 34 v23.2.1,bP 35 v23.2.2,pB 37 v24.2,pB 38 v25.1,pB 321 (!(v24.1==v25.1))] [(4,gF),(5,gF),(6,gF),(7,bF),(9,gF),(10,gF),(11,gF),(12,bF),(14,gF),(15,gF),(16,gF),(17,bF)] (B6 ha3 ha3 ha3 ha3 ha4 ha4 (A6 ha4 ha4 ha5 ha5 ha5 ha5))) (by(try rw[ha3]);(try rw[ha4]);(try rw[ha5]);all_goals (first | rfl | simp[ha3,ha4,ha5]))
  refine kI h (fun hc2_25 h=>?_) (fun hc2_25 h=>?_)
  ·refine kG [pB 4 false] [] trivial ?_
   refine yra (q_r ?_)
   obtain rfl:=oi h
   exact er [(.p (.bool false),4)]
  refine yga (q_n (yab (kG [dP 33 v23.1,bP 34 v23.2.1,bP 35 v23.2.2,pB 38 v25.1,pB 322 v24.2] [] trivial ?_)))
  refine kI h (fun hc2_26 h=>?_) (fun hc2_26 h=>?_)
  ·obtain⟨v28,hv28,h⟩:=bs h
   refine kG [pB 38 v25.1,pB 40 v28.1,pB 41 v28.2] [hC 3 [.p (.bool v28.1),.p (.bool v28.2)]] (A1 (ygq hv28)) ?_
   refine yza (l1:=[pB 336 ((!v28.2)||(!(v28.1==v25.1)))]) ?_ ?_
   ·rcases ft (!v28.2) with ha5 | ha5
    ·exact RegOk.of_eq (r_gq [pB 336 true] [(3,gT),(4,gT),(5,gT),(6,bT)] (A4 ha5 ha5 ha5 ha5)) (by simp[ha5])
    exact RegOk.of_eq (r_gq [pB 336 (!(v28.1==v25.1))] [(3,gF),(4,gF),(5,gF),(6,bF)] (A4 ha5 ha5 ha5 ha5)) (by simp[ha5])
   refine kI h (fun hc2_28 h=>?_) (fun hc2_28 h=>?_)
   ·refine kG [pB 4 false] [] trivial ?_
    refine yra (q_r ?_)
    obtain rfl:=oi h
    exact er [(.p (.bool false),4)]
   refine yga (q_n (kG [pB 4 true] [] trivial ?_))
   refine yra ?_
   obtain rfl:=oi h
   exact er [(.p (.bool true),4)]
  refine yga (q_n (kG [pB 4 true] [] trivial ?_))
  refine yra ?_
  obtain rfl:=oi h
  exact er [(.p (.bool true),4)]
 refine kG [dL 1 (eU .u8) a1,dP 5 v3.1,vP 6 40 v3.2,vP 7 40 v4.1,vP 9 40 v5.1,pB 190 v4.2] [] trivial ?_
 refine kI h (fun hc2_29 h=>?_) (fun hc2_29 h=>?_)
 ·refine yab ?_
  obtain⟨w33,hw33,h⟩:=bs h
  refine yza (l1:=[dL 1 (eU .u8) a1,dP 5 v3.1,vP 6 40 v3.2,vP 7 40 v4.1,vP 9 40 v5.1,pB 210 w33]) ?_ ?_
  ·clear h
   rcases ft ((v5.1.length:Int) != (v3.2.length:Int)) with ha4 | ha4
   ·replace hw33:=yrh ha4 hw33
    have hw33:=oi hw33
    subst hw33
    exact(r_dq yda 18 [] [dL 1 (eU .u8) a1,dP 5 v3.1,vP 6 40 v3.2,vP 7 40 v4.1,vP 9 40 v5.1,pB 210 true] [hN 1 v5.1,hN 3 v3.2,(6,gT),(7,gT),(8,gT),(9,gT),(10,gT),(11,gT),(12,gT),(13,gT),(14,gT),(15,gT),(16,gT),(17,gT),(18,gT),(19,bT)] (B6 (lnP v5.1) (lnP v3.2) ha4 ha4 ha4 ha4 (B6 ha4 ha4 ha4 ha4 ha4 ha4 (A4 ha4 ha4 ha4 ha4))))
   obtain⟨v31,hv31,hw33⟩:=bs (ysh ha4 hw33)
   obtain⟨v32,hv32,hw33⟩:=bs hw33
   have hw33:=oi hw33
   subst hw33
   exact(r_dq yda 18 [] [dL 1 (eU .u8) a1,dP 5 v3.1,vP 6 40 v3.2,vP 7 40 v4.1,vP 9 40 v5.1,pB 210 (!(((v31.1.1==v32.1.1)&&(v31.1.2==v32.1.2))&&((v31.2.1==v32.2.1)&&(v31.2.2==v32.2.2))))] [hN 1 v5.1,hN 3 v3.2,(6,gF),(7,gF),(8,{g:=some false,n:=some v3.2.length}),(9,gF),(10,{g:=some false,row:=some (ePt v31)}),(11,{g:=some false,row:=some (ePt v31)}),(12,gF),(13,gF),(14,{g:=some false,n:=some v3.2.length}),(15,gF),(16,{g:=some false,row:=some (ePt v32)}),(17,{g:=some false,row:=some (ePt v32)}),(18,(hB (!(((v31.1.1==v32.1.1)&&(v31.1.2==v32.1.2))&&((v31.2.1==v32.2.1)&&(v31.2.2==v32.2.2)))))),(19,bF)] (B6 (lnP v5.1) (lnP v3.2) ha4 ha4 ha4 (lnP v3.2) (B6 ha4 ha4 (yba hv31).1 (yca ePt (yba hv31).2) ha4 (gW 40 ePt hv31) (B6 ha4 ha4 ha4 (lnP v3.2) ha4 ha4 (B6 (yba hv32).1 (yca ePt (yba hv32).2) ha4 (gW 40 ePt hv32) ha4 (show PureAt Tryz.prog (.binOp .neq 40 (.tmp 202) (.tmp 208) 40) [vPt v31,vPt v32] (.bool (!(((v31.1.1==v32.1.1)&&(v31.1.2==v32.1.2))&&((v31.2.1==v32.2.1)&&(v31.2.2==v32.2.2))))) from(yth1 (by kernel_rfl))) (A1 ha4))))))
  refine kI h (fun hc3_33 h=>?_) (fun hc3_33 h=>?_)
  ·refine kG [pB 4 false] [] trivial ?_
   refine yra (q_r (q_r ?_))
   obtain rfl:=oi h
   exact er [(.p (.bool false),4)]
  refine yga (q_n (kG [dL 1 (eU .u8) a1,dP 5 v3.1,vP 6 40 v3.2,vP 7 40 v4.1,vP 9 40 v5.1,pI 23 0] [] trivial ?_))
  refine yfa ?_
  obtain⟨y36,hl_x35,hk_x35⟩:=bs h
  clear h
  refine yfc (J:=fun (x:Int)=>[dL 1 (eU .u8) a1,dP 5 v3.1,vP 6 40 v3.2,vP 7 40 v4.1,vP 9 40 v5.1,pI 23 x]) hl_x35 wkk (fun x35 o_x35 h hy_x35=>?_)
  unfold laws_FnChains_b1 at h
  refine yab (kG [dL 1 (eU .u8) a1,dP 5 v3.1,vP 6 40 v3.2,vP 7 40 v4.1,vP 9 40 v5.1,pI 23 x35,pB 215 (decide ((w64 (x35+1))<(v5.1.length:Int)))] [hN 3 v5.1] (A1 (lnP v5.1)) ?_)
  refine kI h (fun hc5_36 h=>?_) (fun hc5_36 h=>?_)
  ·refine yga (q_n (yab (yfa ?_)))
   obtain⟨v38,hv38,h⟩:=bs h
   obtain⟨v39,hv39,h⟩:=bs h
   obtain⟨v40,hv40,h⟩:=bs h
   refine yza (r_dq yda 10 [] [dL 1 (eU .u8) a1,dP 5 v3.1,vP 6 40 v3.2,vP 7 40 v4.1,vP 9 40 v5.1,pI 23 x35,pB 24 v40.1,pB 25 v40.2] [hR 3 (ePt v38),hR 4 (ePt v38),hR 8 (ePt v39),hR 9 (ePt v39),hC 10 [.p (.bool v40.1),.p (.bool v40.2)]] (B6 (yba hv38).1 (yca ePt (yba hv38).2) (gW 40 ePt hv38) (yba hv39).1 (yca ePt (yba hv39).2) (gW 40 ePt hv39) (A1 (yit hv40)))) ?_
   obtain⟨w45,hw45,h⟩:=bs h
   refine yza (l1:=[dL 1 (eU .u8) a1,dP 5 v3.1,vP 6 40 v3.2,vP 7 40 v4.1,vP 9 40 v5.1,pI 23 x35,pB 263 w45]) ?_ ?_
   ·clear h
    rcases ft (!v40.2) with ha6 | ha6
    ·replace hw45:=yrh ha6 hw45
     have hw45:=oi hw45
     subst hw45
     exact(r_dq yda 30 [] [dL 1 (eU .u8) a1,dP 5 v3.1,vP 6 40 v3.2,vP 7 40 v4.1,vP 9 40 v5.1,pI 23 x35,pB 263 true] [(3,gT),(4,gT),(5,bT),(7,gT),(8,gT),(9,gT),(10,gT),(11,gT),(12,gT),(13,gT),(14,gT),(15,gT),(16,gT),(17,gT),(18,bT),(20,gT),(21,gT),(22,gT),(23,gT),(24,gT),(25,gT),(26,gT),(27,gT),(28,gT),(29,gT),(30,gT),(31,bT)] (B6 ha6 ha6 ha6 tT tT tT (B6 tT tT tT tT tT tT (B6 tT tT tT tT tT tT (B6 tT tT tT tT tT tT (A3 tT tT tT))))))
    replace hw45:=ysh ha6 hw45
    rcases ft (!v40.1) with ha7 | ha7
    ·replace hw45:=yrh ha7 hw45
     have hw45:=oi hw45
     subst hw45
     exact(r_dq yda 30 [] [dL 1 (eU .u8) a1,dP 5 v3.1,vP 6 40 v3.2,vP 7 40 v4.1,vP 9 40 v5.1,pI 23 x35,pB 263 true] [(3,gF),(4,gF),(5,bF),(7,gT),(8,gT),(9,gT),(10,gT),(11,gT),(12,gT),(13,gT),(14,gT),(15,gT),(16,gT),(17,gT),(18,bT),(20,gT),(21,gT),(22,gT),(23,gT),(24,gT),(25,gT),(26,gT),(27,gT),(28,gT),(29,gT),(30,gT),(31,bT)] (B6 ha6 ha6 ha6 ha7 ha7 ha7 (B6 ha7 ha7 ha7 ha7 ha7 ha7 (B6 ha7 ha7 ha7 tT tT tT (B6 tT tT tT tT tT tT (A3 tT tT tT))))))
    obtain⟨v41,hv41,hw45⟩:=bs (ysh ha7 hw45)
    obtain⟨v42,hv42,hw45⟩:=bs hw45
    obtain⟨v43,hv43,hw45⟩:=bs hw45
    rcases ft v43 with ha8 | ha8
    ·replace hw45:=yrh ha8 hw45
     have hw45:=oi hw45
     subst hw45
     exact(r_dq yda 30 [] [dL 1 (eU .u8) a1,dP 5 v3.1,vP 6 40 v3.2,vP 7 40 v4.1,vP 9 40 v5.1,pI 23 x35,pB 263 true] [(3,gF),(4,gF),(5,bF),(7,gF),(8,gF),(9,{g:=some false,row:=some (ePt v41)}),(10,gF),(11,{g:=some false,row:=some (ePt v41)}),(12,gF),(13,gF),(14,{g:=some false,row:=some (ePt v42)}),(15,gF),(16,{g:=some false,row:=some (ePt v42)}),(17,(gN [.p (.bool v43)])),(18,bF),(20,gT),(21,gT),(22,gT),(23,gT),(24,gT),(25,gT),(26,gT),(27,gT),(28,gT),(29,gT),(30,gT),(31,bT)] (B6 ha6 ha6 ha6 ha7 ha7 ha7 (B6 (yba hv41).1 (yca ePt (yba hv41).2) ha7 ha7 (gW 40 ePt hv41) ha7 (B6 ha7 ha7 (yba hv42).1 (yca ePt (yba hv42).2) ha7 ha7 (B6 (gW 40 ePt hv42) ha7 (yjt hv43) ha7 ha8 ha8 (B6 ha8 ha8 ha8 ha8 ha8 ha8 (A4 ha8 ha8 ha8 ha8)))))))
    obtain⟨v44,hv44,hw45⟩:=bs (ysh ha8 hw45)
    have hw45:=oi hw45
    subst hw45
    exact(r_dq yda 30 [] [dL 1 (eU .u8) a1,dP 5 v3.1,vP 6 40 v3.2,vP 7 40 v4.1,vP 9 40 v5.1,pI 23 x35,pB 263 v44] [(3,gF),(4,gF),(5,bF),(7,gF),(8,gF),(9,{g:=some false,row:=some (ePt v41)}),(10,gF),(11,{g:=some false,row:=some (ePt v41)}),(12,gF),(13,gF),(14,{g:=some false,row:=some (ePt v42)}),(15,gF),(16,{g:=some false,row:=some (ePt v42)}),(17,(gN [.p (.bool v43)])),(18,bF),(20,gF),(21,gF),(22,{g:=some false,row:=some (ePt v42)}),(23,gF),(24,{g:=some false,row:=some (eRt v42.2)}),(25,gF),(26,gF),(27,{g:=some false,row:=some (ePt v41)}),(28,gF),(29,{g:=some false,row:=some (eRt v41.2)}),(30,(gN [.p (.bool v44)])),(31,bF)] (B6 ha6 ha6 ha6 ha7 ha7 ha7 (B6 (yba hv41).1 (yca ePt (yba hv41).2) ha7 ha7 (gW 40 ePt hv41) ha7 (B6 ha7 ha7 (yba hv42).1 (yca ePt (yba hv42).2) ha7 ha7 (B6 (gW 40 ePt hv42) ha7 (yjt hv43) ha7 ha8 ha8 (B6 ha8 (yba hv42).1 (yca ePt (yba hv42).2) ha8 ha8 (show getRow [(oP 40 v3.2)] [(0,0),((Int.toNat x35),2)]=some (eRt v42.2) from((gr0 rfl).trans (gre (yca ePt (yba hv42).2)))) (B6 ha8 ha8 ha8 (yba hv41).1 (yca ePt (yba hv41).2) ha8 (A5 ha8 (show getRow [(oP 40 v5.1)] [(0,0),((Int.toNat x35),2)]=some (eRt v41.2) from((gr0 rfl).trans (gre (yca ePt (yba hv41).2)))) ha8 (yjt hv44) ha8))))))))
   refine kI h (fun hc6_45 h=>?_) (fun hc6_45 h=>?_)
   ·refine kG [pB 4 false] [] trivial ?_
    refine yra (b_r (q_r (lq_r ?_)))
    refine b_r (q_r ?_)
    have hyy:=hy_x35 _ (oi h).symm
    subst hyy
    have h:=hk_x35
    dsimp only[Sum.elim] at h
    obtain rfl:=oi h
    exact er [(.p (.bool false),4)]
   refine yga (b_n (q_n (yub (r_gq [dL 1 (eU .u8) a1,dP 5 v3.1,vP 6 40 v3.2,vP 7 40 v4.1,vP 9 40 v5.1,pI 23 (w64 (x35+1))] [] trivial) ?_)))
   exact lqn (w64 (x35+1)) h
  refine ywb (q_x (lq_x (b_x ?_)))
  have hyy:=hy_x35 _ (oi h).symm
  subst hyy
  have h:=hk_x35
  dsimp only[Sum.elim] at h
  refine q_n ?_
  exact jx () h
 refine yga (q_n ?_)
 exact jx () h
end Go.PV

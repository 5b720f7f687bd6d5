/-
  Walks through the functions that the law reaches: each answers as its plain definition does.
  Conditions: none.
-/
import Derived.KernelRfl
import Derived.Test.YtigabkbbbpokbaaGreatWMarkovPartC
import Derived.Test.YtigabkbbbpokbaaGreatProg
import Derived.Test.YtigabkbbbpokbaaGreatSrtYtigabkbbbpokbaaGreat
import Derived.Test.YtigabkbbbpokbaaGreatGrwYtigabkbbbpokbaaGreat
import Derived.Test.YtigabkbbbpokbaaGreatPvCx
open Go Go.PV Go.Proofs
set_option linter.all false
namespace Go.PV
attribute [local irreducible] pvC pvL pvD sOp seqQ blockQ Meets MeetsB Ok OkL RegOk agree endQ seqL blockL loopQ endL endLB OkV Takes
theorem wk_laws_FnMarkov {a0:(List Int)} {a1:(List Int)}  {r:Bool} (h:laws_FnMarkov a0 a1=some r):Meets Tryz.prog 4 [.d false [.sl none (a0.map (eU .u8))],.d false [.sl none (a1.map (eU .u8))]] { vals:=[.p (.bool r)] }:=by
 refine mo Tryz.func4 [dL 0 (eU .u8) a0,dL 1 (eU .u8) a1] ?_
 unfold laws_FnMarkov at h
 refine kG [dL 0 (eU .u8) a0,dL 1 (eU .u8) a1] [] trivial ?_
 refine yeb ?_
 obtain⟨v1,hv1,h⟩:=bs h
 refine kG [dL 0 (eU .u8) a0,dL 1 (eU .u8) a1,pB 56 v1] [hC 2 [.p (.bool v1)]] (A1 (yqm1 hv1)) ?_
 refine kI h (fun hc2_1 h=>?_) (fun hc2_1 h=>?_)
 ·refine kG [pB 4 true] [] trivial ?_
  refine ypa (q_r ?_)
  obtain rfl:=oi h
  exact er [(.p (.bool true),4)]
 refine yga (q_n ?_)
 obtain⟨v3,hv3,h⟩:=bs h
 refine kG [dL 1 (eU .u8) a1,vP 5 96 v3.1,pB 6 v3.2] [hC 1 [.ov false (oP 96 v3.1),.p (.bool v3.2)]] (A2 (ygs hv3) (show List.all [.ov false (oP 96 v3.1),.p (.bool v3.2)] simpleR=true from(sa_o (wnR1 (yvc (wn_P (wn_P wn_I wn_I) (wn_P wn_I wn_I))) rfl) (sa_p rfl)))) ?_
 obtain⟨v4,hv4,h⟩:=bs h
 refine kG [dL 1 (eU .u8) a1,dP 5 v3.1,pB 6 v3.2,dL 7 eRt v4.1,pB 8 v4.2] [(2,{call:=some (some [.d false (sP v3.1),.v (.bool v3.2)],[.d false [.sl none (v4.1.map eRt)],.p (.bool v4.2)],false),fix:=some (dP 5 v3.1)})] (A3 (show([.d false [.sl none (eraL (v3.1.map ePt))],.v (.bool v3.2)]:List Arg)=[.d false (sP v3.1),.v (.bool v3.2)] from(by simp only[erPt])) (yeu hv4) (show(SV.d false (eraR (oP 96 v3.1)):SV)=.d false (sP v3.1) from(congrArg (fun z=>SV.d false z) (yqf (yka (ywt (ywt er_I er_I) (ywt er_I er_I))) rfl)))) ?_
 obtain⟨v5,hv5,h⟩:=bs h
 refine kG [dL 1 (eU .u8) a1,dP 5 v3.1,pB 6 v3.2,dL 7 eRt v4.1,pB 8 v4.2,vL 9 38 eRt v5.1,pB 10 v5.2] [hC 2 [rO 38 eRt v5.1,.p (.bool v5.2)]] (A2 (yhu hv5) (show List.all [rO 38 eRt v5.1,.p (.bool v5.2)] simpleR=true from(sa_o (wnR1 (yvc (wn_P wn_I wn_I)) rfl) (sa_p rfl)))) ?_
 refine yeb ?_
 obtain⟨w7,hw7,h⟩:=bs h
 refine ynb (l1:=[dL 1 (eU .u8) a1,dP 5 v3.1,pB 6 v3.2,dL 7 eRt v4.1,pB 8 v4.2,vL 9 38 eRt v5.1,pB 82 w7]) ?_ ?_
 ·clear h
  rcases ft (!(v4.2==v5.2)) with ha1 | ha1
  ·replace hw7:=yjh ha1 hw7
   have hw7:=oi hw7
   subst hw7
   exact(r_gq [dL 1 (eU .u8) a1,dP 5 v3.1,pB 6 v3.2,dL 7 eRt v4.1,pB 8 v4.2,vL 9 38 eRt v5.1,pB 82 true] [(4,gT),(5,gT),(6,gT),(7,gT),(8,bT)] (A5 ha1 ha1 ha1 ha1 ha1))
  obtain⟨v6,hv6,hw7⟩:=bs (ykh ha1 hw7)
  have hw7:=oi hw7
  subst hw7
  exact(r_gq [dL 1 (eU .u8) a1,dP 5 v3.1,pB 6 v3.2,dL 7 eRt v4.1,pB 8 v4.2,vL 9 38 eRt v5.1,pB 82 (!v6)] [(4,gF),(5,gF),(6,(gC [.d false [.sl none (v4.1.map eRt)],.d false [.sl none (v5.1.map eRt)]] [.p (.bool v6)])),(7,gF),(8,bF)] (B6 ha1 ha1 ha1 (show([.d false [.sl none (v4.1.map eRt)],.d false [.sl none (eraL (v5.1.map eRt))]]:List Arg)=[.d false [.sl none (v4.1.map eRt)],.d false [.sl none (v5.1.map eRt)]] from(by simp only[yka (h:=eRt) (ywt er_I er_I)])) (yya1 hv6) ha1 (A1 ha1)))
 refine kI h (fun hc2_7 h=>?_) (fun hc2_7 h=>?_)
 ·refine kG [pB 4 false] [] trivial ?_
  refine ypa (q_r ?_)
  obtain rfl:=oi h
  exact er [(.p (.bool false),4)]
 refine yga (q_n (yjb (J:=fun (x:Unit)=>[dL 1 (eU .u8) a1]) (K:=fun x=>laws_FnMarkov_k1 a1 x=some r) (fun x9 h=>?_) ?_))
 ·unfold laws_FnMarkov_k1 at h
  obtain⟨v10,hv10,h⟩:=bs h
  refine kG [dL 1 (eU .u8) a1,dP 33 v10.1,dL 34 eRt v10.2.1,bR 35 v10.2.2.1,pI 36 v10.2.2.2] [(1,{call:=some (none,[.d false (sP v10.1),.d false [.sl none (v10.2.1.map eRt)],.p (vRt v10.2.2.1),.p (iV v10.2.2.2)],false)})] (A1 (yzv hv10)) ?_
  obtain⟨v11,hv11,h⟩:=bs h
  refine kG [dL 1 (eU .u8) a1,dP 33 v10.1,dL 34 eRt v10.2.1,bR 35 v10.2.2.1,pI 36 v10.2.2.2,vL 37 3 eI v11.1,pB 38 v11.2] [hC 4 [rO 3 eI v11.1,.p (.bool v11.2)]] (A2 (ybb1 hv11) (show List.all [rO 3 eI v11.1,.p (.bool v11.2)] simpleR=true from(sa_o (wnR1 (yvc wn_I) rfl) (sa_p rfl)))) ?_
  obtain⟨v12,hv12,h⟩:=bs h
  refine kG [dL 1 (eU .u8) a1,pI 36 v10.2.2.2,vL 37 3 eI v11.1,pB 38 v11.2,vL 39 3 eI v12.1,pB 40 v12.2] [hC 4 [rO 3 eI v12.1,.p (.bool v12.2)]] (A2 (ycb1 hv12) (show List.all [rO 3 eI v12.1,.p (.bool v12.2)] simpleR=true from(sa_o (wnR1 (yvc wn_I) rfl) (sa_p rfl)))) ?_
  refine yeb ?_
  obtain⟨w14,hw14,h⟩:=bs h
  refine ynb (l1:=[dL 1 (eU .u8) a1,pB 282 w14]) ?_ ?_
  ·clear h
   have q1:([.d false [.sl none (eraL (v11.1.map eI))],.d false [.sl none (eraL (v12.1.map eI))]]:List Arg)=[.d false [.sl none (v11.1.map eI)],.d false [.sl none (v12.1.map eI)]]:=(by simp only[yka (h:=eI) er_I,yka (h:=eI) er_I])
   rcases ft (!(v11.2==v12.2)) with ha2 | ha2
   ·replace hw14:=yjh ha2 hw14
    have hw14:=oi hw14
    subst hw14
    exact(r_gq [dL 1 (eU .u8) a1,pB 282 true] [(4,gT),(5,gT),(6,gT),(7,gT),(8,bT),(10,gT),(11,gT),(17,gT),(18,bT)] (B6 ha2 ha2 ha2 ha2 ha2 tT (A3 tT tT tT)))
   obtain⟨v13,hv13,hw14⟩:=bs (ykh ha2 hw14)
   rcases ft (!v13) with ha3 | ha3
   ·replace hw14:=yjh ha3 hw14
    have hw14:=oi hw14
    subst hw14
    exact(r_gq [dL 1 (eU .u8) a1,pB 282 true] [(4,gF),(5,gF),(6,(gC [.d false [.sl none (v11.1.map eI)],.d false [.sl none (v12.1.map eI)]] [.p (.bool v13)])),(7,gF),(8,bF),(10,gT),(11,gT),(17,gT),(18,bT)] (B6 ha2 ha2 ha2 q1 (ycj hv13) ha2 (A5 ha2 ha3 ha3 ha3 ha3)))
   replace hw14:=ykh ha3 hw14
   rcases ft v11.2 with ha4 | ha4
   ·replace hw14:=yjh ha4 hw14
    have hw14:=oi hw14
    subst hw14
    exact(r_gq [dL 1 (eU .u8) a1,pB 282 ((v12.1.length:Int) != (w64 (v10.2.2.2+1)))] [(4,gF),(5,gF),(6,(gC [.d false [.sl none (v11.1.map eI)],.d false [.sl none (v12.1.map eI)]] [.p (.bool v13)])),(7,gF),(8,bF),(10,gF),(11,gF),(12,gT),(13,{g:=some true,n:=some v12.1.length}),(14,gT),(15,gT),(16,gT),(17,gFbT),(18,bF)] (B6 ha2 ha2 ha2 q1 (ycj hv13) ha2 (B6 ha2 ha3 ha3 ha4 ha4 (lF eI v12.1) (A6 ha4 ha4 ha4 ha3 ha4 ha3))))
   replace hw14:=ykh ha4 hw14
   have hw14:=oi hw14
   subst hw14
   exact(r_gq [dL 1 (eU .u8) a1,pB 282 false] [(4,gF),(5,gF),(6,(gC [.d false [.sl none (v11.1.map eI)],.d false [.sl none (v12.1.map eI)]] [.p (.bool v13)])),(7,gF),(8,bF),(10,gF),(11,gF),(12,gF),(13,gF),(14,gF),(15,gF),(16,gF),(17,gFbF),(18,bF)] (B6 ha2 ha2 ha2 q1 (ycj hv13) ha2 (B6 ha2 ha3 ha3 ha4 ha4 ha4 (A5 ha4 ha4 ha3 ha4 ha3))))
  refine kI h (fun hc2_14 h=>?_) (fun hc2_14 h=>?_)
  ·refine kG [pB 4 false] [] trivial ?_
   refine ypa (q_r ?_)
   obtain rfl:=oi h
   exact er [(.p (.bool false),4)]
  refine yga (q_n ?_)
  obtain⟨v16,hv16,h⟩:=bs h
  refine kG [vP 41 96 v16.1,dL 42 eRt v16.2.1,pI 43 v16.2.2] [(1,{call:=some (none,[.ov false (oP 96 v16.1),.d false [.sl none (v16.2.1.map eRt)],.p (iV v16.2.2)],false)})] (A1 (you hv16)) ?_
  obtain⟨v17,hv17,h⟩:=bs h
  refine kG [vP 41 96 v16.1,dL 42 eRt v16.2.1,pI 43 v16.2.2,pI 44 v17.1,pB 45 v17.2] [(3,(cS [.d false (sP v16.1),.d false [.sl none (v16.2.1.map eRt)],wI v16.2.2] [.p (iV v17.1),.p (.bool v17.2)]))] (A2 (show([.d false [.sl none (eraL (v16.1.map ePt))],.d false [.sl none (v16.2.1.map eRt)],wI v16.2.2]:List Arg)=[.d false (sP v16.1),.d false [.sl none (v16.2.1.map eRt)],wI v16.2.2] from(by simp only[erPt])) (yrz hv17)) ?_
  obtain⟨v18,hv18,h⟩:=bs h
  refine kG [vP 41 96 v16.1,dL 42 eRt v16.2.1,pI 43 v16.2.2,pI 44 v17.1,pB 45 v17.2,pI 46 v18.1,pB 47 v18.2] [(3,(cS [.d false (sP v16.1),.d false [.sl none (v16.2.1.map eRt)],wI v16.2.2] [.p (iV v18.1),.p (.bool v18.2)]))] (A2 (show([.d false [.sl none (eraL (v16.1.map ePt))],.d false [.sl none (v16.2.1.map eRt)],wI v16.2.2]:List Arg)=[.d false (sP v16.1),.d false [.sl none (v16.2.1.map eRt)],wI v16.2.2] from(by simp only[erPt])) (ysz hv18)) ?_
  refine yeb (ynb (l1:=[vP 41 96 v16.1,dL 42 eRt v16.2.1,pI 43 v16.2.2,pB 45 v17.2,pI 46 v18.1,pB 310 ((!(v17.2==v18.2))||(v17.1 != v18.1))]) ?_ ?_)
  ·rcases ft (!(v17.2==v18.2)) with ha3 | ha3
   ·exact RegOk.of_eq (r_gq [vP 41 96 v16.1,dL 42 eRt v16.2.1,pI 43 v16.2.2,pB 45 v17.2,pI 46 v18.1,pB 310 true] [(4,gT),(5,gT),(6,gT),(7,bT)] (A4 ha3 ha3 ha3 ha3)) (by simp[ha3])
   exact RegOk.of_eq (r_gq [vP 41 96 v16.1,dL 42 eRt v16.2.1,pI 43 v16.2.2,pB 45 v17.2,pI 46 v18.1,pB 310 (v17.1 != v18.1)] [(4,gF),(5,gF),(6,gF),(7,bF)] (A4 ha3 ha3 ha3 ha3)) (by simp[ha3])
  refine kI h (fun hc2_18 h=>?_) (fun hc2_18 h=>?_)
  ·refine kG [pB 4 false] [] trivial ?_
   refine ypa (q_r ?_)
   obtain rfl:=oi h
   exact er [(.p (.bool false),4)]
  refine yga (q_n (yeb (kG [vP 41 96 v16.1,dL 42 eRt v16.2.1,pI 43 v16.2.2,pI 46 v18.1,pB 311 v17.2] [] trivial ?_)))
  refine kI h (fun hc2_19 h=>?_) (fun hc2_19 h=>?_)
  ·obtain⟨v21,hv21,h⟩:=bs h
   refine kG [vP 41 96 v16.1,dL 42 eRt v16.2.1,pI 43 v16.2.2,pI 46 v18.1,dL 48 (eF eI) v21.1,pB 49 v21.2] [(2,(cS [.d false (sP v16.1),.d false [.sl none (v16.2.1.map eRt)]] [rO 32 (eO 3 eI) v21.1,.p (.bool v21.2)])),(6,{pre:=some (dL 316 (eF eI) v21.1)})] (A4 (show([.d false [.sl none (eraL (v16.1.map ePt))],.d false [.sl none (v16.2.1.map eRt)]]:List Arg)=[.d false (sP v16.1),.d false [.sl none (v16.2.1.map eRt)]] from(by simp only[erPt])) (yum hv21) (show List.all [rO 32 (eO 3 eI) v21.1,.p (.bool v21.2)] simpleR=true from(sa_o (wnR1 (yvc (wn_O wn_I)) rfl) (sa_p rfl))) (show(SV.d false (eraR [.sl (some 32) (v21.1.map (eO 3 eI))]):SV)=.d false [.sl none (v21.1.map (eF eI))] from(congrArg (fun z=>SV.d false z) (yqf (yka (yxr1 er_I)) rfl)))) ?_
   obtain⟨v22,hv22,h⟩:=bs h
   refine kG [pI 43 v16.2.2,pI 46 v18.1,dL 48 (eF eI) v21.1,pB 49 v21.2,dL 50 (eF eI) v22.1,pB 51 v22.2] [(2,(cS [.d false (sP v16.1),.d false [.sl none (v16.2.1.map eRt)]] [rO 32 (eO 3 eI) v22.1,.p (.bool v22.2)])),(6,{pre:=some (dL 322 (eF eI) v22.1)})] (A4 (show([.d false [.sl none (eraL (v16.1.map ePt))],.d false [.sl none (v16.2.1.map eRt)]]:List Arg)=[.d false (sP v16.1),.d false [.sl none (v16.2.1.map eRt)]] from(by simp only[erPt])) (yvr hv22) (show List.all [rO 32 (eO 3 eI) v22.1,.p (.bool v22.2)] simpleR=true from(sa_o (wnR1 (yvc (wn_O wn_I)) rfl) (sa_p rfl))) (show(SV.d false (eraR [.sl (some 32) (v22.1.map (eO 3 eI))]):SV)=.d false [.sl none (v22.1.map (eF eI))] from(congrArg (fun z=>SV.d false z) (yqf (yka (yxr1 er_I)) rfl)))) ?_
   obtain⟨v23,hv23,h⟩:=bs h
   refine kG [pI 46 v18.1,dL 48 (eF eI) v21.1,pB 49 v21.2,dL 50 (eF eI) v22.1,pB 51 v22.2,pI 52 v23.1,pB 53 v23.2] [hC 2 [.p (iV v23.1),.p (.bool v23.2)]] (A1 (ytz hv23)) ?_
   obtain⟨w25,hw25,h⟩:=bs h
   refine ynb (l1:=[pB 350 w25]) ?_ ?_
   ·clear h
    rcases ft (!v21.2) with ha5 | ha5
    ·replace hw25:=yjh ha5 hw25
     have hw25:=oi hw25
     subst hw25
     exact(r_gq [pB 350 true] [(3,gT),(4,gT),(5,bT),(7,gT),(8,gT),(9,gT),(10,gT),(11,bT),(13,gT),(14,gT),(15,bT),(17,gT),(18,gT),(19,gT),(20,bT)] (B6 ha5 ha5 ha5 tT tT tT (B6 tT tT tT tT tT tT (A3 tT tT tT))))
    replace hw25:=ykh ha5 hw25
    rcases ft (!v22.2) with ha6 | ha6
    ·replace hw25:=yjh ha6 hw25
     have hw25:=oi hw25
     subst hw25
     exact(r_gq [pB 350 true] [(3,gF),(4,gF),(5,bF),(7,gT),(8,gT),(9,gT),(10,gT),(11,bT),(13,gT),(14,gT),(15,bT),(17,gT),(18,gT),(19,gT),(20,bT)] (B6 ha5 ha5 ha5 ha6 ha6 ha6 (B6 ha6 ha6 tT tT tT tT (A3 tT tT tT))))
    obtain⟨v24,hv24,hw25⟩:=bs (ykh ha6 hw25)
    rcases ft (!v24) with ha7 | ha7
    ·replace hw25:=yjh ha7 hw25
     have hw25:=oi hw25
     subst hw25
     exact(r_gq [pB 350 true] [(3,gF),(4,gF),(5,bF),(7,gF),(8,gF),(9,(gN [.p (.bool v24)])),(10,gF),(11,bF),(13,gT),(14,gT),(15,bT),(17,gT),(18,gT),(19,gT),(20,bT)] (B6 ha5 ha5 ha5 ha6 ha6 ha6 (B6 (ywc hv24) ha6 ha6 ha7 ha7 ha7 (A4 tT tT tT tT))))
    replace hw25:=ykh ha7 hw25
    rcases ft (!v23.2) with ha8 | ha8
    ·replace hw25:=yjh ha8 hw25
     have hw25:=oi hw25
     subst hw25
     exact(r_gq [pB 350 true] [(3,gF),(4,gF),(5,bF),(7,gF),(8,gF),(9,(gN [.p (.bool v24)])),(10,gF),(11,bF),(13,gF),(14,gF),(15,bF),(17,gT),(18,gT),(19,gT),(20,bT)] (B6 ha5 ha5 ha5 ha6 ha6 ha6 (B6 (ywc hv24) ha6 ha6 ha7 ha7 ha7 (A4 ha8 ha8 ha8 ha8))))
    replace hw25:=ykh ha8 hw25
    have hw25:=oi hw25
    subst hw25
    exact(r_gq [pB 350 (v23.1 != v18.1)] [(3,gF),(4,gF),(5,bF),(7,gF),(8,gF),(9,(gN [.p (.bool v24)])),(10,gF),(11,bF),(13,gF),(14,gF),(15,bF),(17,gF),(18,gF),(19,gF),(20,bF)] (B6 ha5 ha5 ha5 ha6 ha6 ha6 (B6 (ywc hv24) ha6 ha6 ha7 ha7 ha7 (A4 ha8 ha8 ha8 ha8))))
   refine kI h (fun hc2_25 h=>?_) (fun hc2_25 h=>?_)
   ·refine kG [pB 4 false] [] trivial ?_
    refine ypa (q_r ?_)
    obtain rfl:=oi h
    exact er [(.p (.bool false),4)]
   refine yga (q_n (kG [pB 4 true] [] trivial ?_))
   refine ypa ?_
   obtain rfl:=oi h
   exact er [(.p (.bool true),4)]
  refine yga (q_n (kG [pB 4 true] [] trivial ?_))
  refine ypa ?_
  obtain rfl:=oi h
  exact er [(.p (.bool true),4)]
 refine kG [dL 1 (eU .u8) a1,dP 5 v3.1,pB 6 v3.2,dL 7 eRt v4.1,vL 9 38 eRt v5.1,pB 83 v4.2] [] trivial ?_
 refine kI h (fun hc2_26 h=>?_) (fun hc2_26 h=>?_)
 ·obtain⟨v28,hv28,h⟩:=bs h
  refine kG [dL 1 (eU .u8) a1,dP 5 v3.1,pB 6 v3.2,dL 7 eRt v4.1,vL 9 38 eRt v5.1,pB 11 v28.1,pB 12 v28.2] [hC 2 [.p (.bool v28.1),.p (.bool v28.2)]] (A1 (yiu hv28)) ?_
  obtain⟨v29,hv29,h⟩:=bs h
  refine kG [dL 1 (eU .u8) a1,dP 5 v3.1,pB 6 v3.2,dL 7 eRt v4.1,vL 9 38 eRt v5.1,pB 11 v28.1,pB 12 v28.2,pB 13 v29.1,pB 14 v29.2] [hC 2 [.p (.bool v29.1),.p (.bool v29.2)]] (A1 (ygp hv29)) ?_
  obtain⟨v30,hv30,h⟩:=bs h
  refine kG [dL 1 (eU .u8) a1,dP 5 v3.1,pB 6 v3.2,dL 7 eRt v4.1,vL 9 38 eRt v5.1,pB 11 v28.1,pB 12 v28.2,pB 13 v29.1,pB 14 v29.2,pB 15 v30.1,pB 16 v30.2] [(2,(cS [.d false (sP v3.1),.d false [.sl none (v5.1.map eRt)]] [.p (.bool v30.1),.p (.bool v30.2)]))] (A2 (show([.d false (sP v3.1),.d false [.sl none (eraL (v5.1.map eRt))]]:List Arg)=[.d false (sP v3.1),.d false [.sl none (v5.1.map eRt)]] from(by simp only[yka (h:=eRt) (ywt er_I er_I)])) (ylu hv30)) ?_
  obtain⟨v31,hv31,h⟩:=bs h
  refine kG [dL 1 (eU .u8) a1,dP 5 v3.1,pB 6 v3.2,dL 7 eRt v4.1,vL 9 38 eRt v5.1,pB 11 v28.1,pB 12 v28.2,pB 13 v29.1,pB 14 v29.2,pB 15 v30.1,pB 16 v30.2,dL 17 (eF eI) v31.1,pB 18 v31.2] [hC 2 [rO 32 (eO 3 eI) v31.1,.p (.bool v31.2)],(6,{pre:=some (dL 106 (eF eI) v31.1)})] (A3 (yum hv31) (show List.all [rO 32 (eO 3 eI) v31.1,.p (.bool v31.2)] simpleR=true from(sa_o (wnR1 (yvc (wn_O wn_I)) rfl) (sa_p rfl))) (show(SV.d false (eraR [.sl (some 32) (v31.1.map (eO 3 eI))]):SV)=.d false [.sl none (v31.1.map (eF eI))] from(congrArg (fun z=>SV.d false z) (yqf (yka (yxr1 er_I)) rfl)))) ?_
  obtain⟨v32,hv32,h⟩:=bs h
  refine kG [dL 1 (eU .u8) a1,dP 5 v3.1,pB 6 v3.2,dL 7 eRt v4.1,vL 9 38 eRt v5.1,pB 11 v28.1,pB 12 v28.2,pB 13 v29.1,pB 14 v29.2,pB 15 v30.1,pB 16 v30.2,dL 17 (eF eI) v31.1,pB 18 v31.2,dL 19 (eF eI) v32.1,pB 20 v32.2] [(2,(cS [.d false (sP v3.1),.d false [.sl none (v5.1.map eRt)]] [rO 32 (eO 3 eI) v32.1,.p (.bool v32.2)])),(6,{pre:=some (dL 112 (eF eI) v32.1)})] (A4 (show([.d false (sP v3.1),.d false [.sl none (eraL (v5.1.map eRt))]]:List Arg)=[.d false (sP v3.1),.d false [.sl none (v5.1.map eRt)]] from(by simp only[yka (h:=eRt) (ywt er_I er_I)])) (yvr hv32) (show List.all [rO 32 (eO 3 eI) v32.1,.p (.bool v32.2)] simpleR=true from(sa_o (wnR1 (yvc (wn_O wn_I)) rfl) (sa_p rfl))) (show(SV.d false (eraR [.sl (some 32) (v32.1.map (eO 3 eI))]):SV)=.d false [.sl none (v32.1.map (eF eI))] from(congrArg (fun z=>SV.d false z) (yqf (yka (yxr1 er_I)) rfl)))) ?_
  refine yeb ?_
  obtain⟨w35,hw35,h⟩:=bs h
  refine ynb (l1:=[dL 1 (eU .u8) a1,dP 5 v3.1,dL 7 eRt v4.1,vL 9 38 eRt v5.1,dL 19 (eF eI) v32.1,pB 156 w35]) ?_ ?_
  ·clear h
   rcases ft (!v28.2) with ha3 | ha3
   ·replace hw35:=yjh ha3 hw35
    have hw35:=oi hw35
    subst hw35
    exact(r_gq [dL 1 (eU .u8) a1,dP 5 v3.1,dL 7 eRt v4.1,vL 9 38 eRt v5.1,dL 19 (eF eI) v32.1,pB 156 true] [(3,gT),(4,gT),(5,bT),(7,gT),(8,gT),(9,gT),(10,bT),(12,gT),(13,gT),(14,gT),(15,bT),(17,gT),(18,gT),(21,gT),(22,bT),(24,gT),(25,gT),(26,gT),(27,bT),(29,gT),(30,gT),(31,gT),(32,gT),(33,bT),(35,gT),(36,gT),(37,bT),(39,gT),(40,gT),(41,gT),(42,bT)] (B6 ha3 ha3 ha3 tT tT tT (B6 tT tT tT tT tT tT (B6 tT tT tT tT tT tT (B6 tT tT tT tT tT tT (B6 tT tT tT tT tT tT (A1 tT)))))))
   replace hw35:=ykh ha3 hw35
   rcases ft (!v28.1) with ha4 | ha4
   ·replace hw35:=yjh ha4 hw35
    have hw35:=oi hw35
    subst hw35
    exact(r_gq [dL 1 (eU .u8) a1,dP 5 v3.1,dL 7 eRt v4.1,vL 9 38 eRt v5.1,dL 19 (eF eI) v32.1,pB 156 true] [(3,gF),(4,gF),(5,bF),(7,gT),(8,gT),(9,gT),(10,bT),(12,gT),(13,gT),(14,gT),(15,bT),(17,gT),(18,gT),(21,gT),(22,bT),(24,gT),(25,gT),(26,gT),(27,bT),(29,gT),(30,gT),(31,gT),(32,gT),(33,bT),(35,gT),(36,gT),(37,bT),(39,gT),(40,gT),(41,gT),(42,bT)] (B6 ha3 ha3 ha3 ha4 ha4 ha4 (B6 ha4 tT tT tT tT tT (B6 tT tT tT tT tT tT (B6 tT tT tT tT tT tT (B6 tT tT tT tT tT tT (A1 tT)))))))
   replace hw35:=ykh ha4 hw35
   rcases ft (!(v29.2==v30.2)) with ha5 | ha5
   ·replace hw35:=yjh ha5 hw35
    have hw35:=oi hw35
    subst hw35
    exact(r_gq [dL 1 (eU .u8) a1,dP 5 v3.1,dL 7 eRt v4.1,vL 9 38 eRt v5.1,dL 19 (eF eI) v32.1,pB 156 true] [(3,gF),(4,gF),(5,bF),(7,gF),(8,gF),(9,gF),(10,bF),(12,gT),(13,gT),(14,gT),(15,bT),(17,gT),(18,gT),(21,gT),(22,bT),(24,gT),(25,gT),(26,gT),(27,bT),(29,gT),(30,gT),(31,gT),(32,gT),(33,bT),(35,gT),(36,gT),(37,bT),(39,gT),(40,gT),(41,gT),(42,bT)] (B6 ha3 ha3 ha3 ha4 ha4 ha4 (B6 ha4 ha5 ha5 ha5 ha5 tT (B6 tT tT tT tT tT tT (B6 tT tT tT tT tT tT (B6 tT tT tT tT tT tT (A1 tT)))))))
   replace hw35:=ykh ha5 hw35
   rcases ft (!(v29.1==v30.1)) with ha6 | ha6
   ·replace hw35:=yjh ha6 hw35
    have hw35:=oi hw35
    subst hw35
    exact(r_gq [dL 1 (eU .u8) a1,dP 5 v3.1,dL 7 eRt v4.1,vL 9 38 eRt v5.1,dL 19 (eF eI) v32.1,pB 156 true] [(3,gF),(4,gF),(5,bF),(7,gF),(8,gF),(9,gF),(10,bF),(12,gF),(13,gF),(14,gF),(15,bF),(17,gT),(18,gT),(21,gT),(22,bT),(24,gT),(25,gT),(26,gT),(27,bT),(29,gT),(30,gT),(31,gT),(32,gT),(33,bT),(35,gT),(36,gT),(37,bT),(39,gT),(40,gT),(41,gT),(42,bT)] (B6 ha3 ha3 ha3 ha4 ha4 ha4 (B6 ha4 ha5 ha5 ha5 ha5 ha6 (B6 ha6 ha6 ha6 tT tT tT (B6 tT tT tT tT tT tT (B6 tT tT tT tT tT tT (A1 tT)))))))
   replace hw35:=ykh ha6 hw35
   rcases ft v3.2 with ha7 | ha7
   ·replace hw35:=yjh ha7 hw35
    rcases ft (!v30.1) with ha8 | ha8
    ·replace hw35:=yjh ha8 hw35
     have hw35:=oi hw35
     subst hw35
     exact(r_gq [dL 1 (eU .u8) a1,dP 5 v3.1,dL 7 eRt v4.1,vL 9 38 eRt v5.1,dL 19 (eF eI) v32.1,pB 156 true] [(3,gF),(4,gF),(5,bF),(7,gF),(8,gF),(9,gF),(10,bF),(12,gF),(13,gF),(14,gF),(15,bF),(17,gF),(18,gF),(19,gT),(20,gT),(21,gFbT),(22,bF),(24,gT),(25,gT),(26,gT),(27,bT),(29,gT),(30,gT),(31,gT),(32,gT),(33,bT),(35,gT),(36,gT),(37,bT),(39,gT),(40,gT),(41,gT),(42,bT)] (B6 ha3 ha3 ha3 ha4 ha4 ha4 (B6 ha4 ha5 ha5 ha5 ha5 ha6 (B6 ha6 ha7 ha7 ha6 ha7 ha6 (B6 ha8 ha8 ha8 ha8 tT tT (B6 tT tT tT tT tT tT (A4 tT tT tT tT)))))))
    replace hw35:=ykh ha8 hw35
    rcases ft (!(v31.2==v32.2)) with ha9 | ha9
    ·replace hw35:=yjh ha9 hw35
     have hw35:=oi hw35
     subst hw35
     exact(r_gq [dL 1 (eU .u8) a1,dP 5 v3.1,dL 7 eRt v4.1,vL 9 38 eRt v5.1,dL 19 (eF eI) v32.1,pB 156 true] [(3,gF),(4,gF),(5,bF),(7,gF),(8,gF),(9,gF),(10,bF),(12,gF),(13,gF),(14,gF),(15,bF),(17,gF),(18,gF),(19,gT),(20,gT),(21,gFbT),(22,bF),(24,gF),(25,gF),(26,gF),(27,bF),(29,gT),(30,gT),(31,gT),(32,gT),(33,bT),(35,gT),(36,gT),(37,bT),(39,gT),(40,gT),(41,gT),(42,bT)] (B6 ha3 ha3 ha3 ha4 ha4 ha4 (B6 ha4 ha5 ha5 ha5 ha5 ha6 (B6 ha6 ha7 ha7 ha6 ha7 ha6 (B6 ha8 ha8 ha8 ha8 ha9 ha9 (B6 ha9 ha9 ha9 tT tT tT (A4 tT tT tT tT)))))))
    obtain⟨v33,hv33,hw35⟩:=bs (ykh ha9 hw35)
    rcases ft (!v33) with ha10 | ha10
    ·replace hw35:=yjh ha10 hw35
     have hw35:=oi hw35
     subst hw35
     exact(r_gq [dL 1 (eU .u8) a1,dP 5 v3.1,dL 7 eRt v4.1,vL 9 38 eRt v5.1,dL 19 (eF eI) v32.1,pB 156 true] [(3,gF),(4,gF),(5,bF),(7,gF),(8,gF),(9,gF),(10,bF),(12,gF),(13,gF),(14,gF),(15,bF),(17,gF),(18,gF),(19,gT),(20,gT),(21,gFbT),(22,bF),(24,gF),(25,gF),(26,gF),(27,bF),(29,gF),(30,gF),(31,(gN [.p (.bool v33)])),(32,gF),(33,bF),(35,gT),(36,gT),(37,bT),(39,gT),(40,gT),(41,gT),(42,bT)] (B6 ha3 ha3 ha3 ha4 ha4 ha4 (B6 ha4 ha5 ha5 ha5 ha5 ha6 (B6 ha6 ha7 ha7 ha6 ha7 ha6 (B6 ha8 ha8 ha8 ha8 ha9 ha9 (B6 ha9 (ywc hv33) ha9 ha9 ha10 ha10 (A5 ha10 tT tT tT tT)))))))
    replace hw35:=ykh ha10 hw35
    rcases ft (!v32.2) with ha11 | ha11
    ·replace hw35:=yjh ha11 hw35
     have hw35:=oi hw35
     subst hw35
     exact(r_gq [dL 1 (eU .u8) a1,dP 5 v3.1,dL 7 eRt v4.1,vL 9 38 eRt v5.1,dL 19 (eF eI) v32.1,pB 156 true] [(3,gF),(4,gF),(5,bF),(7,gF),(8,gF),(9,gF),(10,bF),(12,gF),(13,gF),(14,gF),(15,bF),(17,gF),(18,gF),(19,gT),(20,gT),(21,gFbT),(22,bF),(24,gF),(25,gF),(26,gF),(27,bF),(29,gF),(30,gF),(31,(gN [.p (.bool v33)])),(32,gF),(33,bF),(35,gF),(36,gF),(37,bF),(39,gT),(40,gT),(41,gT),(42,bT)] (B6 ha3 ha3 ha3 ha4 ha4 ha4 (B6 ha4 ha5 ha5 ha5 ha5 ha6 (B6 ha6 ha7 ha7 ha6 ha7 ha6 (B6 ha8 ha8 ha8 ha8 ha9 ha9 (B6 ha9 (ywc hv33) ha9 ha9 ha10 ha10 (A5 ha10 ha11 ha11 ha11 ha11)))))))
    obtain⟨v34,hv34,hw35⟩:=bs (ykh ha11 hw35)
    have hw35:=oi hw35
    subst hw35
    exact(r_gq [dL 1 (eU .u8) a1,dP 5 v3.1,dL 7 eRt v4.1,vL 9 38 eRt v5.1,dL 19 (eF eI) v32.1,pB 156 (!v34)] [(3,gF),(4,gF),(5,bF),(7,gF),(8,gF),(9,gF),(10,bF),(12,gF),(13,gF),(14,gF),(15,bF),(17,gF),(18,gF),(19,gT),(20,gT),(21,gFbT),(22,bF),(24,gF),(25,gF),(26,gF),(27,bF),(29,gF),(30,gF),(31,(gN [.p (.bool v33)])),(32,gF),(33,bF),(35,gF),(36,gF),(37,bF),(39,gF),(40,(gN [.p (.bool v34)])),(41,gF),(42,bF)] (B6 ha3 ha3 ha3 ha4 ha4 ha4 (B6 ha4 ha5 ha5 ha5 ha5 ha6 (B6 ha6 ha7 ha7 ha6 ha7 ha6 (B6 ha8 ha8 ha8 ha8 ha9 ha9 (B6 ha9 (ywc hv33) ha9 ha9 ha10 ha10 (A6 ha10 ha11 ha11 (ywr hv34) ha11 ha11)))))))
   replace hw35:=ykh ha7 hw35
   rcases ft (!(v31.2==v32.2)) with ha8 | ha8
   ·replace hw35:=yjh ha8 hw35
    have hw35:=oi hw35
    subst hw35
    exact(r_gq [dL 1 (eU .u8) a1,dP 5 v3.1,dL 7 eRt v4.1,vL 9 38 eRt v5.1,dL 19 (eF eI) v32.1,pB 156 true] [(3,gF),(4,gF),(5,bF),(7,gF),(8,gF),(9,gF),(10,bF),(12,gF),(13,gF),(14,gF),(15,bF),(17,gF),(18,gF),(19,gF),(20,gF),(21,gFbF),(22,bF),(24,gF),(25,gF),(26,gF),(27,bF),(29,gT),(30,gT),(31,gT),(32,gT),(33,bT),(35,gT),(36,gT),(37,bT),(39,gT),(40,gT),(41,gT),(42,bT)] (B6 ha3 ha3 ha3 ha4 ha4 ha4 (B6 ha4 ha5 ha5 ha5 ha5 ha6 (B6 ha6 ha7 ha7 ha6 ha7 ha6 (B6 fF fF fF fF ha8 ha8 (B6 ha8 ha8 ha8 tT tT tT (A4 tT tT tT tT)))))))
   obtain⟨v33,hv33,hw35⟩:=bs (ykh ha8 hw35)
   rcases ft (!v33) with ha9 | ha9
   ·replace hw35:=yjh ha9 hw35
    have hw35:=oi hw35
    subst hw35
    exact(r_gq [dL 1 (eU .u8) a1,dP 5 v3.1,dL 7 eRt v4.1,vL 9 38 eRt v5.1,dL 19 (eF eI) v32.1,pB 156 true] [(3,gF),(4,gF),(5,bF),(7,gF),(8,gF),(9,gF),(10,bF),(12,gF),(13,gF),(14,gF),(15,bF),(17,gF),(18,gF),(19,gF),(20,gF),(21,gFbF),(22,bF),(24,gF),(25,gF),(26,gF),(27,bF),(29,gF),(30,gF),(31,(gN [.p (.bool v33)])),(32,gF),(33,bF),(35,gT),(36,gT),(37,bT),(39,gT),(40,gT),(41,gT),(42,bT)] (B6 ha3 ha3 ha3 ha4 ha4 ha4 (B6 ha4 ha5 ha5 ha5 ha5 ha6 (B6 ha6 ha7 ha7 ha6 ha7 ha6 (B6 fF fF fF fF ha8 ha8 (B6 ha8 (ywc hv33) ha8 ha8 ha9 ha9 (A5 ha9 tT tT tT tT)))))))
   replace hw35:=ykh ha9 hw35
   rcases ft (!v32.2) with ha10 | ha10
   ·replace hw35:=yjh ha10 hw35
    have hw35:=oi hw35
    subst hw35
    exact(r_gq [dL 1 (eU .u8) a1,dP 5 v3.1,dL 7 eRt v4.1,vL 9 38 eRt v5.1,dL 19 (eF eI) v32.1,pB 156 true] [(3,gF),(4,gF),(5,bF),(7,gF),(8,gF),(9,gF),(10,bF),(12,gF),(13,gF),(14,gF),(15,bF),(17,gF),(18,gF),(19,gF),(20,gF),(21,gFbF),(22,bF),(24,gF),(25,gF),(26,gF),(27,bF),(29,gF),(30,gF),(31,(gN [.p (.bool v33)])),(32,gF),(33,bF),(35,gF),(36,gF),(37,bF),(39,gT),(40,gT),(41,gT),(42,bT)] (B6 ha3 ha3 ha3 ha4 ha4 ha4 (B6 ha4 ha5 ha5 ha5 ha5 ha6 (B6 ha6 ha7 ha7 ha6 ha7 ha6 (B6 fF fF fF fF ha8 ha8 (B6 ha8 (ywc hv33) ha8 ha8 ha9 ha9 (A5 ha9 ha10 ha10 ha10 ha10)))))))
   obtain⟨v34,hv34,hw35⟩:=bs (ykh ha10 hw35)
   have hw35:=oi hw35
   subst hw35
   exact(r_gq [dL 1 (eU .u8) a1,dP 5 v3.1,dL 7 eRt v4.1,vL 9 38 eRt v5.1,dL 19 (eF eI) v32.1,pB 156 (!v34)] [(3,gF),(4,gF),(5,bF),(7,gF),(8,gF),(9,gF),(10,bF),(12,gF),(13,gF),(14,gF),(15,bF),(17,gF),(18,gF),(19,gF),(20,gF),(21,gFbF),(22,bF),(24,gF),(25,gF),(26,gF),(27,bF),(29,gF),(30,gF),(31,(gN [.p (.bool v33)])),(32,gF),(33,bF),(35,gF),(36,gF),(37,bF),(39,gF),(40,(gN [.p (.bool v34)])),(41,gF),(42,bF)] (B6 ha3 ha3 ha3 ha4 ha4 ha4 (B6 ha4 ha5 ha5 ha5 ha5 ha6 (B6 ha6 ha7 ha7 ha6 ha7 ha6 (B6 fF fF fF fF ha8 ha8 (B6 ha8 (ywc hv33) ha8 ha8 ha9 ha9 (A6 ha9 ha10 ha10 (ywr hv34) ha10 ha10)))))))
  refine kI h (fun hc3_35 h=>?_) (fun hc3_35 h=>?_)
  ·refine kG [pB 4 false] [] trivial ?_
   refine ypa (q_r (q_r ?_))
   obtain rfl:=oi h
   exact er [(.p (.bool false),4)]
  refine yga (q_n (kG [dL 1 (eU .u8) a1,dP 5 v3.1,dL 7 eRt v4.1,vL 9 38 eRt v5.1,dL 19 (eF eI) v32.1,pL 158 v32.1,pI 159 0] [hN 1 v32.1] (A1 (lF (eF eI) v32.1)) ?_))
  refine yda ?_
  obtain⟨y38,hl_x37,hk_x37⟩:=bs h
  clear h
  refine yyb (J:=fun (x:Int)=>[dL 1 (eU .u8) a1,dP 5 v3.1,dL 7 eRt v4.1,vL 9 38 eRt v5.1,dL 19 (eF eI) v32.1,pL 158 v32.1,pI 159 x]) hl_x37 wkk (fun x37 o_x37 h hy_x37=>?_)
  unfold laws_FnMarkov_b1 at h
  refine kG [dL 1 (eU .u8) a1,dP 5 v3.1,dL 7 eRt v4.1,vL 9 38 eRt v5.1,dL 19 (eF eI) v32.1,pL 158 v32.1,pI 159 x37,pB 160 (decide (x37<(v32.1.length:Int)))] [] trivial ?_
  refine yeb (kI h (fun hc5_38 h=>?_) (fun hc5_38 h=>?_))
  ·refine yga (q_n (yjb (J:=fun (x:Unit)=>[dL 1 (eU .u8) a1,dP 5 v3.1,dL 7 eRt v4.1,vL 9 38 eRt v5.1,dL 19 (eF eI) v32.1,pL 158 v32.1,pI 159 x37]) (K:=fun x=>laws_FnMarkov_k2 x37 x=some o_x37) (fun x40 h=>?_) ?_))
   ·unfold laws_FnMarkov_k2 at h
    refine yhc (r_gq [dL 1 (eU .u8) a1,dP 5 v3.1,dL 7 eRt v4.1,vL 9 38 eRt v5.1,dL 19 (eF eI) v32.1,pL 158 v32.1,pI 159 (w64 (x37+1))] [] trivial) ?_
    exact lqn (w64 (x37+1)) h
   refine yda (kG [dL 1 (eU .u8) a1,dP 5 v3.1,dL 7 eRt v4.1,vL 9 38 eRt v5.1,dL 19 (eF eI) v32.1,pI 21 x37,pL 158 v32.1,pI 159 x37] [] trivial ?_)
   obtain⟨v41,hv41,h⟩:=bs h
   obtain⟨v42,hv42,h⟩:=bs h
   obtain⟨v43,hv43,h⟩:=bs h
   refine ynb (r_dq yfa 15 [(14,22)] [dL 1 (eU .u8) a1,dP 5 v3.1,dL 7 eRt v4.1,vL 9 38 eRt v5.1,dL 19 (eF eI) v32.1,pI 21 x37,bR 22 v43.1,pB 23 v43.2,pL 158 v32.1,pI 159 x37] [hR 2 (eRt v41),hR 3 (eRt v41),hR 7 (eRt v42),hR 8 (eRt v42),hC 9 [.p (vRt v43.1),.p (.bool v43.2)]] (B6 (yba hv41).1 (yca eRt (yba hv41).2) (gW 38 eRt hv41) (yba hv42).1 (yca eRt (yba hv42).2) (gW 38 eRt hv42) (A1 (ync1 hv43)))) ?_
   obtain⟨v44,hv44,h⟩:=bs h
   refine kG [dL 1 (eU .u8) a1,dP 5 v3.1,dL 7 eRt v4.1,vL 9 38 eRt v5.1,dL 19 (eF eI) v32.1,pI 21 x37,pB 23 v43.2,bR 24 v44.1,pB 25 v44.2,pL 158 v32.1,pI 159 x37] [hC 2 [.p (vRt v44.1),.p (.bool v44.2)]] (A1 (yxd1 hv44)) ?_
   refine yeb (ynb (l1:=[dL 1 (eU .u8) a1,dP 5 v3.1,dL 7 eRt v4.1,vL 9 38 eRt v5.1,dL 19 (eF eI) v32.1,pI 21 x37,bR 24 v44.1,pL 158 v32.1,pI 159 x37,pB 186 ((!v43.2)||(!v44.2))]) ?_ ?_)
   ·rcases ft (!v43.2) with ha5 | ha5
    ·exact RegOk.of_eq (r_gq [dL 1 (eU .u8) a1,dP 5 v3.1,dL 7 eRt v4.1,vL 9 38 eRt v5.1,dL 19 (eF eI) v32.1,pI 21 x37,bR 24 v44.1,pL 158 v32.1,pI 159 x37,pB 186 true] [(3,gT),(4,gT),(5,bT)] (A3 ha5 ha5 ha5)) (by simp[ha5])
    exact RegOk.of_eq (r_gq [dL 1 (eU .u8) a1,dP 5 v3.1,dL 7 eRt v4.1,vL 9 38 eRt v5.1,dL 19 (eF eI) v32.1,pI 21 x37,bR 24 v44.1,pL 158 v32.1,pI 159 x37,pB 186 (!v44.2)] [(3,gF),(4,gF),(5,bF)] (A3 ha5 ha5 ha5)) (by simp[ha5])
   refine kI h (fun hc7_44 h=>?_) (fun hc7_44 h=>?_)
   ·refine yrb (q_x (b_x (q_n ?_)))
    exact jx () h
   refine yga (q_n ?_)
   obtain⟨v46,hv46,h⟩:=bs h
   refine kG [dL 1 (eU .u8) a1,dP 5 v3.1,dL 7 eRt v4.1,vL 9 38 eRt v5.1,dL 19 (eF eI) v32.1,pI 21 x37,bR 24 v44.1,vL 26 3 eI v46.1,pB 27 v46.2,pL 158 v32.1,pI 159 x37] [hC 2 [rO 3 eI v46.1,.p (.bool v46.2)]] (A2 (yoc1 hv46) (show List.all [rO 3 eI v46.1,.p (.bool v46.2)] simpleR=true from(sa_o (wnR1 (yvc wn_I) rfl) (sa_p rfl)))) ?_
   obtain⟨v47,hv47,h⟩:=bs h
   refine kG [dL 1 (eU .u8) a1,dP 5 v3.1,dL 7 eRt v4.1,vL 9 38 eRt v5.1,dL 19 (eF eI) v32.1,pI 21 x37,vL 26 3 eI v46.1,pB 27 v46.2,vL 28 3 eI v47.1,pB 29 v47.2,pL 158 v32.1,pI 159 x37] [(2,(cS [.d false [.sl none (v5.1.map eRt)],.v (vRt v44.1)] [rO 3 eI v47.1,.p (.bool v47.2)]))] (A3 (show([.d false [.sl none (eraL (v5.1.map eRt))],.v (vRt v44.1)]:List Arg)=[.d false [.sl none (v5.1.map eRt)],.v (vRt v44.1)] from(by simp only[yka (h:=eRt) (ywt er_I er_I)])) (ypc1 hv47) (show List.all [rO 3 eI v47.1,.p (.bool v47.2)] simpleR=true from(sa_o (wnR1 (yvc wn_I) rfl) (sa_p rfl)))) ?_
   refine yeb ?_
   obtain⟨w49,hw49,h⟩:=bs h
   refine ynb (l1:=[dL 1 (eU .u8) a1,dP 5 v3.1,dL 7 eRt v4.1,vL 9 38 eRt v5.1,dL 19 (eF eI) v32.1,pI 21 x37,vL 28 3 eI v47.1,pL 158 v32.1,pI 159 x37,pB 210 w49]) ?_ ?_
   ·clear h
    rcases ft (!v46.2) with ha6 | ha6
    ·replace hw49:=yjh ha6 hw49
     have hw49:=oi hw49
     subst hw49
     exact(r_gq [dL 1 (eU .u8) a1,dP 5 v3.1,dL 7 eRt v4.1,vL 9 38 eRt v5.1,dL 19 (eF eI) v32.1,pI 21 x37,vL 28 3 eI v47.1,pL 158 v32.1,pI 159 x37,pB 210 true] [(3,gT),(4,gT),(5,bT),(7,gT),(8,gT),(9,gT),(10,gT),(11,bT)] (B6 ha6 ha6 ha6 tT tT tT (A2 tT tT)))
    replace hw49:=ykh ha6 hw49
    rcases ft (!v47.2) with ha7 | ha7
    ·replace hw49:=yjh ha7 hw49
     have hw49:=oi hw49
     subst hw49
     exact(r_gq [dL 1 (eU .u8) a1,dP 5 v3.1,dL 7 eRt v4.1,vL 9 38 eRt v5.1,dL 19 (eF eI) v32.1,pI 21 x37,vL 28 3 eI v47.1,pL 158 v32.1,pI 159 x37,pB 210 true] [(3,gF),(4,gF),(5,bF),(7,gT),(8,gT),(9,gT),(10,gT),(11,bT)] (B6 ha6 ha6 ha6 ha7 ha7 ha7 (A2 ha7 ha7)))
    obtain⟨v48,hv48,hw49⟩:=bs (ykh ha7 hw49)
    have hw49:=oi hw49
    subst hw49
    exact(r_gq [dL 1 (eU .u8) a1,dP 5 v3.1,dL 7 eRt v4.1,vL 9 38 eRt v5.1,dL 19 (eF eI) v32.1,pI 21 x37,vL 28 3 eI v47.1,pL 158 v32.1,pI 159 x37,pB 210 (!v48)] [(3,gF),(4,gF),(5,bF),(7,gF),(8,gF),(9,(gC [.d false [.sl none (v46.1.map eI)],.d false [.sl none (v47.1.map eI)]] [.p (.bool v48)])),(10,gF),(11,bF)] (B6 ha6 ha6 ha6 ha7 ha7 ha7 (A4 (show([.d false [.sl none (eraL (v46.1.map eI))],.d false [.sl none (eraL (v47.1.map eI))]]:List Arg)=[.d false [.sl none (v46.1.map eI)],.d false [.sl none (v47.1.map eI)]] from(by simp only[yka (h:=eI) er_I,yka (h:=eI) er_I])) (ycj hv48) ha7 ha7)))
   refine kI h (fun hc7_49 h=>?_) (fun hc7_49 h=>?_)
   ·refine kG [pB 4 false] [] trivial ?_
    refine ypa (q_r (b_r (q_r (lq_r ?_))))
    refine b_r (q_r ?_)
    have hyy:=hy_x37 _ (oi h).symm
    subst hyy
    have h:=hk_x37
    dsimp only[Sum.elim] at h
    obtain rfl:=oi h
    exact er [(.p (.bool false),4)]
   refine yga (q_n ?_)
   obtain⟨v51,hv51,h⟩:=bs h
   obtain⟨v52,hv52,h⟩:=bs h
   refine kG [dL 1 (eU .u8) a1,dP 5 v3.1,dL 7 eRt v4.1,vL 9 38 eRt v5.1,dL 19 (eF eI) v32.1,pI 21 x37,vL 28 3 eI v47.1,pI 30 v52,pL 158 v32.1,pI 159 x37] [hR 2 [.sl none (v51.map eI)],hC 4 [.p (iV v52)]] (A3 (yba hv51).1 (yca (eF eI) (yba hv51).2) (yck1 hv52)) ?_
   refine kG [dL 1 (eU .u8) a1,dP 5 v3.1,dL 7 eRt v4.1,vL 9 38 eRt v5.1,dL 19 (eF eI) v32.1,pI 21 x37,vL 28 3 eI v47.1,pI 30 v52,pL 158 v32.1,pI 159 x37,rF 216 28,pL 217 v47.1,pI 218 0] [hN 1 v47.1] (A1 (lF eI v47.1)) ?_
   refine yda ?_
   obtain⟨y54,hl_x53,hk_x53⟩:=bs h
   clear h
   refine yyb (J:=fun (x:Int)=>[dL 1 (eU .u8) a1,dP 5 v3.1,dL 7 eRt v4.1,vL 9 38 eRt v5.1,dL 19 (eF eI) v32.1,pI 21 x37,vL 28 3 eI v47.1,pI 30 v52,pL 158 v32.1,pI 159 x37,rF 216 28,pL 217 v47.1,pI 218 x]) hl_x53 wkk (fun x53 o_x53 h hy_x53=>?_)
   unfold laws_FnMarkov_b2 at h
   refine kG [dL 1 (eU .u8) a1,dP 5 v3.1,dL 7 eRt v4.1,vL 9 38 eRt v5.1,dL 19 (eF eI) v32.1,pI 21 x37,vL 28 3 eI v47.1,pI 30 v52,pL 158 v32.1,pI 159 x37,rF 216 28,pL 217 v47.1,pI 218 x53,pB 219 (decide (x53<(v47.1.length:Int)))] [] trivial ?_
   refine yeb (kI h (fun hc9_54 h=>?_) (fun hc9_54 h=>?_))
   ·refine yga (q_n (yeb (yda ?_)))
    obtain⟨v56,hv56,h⟩:=bs h
    refine kG [dL 1 (eU .u8) a1,dP 5 v3.1,dL 7 eRt v4.1,vL 9 38 eRt v5.1,dL 19 (eF eI) v32.1,pI 21 x37,vL 28 3 eI v47.1,pI 30 v52,pI 32 v56,pL 158 v32.1,pI 159 x37,rF 216 28,pL 217 v47.1,pI 218 x53] [hR 0 (eI v56),hR 1 (eI v56)] (A3 (yba hv56).1 (yca eI (yba hv56).2) (gW 3 eI hv56)) ?_
    obtain⟨w58,hw58,h⟩:=bs h
    refine ynb (l1:=[dL 1 (eU .u8) a1,dP 5 v3.1,dL 7 eRt v4.1,vL 9 38 eRt v5.1,dL 19 (eF eI) v32.1,pI 21 x37,vL 28 3 eI v47.1,pI 30 v52,pL 158 v32.1,pI 159 x37,rF 216 28,pL 217 v47.1,pI 218 x53,pB 238 w58]) ?_ ?_
    ·clear h
     rcases ft (decide (v52>0)) with ha8 | ha8
     ·replace hw58:=yjh ha8 hw58
      rcases ft ((v47.1.length:Int)==1) with ha9 | ha9
      ·obtain⟨v57,hv57,hw58⟩:=bs (yjh ha9 hw58)
       have hw58:=oi hw58
       subst hw58
       exact(r_gq [dL 1 (eU .u8) a1,dP 5 v3.1,dL 7 eRt v4.1,vL 9 38 eRt v5.1,dL 19 (eF eI) v32.1,pI 21 x37,vL 28 3 eI v47.1,pI 30 v52,pL 158 v32.1,pI 159 x37,rF 216 28,pL 217 v47.1,pI 218 x53,pB 238 (v57 != 1)] [(3,gT),(4,{g:=some true,n:=some v47.1.length}),(5,gT),(6,bT),(8,gT),(9,gT),(10,{g:=some true,row:=some [.sl none (v51.map eI)]}),(11,gT),(12,gT),(13,{g:=some true,row:=some (eI v57)}),(14,gT),(15,gT),(16,bT)] (B6 ha8 ha8 (lF eI v47.1) ha8 ha8 ha9 (B6 ha9 ha9 (yba hv51).1 (yca (eF eI) (yba hv51).2) ha9 ha9 (A6 ha9 (yba hv57).1 (yca eI (yba hv57).2) ha9 ha9 ha9))))
      replace hw58:=ykh ha9 hw58
      have hw58:=oi hw58
      subst hw58
      exact(r_gq [dL 1 (eU .u8) a1,dP 5 v3.1,dL 7 eRt v4.1,vL 9 38 eRt v5.1,dL 19 (eF eI) v32.1,pI 21 x37,vL 28 3 eI v47.1,pI 30 v52,pL 158 v32.1,pI 159 x37,rF 216 28,pL 217 v47.1,pI 218 x53,pB 238 false] [(3,gT),(4,{g:=some true,n:=some v47.1.length}),(5,gT),(6,bT),(8,gF),(9,gF),(10,gF),(11,gF),(12,gF),(13,gF),(14,gF),(15,gF),(16,bF)] (B6 ha8 ha8 (lF eI v47.1) ha8 ha8 ha9 (B6 ha9 ha9 ha9 ha9 ha9 ha9 (A2 ha9 ha9))))
     replace hw58:=ykh ha8 hw58
     have hw58:=oi hw58
     subst hw58
     exact(r_gq [dL 1 (eU .u8) a1,dP 5 v3.1,dL 7 eRt v4.1,vL 9 38 eRt v5.1,dL 19 (eF eI) v32.1,pI 21 x37,vL 28 3 eI v47.1,pI 30 v52,pL 158 v32.1,pI 159 x37,rF 216 28,pL 217 v47.1,pI 218 x53,pB 238 false] [(3,gF),(4,gF),(5,gF),(6,bF),(8,gF),(9,gF),(10,gF),(11,gF),(12,gF),(13,gF),(14,gF),(15,gF),(16,bF)] (B6 ha8 ha8 ha8 ha8 fF fF (B6 fF fF fF fF fF fF (A1 fF))))
    refine kI h (fun hc10_58 h=>?_) (fun hc10_58 h=>?_)
    ·refine kG [pB 4 false] [] trivial ?_
     refine ypa (b_r (q_r (lq_r ?_)))
     refine b_r (b_r (q_r (lq_r ?_)))
     refine b_r (q_r ?_)
     have hyy:=hy_x53 _ (oi h).symm
     subst hyy
     have h:=hk_x53
     dsimp only[Sum.elim] at h
     have hyy:=hy_x37 _ (oi h).symm
     subst hyy
     have h:=hk_x37
     dsimp only[Sum.elim] at h
     obtain rfl:=oi h
     exact er [(.p (.bool false),4)]
    refine yga (b_n (q_n (yhc (r_gq [dL 1 (eU .u8) a1,dP 5 v3.1,dL 7 eRt v4.1,vL 9 38 eRt v5.1,dL 19 (eF eI) v32.1,pI 21 x37,vL 28 3 eI v47.1,pI 30 v52,pL 158 v32.1,pI 159 x37,rF 216 28,pL 217 v47.1,pI 218 (w64 (x53+1))] [] trivial) ?_)))
    exact lqn (w64 (x53+1)) h
   refine yrb (q_x (lq_x (b_x (b_n ?_))))
   have hyy:=hy_x53 _ (oi h).symm
   subst hyy
   have h:=hk_x53
   dsimp only[Sum.elim] at h
   refine q_n ?_
   exact jx () h
  refine yrb (q_x (lq_x (b_x ?_)))
  have hyy:=hy_x37 _ (oi h).symm
  subst hyy
  have h:=hk_x37
  dsimp only[Sum.elim] at h
  refine q_n ?_
  exact jx () h
 refine yga (q_n ?_)
 exact jx () h
end Go.PV

/-
  Walks through the functions that the law reaches: each answers as its plain definition does.
  Conditions: none.
-/
import Derived.KernelRfl
import Derived.Shelf.Strings.Builder1
import Derived.Shelf.Strings.SlTrimAscii
import Derived.Shelf.Small.Strs
import Derived.Test.YtgamijfefbhklaaGreatDoorWKneadingPartB
import Derived.Test.YtgamijfefbhklaaGreatDoorProg
import Derived.Test.YtgamijfefbhklaaGreatDoorPvCx
open Go Go.PV Go.Proofs
set_option linter.all false
namespace Go.PV
attribute [local irreducible] pvC pvL pvD sOp seqQ blockQ Meets MeetsB Ok OkL RegOk agree endQ seqL blockL loopQ endL endLB
theorem wk_laws_FnKneading {a0 : (List Int)} {a1 : (List Int)}  {r : Bool} (h : laws_FnKneading a0 a1 = some r) : Meets Tryz.prog 4 [.d false [.sl none (a0.map (eU .u8))], .d false [.sl none (a1.map (eU .u8))]] { vals := [.p (.bool r)] } := by
 refine mo Tryz.func4 [(0, .d false [.sl none (a0.map (eU .u8))]), (1, .d false [.sl none (a1.map (eU .u8))])] ?_
 unfold laws_FnKneading at h
 refine k_sreg (r_gq [(0, .d false [.sl none (a0.map (eU .u8))]), (1, .d false [.sl none (a1.map (eU .u8))])] [] trivial) ?_
 refine k_seq ?_
 replace h := bs h
 obtain ⟨v1, hv1, h⟩ := h
 refine k_sreg (r_gq [(0, .d false [.sl none (a0.map (eU .u8))]), (1, .d false [.sl none (a1.map (eU .u8))]), (48, .p (.bool v1))] [(2, {call := some (none, [.p (.bool v1)], true)})] (A1 (wk_laws_big hv1))) ?_
 refine kc v1 (fun hc2_1 => ?_) (fun hc2_1 => ?_)
 ·replace h := ite_t hc2_1 h
  refine k_sreg (r_gq [(4, .p (.bool true))] [] trivial) ?_
  refine k_ret ?_
  refine q_r ?_
  obtain rfl := oi h
  exact er [(.p (.bool true), 4)]
 ·replace h := ite_f hc2_1 h
  refine k_skip ?_
  refine q_n ?_
  replace h := bs h
  obtain ⟨v3, hv3, h⟩ := h
  refine k_sreg (r_gq [(1, .d false [.sl none (a1.map (eU .u8))]), (5, .ov false [.sl (some 78) (v3.1.map ePt)]), (6, .p (iV v3.2))] [(1, {call := some (none, [.ov false [.sl (some 78) (v3.1.map ePt)], .p (iV v3.2)], true)})] (A2 (wk_spec_DrawKneadingOf hv3) (show List.all [.ov false [.sl (some 78) (v3.1.map ePt)], .p (iV v3.2)] simpleR = true from (sa_o (wnR1 (wnL_enc (wn_P (wn_P wn_I wn_I) (wn_P wn_I wn_I))) rfl) (sa_p rfl))))) ?_
  replace h := bs h
  obtain ⟨v4, hv4, h⟩ := h
  refine k_sreg (r_gq [(1, .d false [.sl none (a1.map (eU .u8))]), (5, .ov false [.sl (some 78) (v3.1.map ePt)]), (6, .p (iV v3.2)), (7, .p (.string v4.1)), (8, .p (.bool v4.2))] [(2, {call := some (some [.d false [.sl none (v3.1.map ePt)], wI v3.2], [.p (.string v4.1), .p (.bool v4.2)], true)})] (A2 (show ([.d false [.sl none (eraL (v3.1.map ePt))], wI v3.2] : List Arg) = [.d false [.sl none (v3.1.map ePt)], wI v3.2] from (by simp only [eraL_enc (h := ePt) (era_P (era_P er_I er_I) (era_P er_I er_I))])) (wk_impl_KneadingOf hv4))) ?_
  replace h := bs h
  obtain ⟨v5, hv5, h⟩ := h
  refine k_sreg (r_gq [(1, .d false [.sl none (a1.map (eU .u8))]), (5, .ov false [.sl (some 78) (v3.1.map ePt)]), (6, .p (iV v3.2)), (7, .p (.string v4.1)), (8, .p (.bool v4.2)), (9, .p (.string v5.1)), (10, .p (.bool v5.2))] [(2, {call := some (some [.d false [.sl none (v3.1.map ePt)], wI v3.2], [.p (.string v5.1), .p (.bool v5.2)], true)})] (A2 (show ([.d false [.sl none (eraL (v3.1.map ePt))], wI v3.2] : List Arg) = [.d false [.sl none (v3.1.map ePt)], wI v3.2] from (by simp only [eraL_enc (h := ePt) (era_P (era_P er_I er_I) (era_P er_I er_I))])) (wk_spec_KneadingOf hv5))) ?_
  replace h := bs h
  obtain ⟨v6, hv6, h⟩ := h
  refine k_sreg (r_gq [(1, .d false [.sl none (a1.map (eU .u8))]), (5, .ov false [.sl (some 78) (v3.1.map ePt)]), (6, .p (iV v3.2)), (7, .p (.string v4.1)), (8, .p (.bool v4.2)), (9, .p (.string v5.1)), (10, .p (.bool v5.2)), (11, .ov false [.sl (some 23) (v6.1.map eRt)]), (12, .p (.bool v6.2))] [(2, {call := some (some [.d false [.sl none (v3.1.map ePt)], wI v3.2], [.ov false [.sl (some 23) (v6.1.map eRt)], .p (.bool v6.2)], true)})] (A3 (show ([.d false [.sl none (eraL (v3.1.map ePt))], wI v3.2] : List Arg) = [.d false [.sl none (v3.1.map ePt)], wI v3.2] from (by simp only [eraL_enc (h := ePt) (era_P (era_P er_I er_I) (era_P er_I er_I))])) (wk_impl_TurningValues hv6) (show List.all [.ov false [.sl (some 23) (v6.1.map eRt)], .p (.bool v6.2)] simpleR = true from (sa_o (wnR1 (wnL_enc (wn_P wn_I wn_I)) rfl) (sa_p rfl))))) ?_
  replace h := bs h
  obtain ⟨v7, hv7, h⟩ := h
  refine k_sreg (r_gq [(1, .d false [.sl none (a1.map (eU .u8))]), (5, .d false [.sl none (v3.1.map ePt)]), (6, .p (iV v3.2)), (7, .p (.string v4.1)), (8, .p (.bool v4.2)), (9, .p (.string v5.1)), (10, .p (.bool v5.2)), (11, .ov false [.sl (some 23) (v6.1.map eRt)]), (12, .p (.bool v6.2)), (13, .d false [.sl none (v7.1.map eRt)]), (14, .p (.bool v7.2))] [(2, {call := some (some [.d false [.sl none (v3.1.map ePt)], wI v3.2], [.d false [.sl none (v7.1.map eRt)], .p (.bool v7.2)], false), fix := some (5, .d false [.sl none (v3.1.map ePt)])})] (A3 (show ([.d false [.sl none (eraL (v3.1.map ePt))], wI v3.2] : List Arg) = [.d false [.sl none (v3.1.map ePt)], wI v3.2] from (by simp only [eraL_enc (h := ePt) (era_P (era_P er_I er_I) (era_P er_I er_I))])) (wk_spec_TurningValues hv7) (show (SV.d false (eraR [.sl (some 78) (v3.1.map ePt)]) : SV) = .d false [.sl none (v3.1.map ePt)] from (congrArg (fun z => SV.d false z) (erc_sl (eraL_enc (era_P (era_P er_I er_I) (era_P er_I er_I))) rfl))))) ?_
  refine k_seq ?_
  replace h := bs h
  obtain ⟨w9, hw9, h⟩ := h
  refine k_sreg (l1 := [(1, .d false [.sl none (a1.map (eU .u8))]), (5, .d false [.sl none (v3.1.map ePt)]), (6, .p (iV v3.2)), (7, .p (.string v4.1)), (8, .p (.bool v4.2)), (9, .p (.string v5.1)), (13, .d false [.sl none (v7.1.map eRt)]), (101, .p (.bool w9))]) ?_ ?_
  ·clear h
   rcases ft (!(v4.2 == v5.2)) with ha1 | ha1
   ·replace hw9 := ite_t ha1 hw9
    have hw9 := oi hw9
    subst hw9
    exact (r_gq [(1, .d false [.sl none (a1.map (eU .u8))]), (5, .d false [.sl none (v3.1.map ePt)]), (6, .p (iV v3.2)), (7, .p (.string v4.1)), (8, .p (.bool v4.2)), (9, .p (.string v5.1)), (13, .d false [.sl none (v7.1.map eRt)]), (101, .p (.bool true))] [(4, gT), (5, gT), (6, gT), (7, bT), (9, gT), (10, gT), (11, gT), (12, bT), (14, gT), (15, gT), (16, gT), (17, gT), (18, bT), (20, gT), (21, gT), (22, gT), (23, bT)] (B6 ha1 ha1 ha1 ha1 (show true = true from rfl) (show true = true from rfl) (B6 (show true = true from rfl) (show true = true from rfl) (show true = true from rfl) (show true = true from rfl) (show true = true from rfl) (show true = true from rfl) (A5 (show true = true from rfl) (show true = true from rfl) (show true = true from rfl) (show true = true from rfl) (show true = true from rfl)))))
   ·replace hw9 := ite_f ha1 hw9
    rcases ft (!(v4.1.toList == v5.1.toList)) with ha2 | ha2
    ·replace hw9 := ite_t ha2 hw9
     have hw9 := oi hw9
     subst hw9
     exact (r_gq [(1, .d false [.sl none (a1.map (eU .u8))]), (5, .d false [.sl none (v3.1.map ePt)]), (6, .p (iV v3.2)), (7, .p (.string v4.1)), (8, .p (.bool v4.2)), (9, .p (.string v5.1)), (13, .d false [.sl none (v7.1.map eRt)]), (101, .p (.bool true))] [(4, gF), (5, gF), (6, gF), (7, bF), (9, gT), (10, gT), (11, gT), (12, bT), (14, gT), (15, gT), (16, gT), (17, gT), (18, bT), (20, gT), (21, gT), (22, gT), (23, bT)] (B6 ha1 ha1 ha1 ha1 ha2 ha2 (B6 ha2 ha2 (show true = true from rfl) (show true = true from rfl) (show true = true from rfl) (show true = true from rfl) (A5 (show true = true from rfl) (show true = true from rfl) (show true = true from rfl) (show true = true from rfl) (show true = true from rfl)))))
    ·replace hw9 := ite_f ha2 hw9
     rcases ft (!(v6.2 == v7.2)) with ha3 | ha3
     ·replace hw9 := ite_t ha3 hw9
      have hw9 := oi hw9
      subst hw9
      exact (r_gq [(1, .d false [.sl none (a1.map (eU .u8))]), (5, .d false [.sl none (v3.1.map ePt)]), (6, .p (iV v3.2)), (7, .p (.string v4.1)), (8, .p (.bool v4.2)), (9, .p (.string v5.1)), (13, .d false [.sl none (v7.1.map eRt)]), (101, .p (.bool true))] [(4, gF), (5, gF), (6, gF), (7, bF), (9, gF), (10, gF), (11, gF), (12, bF), (14, gT), (15, gT), (16, gT), (17, gT), (18, bT), (20, gT), (21, gT), (22, gT), (23, bT)] (B6 ha1 ha1 ha1 ha1 ha2 ha2 (B6 ha2 ha2 ha3 ha3 ha3 ha3 (A5 ha3 (show true = true from rfl) (show true = true from rfl) (show true = true from rfl) (show true = true from rfl)))))
     ·replace hw9 := ite_f ha3 hw9
      replace hw9 := bs hw9
      obtain ⟨v8, hv8, hw9⟩ := hw9
      rcases ft (!v8) with ha4 | ha4
      ·replace hw9 := ite_t ha4 hw9
       have hw9 := oi hw9
       subst hw9
       exact (r_gq [(1, .d false [.sl none (a1.map (eU .u8))]), (5, .d false [.sl none (v3.1.map ePt)]), (6, .p (iV v3.2)), (7, .p (.string v4.1)), (8, .p (.bool v4.2)), (9, .p (.string v5.1)), (13, .d false [.sl none (v7.1.map eRt)]), (101, .p (.bool true))] [(4, gF), (5, gF), (6, gF), (7, bF), (9, gF), (10, gF), (11, gF), (12, bF), (14, gF), (15, gF), (16, {g := some false, call := some (some [.d false [.sl none (v6.1.map eRt)], .d false [.sl none (v7.1.map eRt)]], [.p (.bool v8)], true)}), (17, gF), (18, bF), (20, gT), (21, gT), (22, gT), (23, bT)] (B6 ha1 ha1 ha1 ha1 ha2 ha2 (B6 ha2 ha2 ha3 ha3 ha3 (show ([.d false [.sl none (eraL (v6.1.map eRt))], .d false [.sl none (v7.1.map eRt)]] : List Arg) = [.d false [.sl none (v6.1.map eRt)], .d false [.sl none (v7.1.map eRt)]] from (by simp only [eraL_enc (h := eRt) (era_P er_I er_I)])) (B6 (wk_laws_pSameRats hv8) ha3 ha3 ha4 ha4 ha4 (A1 ha4)))))
      ·replace hw9 := ite_f ha4 hw9
       have hw9 := oi hw9
       subst hw9
       exact (r_gq [(1, .d false [.sl none (a1.map (eU .u8))]), (5, .d false [.sl none (v3.1.map ePt)]), (6, .p (iV v3.2)), (7, .p (.string v4.1)), (8, .p (.bool v4.2)), (9, .p (.string v5.1)), (13, .d false [.sl none (v7.1.map eRt)]), (101, .p (.bool (!(v6.2 == v4.2))))] [(4, gF), (5, gF), (6, gF), (7, bF), (9, gF), (10, gF), (11, gF), (12, bF), (14, gF), (15, gF), (16, {g := some false, call := some (some [.d false [.sl none (v6.1.map eRt)], .d false [.sl none (v7.1.map eRt)]], [.p (.bool v8)], true)}), (17, gF), (18, bF), (20, gF), (21, gF), (22, gF), (23, bF)] (B6 ha1 ha1 ha1 ha1 ha2 ha2 (B6 ha2 ha2 ha3 ha3 ha3 (show ([.d false [.sl none (eraL (v6.1.map eRt))], .d false [.sl none (v7.1.map eRt)]] : List Arg) = [.d false [.sl none (v6.1.map eRt)], .d false [.sl none (v7.1.map eRt)]] from (by simp only [eraL_enc (h := eRt) (era_P er_I er_I)])) (B6 (wk_laws_pSameRats hv8) ha3 ha3 ha4 ha4 ha4 (A1 ha4)))))
  ·refine kc w9 (fun hc2_9 => ?_) (fun hc2_9 => ?_)
   ·replace h := ite_t hc2_9 h
    refine k_sreg (r_gq [(4, .p (.bool false))] [] trivial) ?_
    refine k_ret ?_
    refine q_r ?_
    obtain rfl := oi h
    exact er [(.p (.bool false), 4)]
   ·replace h := ite_f hc2_9 h
    refine k_skip ?_
    refine q_n ?_
    refine k_join (J := fun (x : Unit) => [(1, .d false [.sl none (a1.map (eU .u8))])]) (K := fun x => laws_FnKneading_k1 a1 x = some r) (fun x11 h => ?_) ?_
    ·unfold laws_FnKneading_k1 at h
     replace h := bs h
     obtain ⟨v12, hv12, h⟩ := h
     refine k_sreg (r_gq [(1, .d false [.sl none (a1.map (eU .u8))]), (26, .p (.string v12))] [(1, {call := some (none, [.p (.string v12)], true)})] (A1 (wk_spec_DrawHeightFor hv12))) ?_
     replace h := bs h
     obtain ⟨v13, hv13, h⟩ := h
     refine k_sreg (r_gq [(1, .d false [.sl none (a1.map (eU .u8))]), (26, .p (.string v12)), (27, .box (eRt v13.1)), (28, .p (.bool v13.2))] [(1, {call := some (none, [.p (vRt v13.1), .p (.bool v13.2)], true)})] (A1 (wk_impl_HeightFor hv13))) ?_
     replace h := bs h
     obtain ⟨v14, hv14, h⟩ := h
     refine k_sreg (r_gq [(1, .d false [.sl none (a1.map (eU .u8))]), (26, .p (.string v12)), (27, .box (eRt v13.1)), (28, .p (.bool v13.2)), (29, .box (eRt v14.1)), (30, .p (.bool v14.2))] [(1, {call := some (none, [.p (vRt v14.1), .p (.bool v14.2)], true)})] (A1 (wk_spec_HeightFor hv14))) ?_
     refine k_seq ?_
     refine k_sreg (l1 := [(1, .d false [.sl none (a1.map (eU .u8))]), (26, .p (.string v12)), (27, .box (eRt v13.1)), (28, .p (.bool v13.2)), (29, .box (eRt v14.1)), (210, .p (.bool ((!(v13.2 == v14.2)) || (!((v13.1.1 == v14.1.1) && (v13.1.2 == v14.1.2))))))]) ?_ ?_
     ·rcases ft (!(v13.2 == v14.2)) with ha2 | ha2
      ·exact RegOk.of_eq (l2 := [(1, .d false [.sl none (a1.map (eU .u8))]), (26, .p (.string v12)), (27, .box (eRt v13.1)), (28, .p (.bool v13.2)), (29, .box (eRt v14.1)), (210, .p (.bool ((!(v13.2 == v14.2)) || (!((v13.1.1 == v14.1.1) && (v13.1.2 == v14.1.2))))))]) (r_gq [(1, .d false [.sl none (a1.map (eU .u8))]), (26, .p (.string v12)), (27, .box (eRt v13.1)), (28, .p (.bool v13.2)), (29, .box (eRt v14.1)), (210, .p (.bool true))] [(4, gT), (5, gT), (6, gT), (7, bT)] (A4 ha2 ha2 ha2 ha2)) (by simp [ha2])
      ·exact RegOk.of_eq (l2 := [(1, .d false [.sl none (a1.map (eU .u8))]), (26, .p (.string v12)), (27, .box (eRt v13.1)), (28, .p (.bool v13.2)), (29, .box (eRt v14.1)), (210, .p (.bool ((!(v13.2 == v14.2)) || (!((v13.1.1 == v14.1.1) && (v13.1.2 == v14.1.2))))))]) (r_gq [(1, .d false [.sl none (a1.map (eU .u8))]), (26, .p (.string v12)), (27, .box (eRt v13.1)), (28, .p (.bool v13.2)), (29, .box (eRt v14.1)), (210, .p (.bool (!((v13.1.1 == v14.1.1) && (v13.1.2 == v14.1.2)))))] [(4, gF), (5, gF), (6, {g := some false, pv := some (.bool (!((v13.1.1 == v14.1.1) && (v13.1.2 == v14.1.2))))}), (7, bF)] (A5 ha2 ha2 ha2 (show PureAt Tryz.prog (.binOp .neq 23 (.tmp 207) (.tmp 208) 23) [vRt v13.1, vRt v14.1] (.bool (!((v13.1.1 == v14.1.1) && (v13.1.2 == v14.1.2)))) from (pure_neq2 (by kernel_rfl))) ha2)) (by simp [ha2])
     ·refine kc ((!(v13.2 == v14.2)) || (!((v13.1.1 == v14.1.1) && (v13.1.2 == v14.1.2)))) (fun hc2_14 => ?_) (fun hc2_14 => ?_)
      ·replace h := ite_t hc2_14 h
       refine k_sreg (r_gq [(4, .p (.bool false))] [] trivial) ?_
       refine k_ret ?_
       refine q_r ?_
       obtain rfl := oi h
       exact er [(.p (.bool false), 4)]
      ·replace h := ite_f hc2_14 h
       refine k_skip ?_
       refine q_n ?_
       refine k_join (J := fun (x : Unit) => [(1, .d false [.sl none (a1.map (eU .u8))])]) (K := fun x => laws_FnKneading_k2 a1 x = some r) (fun x16 h => ?_) ?_
       ·unfold laws_FnKneading_k2 at h
        replace h := bs h
        obtain ⟨v17, hv17, h⟩ := h
        refine k_sreg (r_gq [(41, .box (eRt v17))] [(1, {call := some (none, [.p (vRt v17)], true)})] (A1 (wk_spec_DrawTentOf hv17))) ?_
        replace h := bs h
        obtain ⟨v18, hv18, h⟩ := h
        refine k_sreg (r_gq [(41, .box (eRt v17)), (42, .ov false [.sl (some 78) (v18.1.map ePt)]), (43, .p (.bool v18.2))] [(1, {call := some (none, [.ov false [.sl (some 78) (v18.1.map ePt)], .p (.bool v18.2)], true)})] (A2 (wk_impl_TentOf hv18) (show List.all [.ov false [.sl (some 78) (v18.1.map ePt)], .p (.bool v18.2)] simpleR = true from (sa_o (wnR1 (wnL_enc (wn_P (wn_P wn_I wn_I) (wn_P wn_I wn_I))) rfl) (sa_p rfl))))) ?_
        replace h := bs h
        obtain ⟨v19, hv19, h⟩ := h
        refine k_sreg (r_gq [(42, .ov false [.sl (some 78) (v18.1.map ePt)]), (43, .p (.bool v18.2)), (44, .ov false [.sl (some 78) (v19.1.map ePt)]), (45, .p (.bool v19.2))] [(1, {call := some (none, [.ov false [.sl (some 78) (v19.1.map ePt)], .p (.bool v19.2)], true)})] (A2 (wk_spec_TentOf hv19) (show List.all [.ov false [.sl (some 78) (v19.1.map ePt)], .p (.bool v19.2)] simpleR = true from (sa_o (wnR1 (wnL_enc (wn_P (wn_P wn_I wn_I) (wn_P wn_I wn_I))) rfl) (sa_p rfl))))) ?_
        replace h := bs h
        obtain ⟨w21, hw21, h⟩ := h
        refine k_sreg (l1 := [(4, .p (.bool w21))]) ?_ ?_
        ·clear h
         rcases ft (v18.2 == v19.2) with ha3 | ha3
         ·replace hw21 := ite_t ha3 hw21
          replace hw21 := bs hw21
          obtain ⟨v20, hv20, hw21⟩ := hw21
          have hw21 := oi hw21
          subst hw21
          exact (r_gq [(4, .p (.bool v20))] [(4, gT), (5, gT), (6, {g := some true, call := some (some [.d false [.sl none (v18.1.map ePt)], .d false [.sl none (v19.1.map ePt)]], [.p (.bool v20)], true)}), (7, bT)] (A6 ha3 ha3 ha3 (show ([.d false [.sl none (eraL (v18.1.map ePt))], .d false [.sl none (eraL (v19.1.map ePt))]] : List Arg) = [.d false [.sl none (v18.1.map ePt)], .d false [.sl none (v19.1.map ePt)]] from (by simp only [eraL_enc (h := ePt) (era_P (era_P er_I er_I) (era_P er_I er_I)), eraL_enc (h := ePt) (era_P (era_P er_I er_I) (era_P er_I er_I))])) (wk_laws_pSameMap hv20) ha3))
         ·replace hw21 := ite_f ha3 hw21
          have hw21 := oi hw21
          subst hw21
          exact (r_gq [(4, .p (.bool false))] [(4, gF), (5, gF), (6, gF), (7, bF)] (A4 ha3 ha3 ha3 ha3))
        ·refine k_ret ?_
         obtain rfl := oi h
         exact er [(.p (.bool w21), 4)]
       ·refine k_sreg (r_gq [(1, .d false [.sl none (a1.map (eU .u8))]), (26, .p (.string v12)), (27, .box (eRt v13.1)), (29, .box (eRt v14.1)), (211, .p (.bool v13.2))] [] trivial) ?_
        refine kc v13.2 (fun hc2_21 => ?_) (fun hc2_21 => ?_)
        ·replace h := ite_t hc2_21 h
         replace h := bs h
         obtain ⟨v23, hv23, h⟩ := h
         refine k_sreg (r_gq [(1, .d false [.sl none (a1.map (eU .u8))]), (26, .p (.string v12)), (29, .box (eRt v14.1)), (31, .ov false [.sl (some 78) (v23.1.map ePt)]), (32, .p (.bool v23.2))] [(1, {call := some (none, [.ov false [.sl (some 78) (v23.1.map ePt)], .p (.bool v23.2)], true)})] (A2 (wk_impl_TentOf hv23) (show List.all [.ov false [.sl (some 78) (v23.1.map ePt)], .p (.bool v23.2)] simpleR = true from (sa_o (wnR1 (wnL_enc (wn_P (wn_P wn_I wn_I) (wn_P wn_I wn_I))) rfl) (sa_p rfl))))) ?_
         replace h := bs h
         obtain ⟨v24, hv24, h⟩ := h
         refine k_sreg (r_gq [(1, .d false [.sl none (a1.map (eU .u8))]), (26, .p (.string v12)), (31, .ov false [.sl (some 78) (v23.1.map ePt)]), (32, .p (.bool v23.2)), (33, .ov false [.sl (some 78) (v24.1.map ePt)]), (34, .p (.bool v24.2))] [(1, {call := some (none, [.ov false [.sl (some 78) (v24.1.map ePt)], .p (.bool v24.2)], true)})] (A2 (wk_spec_TentOf hv24) (show List.all [.ov false [.sl (some 78) (v24.1.map ePt)], .p (.bool v24.2)] simpleR = true from (sa_o (wnR1 (wnL_enc (wn_P (wn_P wn_I wn_I) (wn_P wn_I wn_I))) rfl) (sa_p rfl))))) ?_
         replace h := bs h
         obtain ⟨v25, hv25, h⟩ := h
         refine k_sreg (r_gq [(1, .d false [.sl none (a1.map (eU .u8))]), (26, .p (.string v12)), (31, .ov false [.sl (some 78) (v23.1.map ePt)]), (32, .p (.bool v23.2)), (33, .ov false [.sl (some 78) (v24.1.map ePt)]), (34, .p (.bool v24.2)), (35, .p (.string v25.1)), (36, .p (.bool v25.2))] [(3, {call := some (some [.d false [.sl none (v23.1.map ePt)], wI (v12.size : Int)], [.p (.string v25.1), .p (.bool v25.2)], true)})] (A2 (show ([.d false [.sl none (eraL (v23.1.map ePt))], wI (v12.size : Int)] : List Arg) = [.d false [.sl none (v23.1.map ePt)], wI (v12.size : Int)] from (by simp only [eraL_enc (h := ePt) (era_P (era_P er_I er_I) (era_P er_I er_I))])) (wk_impl_KneadingOf hv25))) ?_
         replace h := bs h
         obtain ⟨v26, hv26, h⟩ := h
         refine k_sreg (r_gq [(1, .d false [.sl none (a1.map (eU .u8))]), (26, .p (.string v12)), (31, .ov false [.sl (some 78) (v23.1.map ePt)]), (32, .p (.bool v23.2)), (33, .ov false [.sl (some 78) (v24.1.map ePt)]), (34, .p (.bool v24.2)), (35, .p (.string v25.1)), (36, .p (.bool v25.2)), (37, .p (.string v26.1)), (38, .p (.bool v26.2))] [(3, {call := some (some [.d false [.sl none (v24.1.map ePt)], wI (v12.size : Int)], [.p (.string v26.1), .p (.bool v26.2)], true)})] (A2 (show ([.d false [.sl none (eraL (v24.1.map ePt))], wI (v12.size : Int)] : List Arg) = [.d false [.sl none (v24.1.map ePt)], wI (v12.size : Int)] from (by simp only [eraL_enc (h := ePt) (era_P (era_P er_I er_I) (era_P er_I er_I))])) (wk_spec_KneadingOf hv26))) ?_
         replace h := bs h
         obtain ⟨v27, hv27, h⟩ := h
         refine k_sreg (r_gq [(1, .d false [.sl none (a1.map (eU .u8))]), (31, .ov false [.sl (some 78) (v23.1.map ePt)]), (32, .p (.bool v23.2)), (33, .ov false [.sl (some 78) (v24.1.map ePt)]), (34, .p (.bool v24.2)), (35, .p (.string v25.1)), (36, .p (.bool v25.2)), (37, .p (.string v26.1)), (38, .p (.bool v26.2)), (39, .p (iV v27.1)), (40, .p (.bool v27.2))] [(2, {call := some (none, [.p (iV v27.1), .p (.bool v27.2)], true)})] (A1 (wk_impl_CompareKneading hv27))) ?_
         replace h := bs h
         obtain ⟨w29, hw29, h⟩ := h
         refine k_sreg (l1 := [(1, .d false [.sl none (a1.map (eU .u8))]), (274, .p (.bool w29))]) ?_ ?_
         ·clear h
          rcases ft (!v23.2) with ha4 | ha4
          ·replace hw29 := ite_t ha4 hw29
           have hw29 := oi hw29
           subst hw29
           exact (r_gq [(1, .d false [.sl none (a1.map (eU .u8))]), (274, .p (.bool true))] [(3, gT), (4, gT), (5, bT), (7, gT), (8, gT), (9, gT), (10, gT), (11, bT), (13, gT), (14, gT), (15, bT), (17, gT), (18, gT), (19, bT), (21, gT), (22, gT), (23, gT), (24, bT), (26, gT), (27, gT), (28, bT), (30, gT), (31, gT), (32, bT)] (B6 ha4 ha4 ha4 (show true = true from rfl) (show true = true from rfl) (show true = true from rfl) (B6 (show true = true from rfl) (show true = true from rfl) (show true = true from rfl) (show true = true from rfl) (show true = true from rfl) (show true = true from rfl) (B6 (show true = true from rfl) (show true = true from rfl) (show true = true from rfl) (show true = true from rfl) (show true = true from rfl) (show true = true from rfl) (A6 (show true = true from rfl) (show true = true from rfl) (show true = true from rfl) (show true = true from rfl) (show true = true from rfl) (show true = true from rfl))))))
          ·replace hw29 := ite_f ha4 hw29
           rcases ft (!v24.2) with ha5 | ha5
           ·replace hw29 := ite_t ha5 hw29
            have hw29 := oi hw29
            subst hw29
            exact (r_gq [(1, .d false [.sl none (a1.map (eU .u8))]), (274, .p (.bool true))] [(3, gF), (4, gF), (5, bF), (7, gT), (8, gT), (9, gT), (10, gT), (11, bT), (13, gT), (14, gT), (15, bT), (17, gT), (18, gT), (19, bT), (21, gT), (22, gT), (23, gT), (24, bT), (26, gT), (27, gT), (28, bT), (30, gT), (31, gT), (32, bT)] (B6 ha4 ha4 ha4 ha5 ha5 ha5 (B6 ha5 ha5 (show true = true from rfl) (show true = true from rfl) (show true = true from rfl) (show true = true from rfl) (B6 (show true = true from rfl) (show true = true from rfl) (show true = true from rfl) (show true = true from rfl) (show true = true from rfl) (show true = true from rfl) (A6 (show true = true from rfl) (show true = true from rfl) (show true = true from rfl) (show true = true from rfl) (show true = true from rfl) (show true = true from rfl))))))
           ·replace hw29 := ite_f ha5 hw29
            replace hw29 := bs hw29
            obtain ⟨v28, hv28, hw29⟩ := hw29
            rcases ft (!v28) with ha6 | ha6
            ·replace hw29 := ite_t ha6 hw29
             have hw29 := oi hw29
             subst hw29
             exact (r_gq [(1, .d false [.sl none (a1.map (eU .u8))]), (274, .p (.bool true))] [(3, gF), (4, gF), (5, bF), (7, gF), (8, gF), (9, {g := some false, call := some (some [.d false [.sl none (v23.1.map ePt)], .d false [.sl none (v24.1.map ePt)]], [.p (.bool v28)], true)}), (10, gF), (11, bF), (13, gT), (14, gT), (15, bT), (17, gT), (18, gT), (19, bT), (21, gT), (22, gT), (23, gT), (24, bT), (26, gT), (27, gT), (28, bT), (30, gT), (31, gT), (32, bT)] (B6 ha4 ha4 ha4 ha5 ha5 ha5 (B6 (show ([.d false [.sl none (eraL (v23.1.map ePt))], .d false [.sl none (eraL (v24.1.map ePt))]] : List Arg) = [.d false [.sl none (v23.1.map ePt)], .d false [.sl none (v24.1.map ePt)]] from (by simp only [eraL_enc (h := ePt) (era_P (era_P er_I er_I) (era_P er_I er_I)), eraL_enc (h := ePt) (era_P (era_P er_I er_I) (era_P er_I er_I))])) (wk_laws_pSameMap hv28) ha5 ha5 ha6 ha6 (B6 ha6 (show true = true from rfl) (show true = true from rfl) (show true = true from rfl) (show true = true from rfl) (show true = true from rfl) (B6 (show true = true from rfl) (show true = true from rfl) (show true = true from rfl) (show true = true from rfl) (show true = true from rfl) (show true = true from rfl) (A2 (show true = true from rfl) (show true = true from rfl)))))))
            ·replace hw29 := ite_f ha6 hw29
             rcases ft (!v25.2) with ha7 | ha7
             ·replace hw29 := ite_t ha7 hw29
              have hw29 := oi hw29
              subst hw29
              exact (r_gq [(1, .d false [.sl none (a1.map (eU .u8))]), (274, .p (.bool true))] [(3, gF), (4, gF), (5, bF), (7, gF), (8, gF), (9, {g := some false, call := some (some [.d false [.sl none (v23.1.map ePt)], .d false [.sl none (v24.1.map ePt)]], [.p (.bool v28)], true)}), (10, gF), (11, bF), (13, gF), (14, gF), (15, bF), (17, gT), (18, gT), (19, bT), (21, gT), (22, gT), (23, gT), (24, bT), (26, gT), (27, gT), (28, bT), (30, gT), (31, gT), (32, bT)] (B6 ha4 ha4 ha4 ha5 ha5 ha5 (B6 (show ([.d false [.sl none (eraL (v23.1.map ePt))], .d false [.sl none (eraL (v24.1.map ePt))]] : List Arg) = [.d false [.sl none (v23.1.map ePt)], .d false [.sl none (v24.1.map ePt)]] from (by simp only [eraL_enc (h := ePt) (era_P (era_P er_I er_I) (era_P er_I er_I)), eraL_enc (h := ePt) (era_P (era_P er_I er_I) (era_P er_I er_I))])) (wk_laws_pSameMap hv28) ha5 ha5 ha6 ha6 (B6 ha6 ha7 ha7 ha7 (show true = true from rfl) (show true = true from rfl) (B6 (show true = true from rfl) (show true = true from rfl) (show true = true from rfl) (show true = true from rfl) (show true = true from rfl) (show true = true from rfl) (A2 (show true = true from rfl) (show true = true from rfl)))))))
             ·replace hw29 := ite_f ha7 hw29
              rcases ft (!v26.2) with ha8 | ha8
              ·replace hw29 := ite_t ha8 hw29
               have hw29 := oi hw29
               subst hw29
               exact (r_gq [(1, .d false [.sl none (a1.map (eU .u8))]), (274, .p (.bool true))] [(3, gF), (4, gF), (5, bF), (7, gF), (8, gF), (9, {g := some false, call := some (some [.d false [.sl none (v23.1.map ePt)], .d false [.sl none (v24.1.map ePt)]], [.p (.bool v28)], true)}), (10, gF), (11, bF), (13, gF), (14, gF), (15, bF), (17, gF), (18, gF), (19, bF), (21, gT), (22, gT), (23, gT), (24, bT), (26, gT), (27, gT), (28, bT), (30, gT), (31, gT), (32, bT)] (B6 ha4 ha4 ha4 ha5 ha5 ha5 (B6 (show ([.d false [.sl none (eraL (v23.1.map ePt))], .d false [.sl none (eraL (v24.1.map ePt))]] : List Arg) = [.d false [.sl none (v23.1.map ePt)], .d false [.sl none (v24.1.map ePt)]] from (by simp only [eraL_enc (h := ePt) (era_P (era_P er_I er_I) (era_P er_I er_I)), eraL_enc (h := ePt) (era_P (era_P er_I er_I) (era_P er_I er_I))])) (wk_laws_pSameMap hv28) ha5 ha5 ha6 ha6 (B6 ha6 ha7 ha7 ha7 ha8 ha8 (B6 ha8 ha8 (show true = true from rfl) (show true = true from rfl) (show true = true from rfl) (show true = true from rfl) (A2 (show true = true from rfl) (show true = true from rfl)))))))
              ·replace hw29 := ite_f ha8 hw29
               rcases ft (!(v25.1.toList == v26.1.toList)) with ha9 | ha9
               ·replace hw29 := ite_t ha9 hw29
                have hw29 := oi hw29
                subst hw29
                exact (r_gq [(1, .d false [.sl none (a1.map (eU .u8))]), (274, .p (.bool true))] [(3, gF), (4, gF), (5, bF), (7, gF), (8, gF), (9, {g := some false, call := some (some [.d false [.sl none (v23.1.map ePt)], .d false [.sl none (v24.1.map ePt)]], [.p (.bool v28)], true)}), (10, gF), (11, bF), (13, gF), (14, gF), (15, bF), (17, gF), (18, gF), (19, bF), (21, gF), (22, gF), (23, gF), (24, bF), (26, gT), (27, gT), (28, bT), (30, gT), (31, gT), (32, bT)] (B6 ha4 ha4 ha4 ha5 ha5 ha5 (B6 (show ([.d false [.sl none (eraL (v23.1.map ePt))], .d false [.sl none (eraL (v24.1.map ePt))]] : List Arg) = [.d false [.sl none (v23.1.map ePt)], .d false [.sl none (v24.1.map ePt)]] from (by simp only [eraL_enc (h := ePt) (era_P (era_P er_I er_I) (era_P er_I er_I)), eraL_enc (h := ePt) (era_P (era_P er_I er_I) (era_P er_I er_I))])) (wk_laws_pSameMap hv28) ha5 ha5 ha6 ha6 (B6 ha6 ha7 ha7 ha7 ha8 ha8 (B6 ha8 ha8 ha9 ha9 ha9 (show true = true from rfl) (A2 (show true = true from rfl) (show true = true from rfl)))))))
               ·replace hw29 := ite_f ha9 hw29
                rcases ft (!v27.2) with ha10 | ha10
                ·replace hw29 := ite_t ha10 hw29
                 have hw29 := oi hw29
                 subst hw29
                 exact (r_gq [(1, .d false [.sl none (a1.map (eU .u8))]), (274, .p (.bool true))] [(3, gF), (4, gF), (5, bF), (7, gF), (8, gF), (9, {g := some false, call := some (some [.d false [.sl none (v23.1.map ePt)], .d false [.sl none (v24.1.map ePt)]], [.p (.bool v28)], true)}), (10, gF), (11, bF), (13, gF), (14, gF), (15, bF), (17, gF), (18, gF), (19, bF), (21, gF), (22, gF), (23, gF), (24, bF), (26, gF), (27, gF), (28, bF), (30, gT), (31, gT), (32, bT)] (B6 ha4 ha4 ha4 ha5 ha5 ha5 (B6 (show ([.d false [.sl none (eraL (v23.1.map ePt))], .d false [.sl none (eraL (v24.1.map ePt))]] : List Arg) = [.d false [.sl none (v23.1.map ePt)], .d false [.sl none (v24.1.map ePt)]] from (by simp only [eraL_enc (h := ePt) (era_P (era_P er_I er_I) (era_P er_I er_I)), eraL_enc (h := ePt) (era_P (era_P er_I er_I) (era_P er_I er_I))])) (wk_laws_pSameMap hv28) ha5 ha5 ha6 ha6 (B6 ha6 ha7 ha7 ha7 ha8 ha8 (B6 ha8 ha8 ha9 ha9 ha9 ha10 (A2 ha10 ha10))))))
                ·replace hw29 := ite_f ha10 hw29
                 have hw29 := oi hw29
                 subst hw29
                 exact (r_gq [(1, .d false [.sl none (a1.map (eU .u8))]), (274, .p (.bool (decide (v27.1 > 0))))] [(3, gF), (4, gF), (5, bF), (7, gF), (8, gF), (9, {g := some false, call := some (some [.d false [.sl none (v23.1.map ePt)], .d false [.sl none (v24.1.map ePt)]], [.p (.bool v28)], true)}), (10, gF), (11, bF), (13, gF), (14, gF), (15, bF), (17, gF), (18, gF), (19, bF), (21, gF), (22, gF), (23, gF), (24, bF), (26, gF), (27, gF), (28, bF), (30, gF), (31, gF), (32, bF)] (B6 ha4 ha4 ha4 ha5 ha5 ha5 (B6 (show ([.d false [.sl none (eraL (v23.1.map ePt))], .d false [.sl none (eraL (v24.1.map ePt))]] : List Arg) = [.d false [.sl none (v23.1.map ePt)], .d false [.sl none (v24.1.map ePt)]] from (by simp only [eraL_enc (h := ePt) (era_P (era_P er_I er_I) (era_P er_I er_I)), eraL_enc (h := ePt) (era_P (era_P er_I er_I) (era_P er_I er_I))])) (wk_laws_pSameMap hv28) ha5 ha5 ha6 ha6 (B6 ha6 ha7 ha7 ha7 ha8 ha8 (B6 ha8 ha8 ha9 ha9 ha9 ha10 (A2 ha10 ha10))))))
         ·refine kc w29 (fun hc2_29 => ?_) (fun hc2_29 => ?_)
          ·replace h := ite_t hc2_29 h
           refine k_sreg (r_gq [(4, .p (.bool false))] [] trivial) ?_
           refine k_ret ?_
           refine q_r ?_
           obtain rfl := oi h
           exact er [(.p (.bool false), 4)]
          ·replace h := ite_f hc2_29 h
           refine k_skip ?_
           refine q_n ?_
           exact jx () h
        ·replace h := ite_f hc2_21 h
         refine k_skip ?_
         refine q_n ?_
         exact jx () h
    ·refine k_sreg (r_gq [(1, .d false [.sl none (a1.map (eU .u8))]), (5, .d false [.sl none (v3.1.map ePt)]), (6, .p (iV v3.2)), (7, .p (.string v4.1)), (9, .p (.string v5.1)), (13, .d false [.sl none (v7.1.map eRt)]), (102, .p (.bool v4.2))] [] trivial) ?_
     refine kc v4.2 (fun hc2_30 => ?_) (fun hc2_30 => ?_)
     ·replace h := ite_t hc2_30 h
      replace h := bs h
      obtain ⟨v32, hv32, h⟩ := h
      refine k_sreg (r_gq [(1, .d false [.sl none (a1.map (eU .u8))]), (5, .d false [.sl none (v3.1.map ePt)]), (6, .p (iV v3.2)), (7, .p (.string v4.1)), (9, .p (.string v5.1)), (13, .d false [.sl none (v7.1.map eRt)]), (15, .ov false [.sl (some 23) (v32.1.map eRt)]), (16, .p (.bool v32.2))] [(1, {call := some (none, [.ov false [.sl (some 23) (v32.1.map eRt)], .p (.bool v32.2)], true)})] (A2 (wk_impl_TurningPoints hv32) (show List.all [.ov false [.sl (some 23) (v32.1.map eRt)], .p (.bool v32.2)] simpleR = true from (sa_o (wnR1 (wnL_enc (wn_P wn_I wn_I)) rfl) (sa_p rfl))))) ?_
      replace h := bs h
      obtain ⟨v33, hv33, h⟩ := h
      refine k_sreg (r_gq [(1, .d false [.sl none (a1.map (eU .u8))]), (5, .d false [.sl none (v3.1.map ePt)]), (6, .p (iV v3.2)), (7, .p (.string v4.1)), (9, .p (.string v5.1)), (13, .d false [.sl none (v7.1.map eRt)]), (15, .ov false [.sl (some 23) (v32.1.map eRt)]), (16, .p (.bool v32.2)), (17, .ov false [.sl (some 23) (v33.1.map eRt)]), (18, .p (.bool v33.2))] [(1, {call := some (none, [.ov false [.sl (some 23) (v33.1.map eRt)], .p (.bool v33.2)], true)})] (A2 (wk_spec_TurningPoints hv33) (show List.all [.ov false [.sl (some 23) (v33.1.map eRt)], .p (.bool v33.2)] simpleR = true from (sa_o (wnR1 (wnL_enc (wn_P wn_I wn_I)) rfl) (sa_p rfl))))) ?_
      replace h := bs h
      obtain ⟨v34, hv34, h⟩ := h
      refine k_sreg (r_gq [(1, .d false [.sl none (a1.map (eU .u8))]), (5, .d false [.sl none (v3.1.map ePt)]), (6, .p (iV v3.2)), (7, .p (.string v4.1)), (9, .p (.string v5.1)), (13, .d false [.sl none (v7.1.map eRt)]), (15, .ov false [.sl (some 23) (v32.1.map eRt)]), (16, .p (.bool v32.2)), (17, .ov false [.sl (some 23) (v33.1.map eRt)]), (18, .p (.bool v33.2)), (19, .p (.bool v34.1)), (20, .p (.bool v34.2))] [(1, {call := some (none, [.p (.bool v34.1), .p (.bool v34.2)], true)})] (A1 (wk_impl_IsMaximalWord hv34))) ?_
      replace h := bs h
      obtain ⟨v35, hv35, h⟩ := h
      refine k_sreg (r_gq [(1, .d false [.sl none (a1.map (eU .u8))]), (6, .p (iV v3.2)), (7, .p (.string v4.1)), (9, .p (.string v5.1)), (13, .d false [.sl none (v7.1.map eRt)]), (15, .ov false [.sl (some 23) (v32.1.map eRt)]), (16, .p (.bool v32.2)), (17, .ov false [.sl (some 23) (v33.1.map eRt)]), (18, .p (.bool v33.2)), (19, .p (.bool v34.1)), (20, .p (.bool v34.2)), (21, .p (.bool v35.1)), (22, .p (.bool v35.2))] [(1, {call := some (none, [.p (.bool v35.1), .p (.bool v35.2)], true)})] (A1 (wk_impl_IsUnimodal hv35))) ?_
      refine k_seq ?_
      replace h := bs h
      obtain ⟨w38, hw38, h⟩ := h
      refine k_sreg (l1 := [(1, .d false [.sl none (a1.map (eU .u8))]), (9, .p (.string v5.1)), (13, .d false [.sl none (v7.1.map eRt)]), (17, .ov false [.sl (some 23) (v33.1.map eRt)]), (167, .p (.bool w38))]) ?_ ?_
      ·clear h
       rcases ft (!v32.2) with ha3 | ha3
       ·replace hw38 := ite_t ha3 hw38
        have hw38 := oi hw38
        subst hw38
        exact (r_gq [(1, .d false [.sl none (a1.map (eU .u8))]), (9, .p (.string v5.1)), (13, .d false [.sl none (v7.1.map eRt)]), (17, .ov false [.sl (some 23) (v33.1.map eRt)]), (167, .p (.bool true))] [(3, gT), (4, gT), (5, bT), (7, gT), (8, gT), (9, gT), (10, gT), (11, bT), (13, gT), (14, gT), (15, gT), (16, gT), (17, bT), (19, gT), (20, gT), (21, gT), (22, gT), (23, bT), (25, gT), (26, gT), (27, bT), (29, gT), (30, gT), (31, bT), (33, gT), (34, gT), (35, bT), (37, gT), (38, gT), (39, bT), (41, gT), (42, gT), (43, gT), (44, bT)] (B6 ha3 ha3 ha3 (show true = true from rfl) (show true = true from rfl) (show true = true from rfl) (B6 (show true = true from rfl) (show true = true from rfl) (show true = true from rfl) (show true = true from rfl) (show true = true from rfl) (show true = true from rfl) (B6 (show true = true from rfl) (show true = true from rfl) (show true = true from rfl) (show true = true from rfl) (show true = true from rfl) (show true = true from rfl) (B6 (show true = true from rfl) (show true = true from rfl) (show true = true from rfl) (show true = true from rfl) (show true = true from rfl) (show true = true from rfl) (B6 (show true = true from rfl) (show true = true from rfl) (show true = true from rfl) (show true = true from rfl) (show true = true from rfl) (show true = true from rfl) (A4 (show true = true from rfl) (show true = true from rfl) (show true = true from rfl) (show true = true from rfl))))))))
       ·replace hw38 := ite_f ha3 hw38
        rcases ft (!v33.2) with ha4 | ha4
        ·replace hw38 := ite_t ha4 hw38
         have hw38 := oi hw38
         subst hw38
         exact (r_gq [(1, .d false [.sl none (a1.map (eU .u8))]), (9, .p (.string v5.1)), (13, .d false [.sl none (v7.1.map eRt)]), (17, .ov false [.sl (some 23) (v33.1.map eRt)]), (167, .p (.bool true))] [(3, gF), (4, gF), (5, bF), (7, gT), (8, gT), (9, gT), (10, gT), (11, bT), (13, gT), (14, gT), (15, gT), (16, gT), (17, bT), (19, gT), (20, gT), (21, gT), (22, gT), (23, bT), (25, gT), (26, gT), (27, bT), (29, gT), (30, gT), (31, bT), (33, gT), (34, gT), (35, bT), (37, gT), (38, gT), (39, bT), (41, gT), (42, gT), (43, gT), (44, bT)] (B6 ha3 ha3 ha3 ha4 ha4 ha4 (B6 ha4 ha4 (show true = true from rfl) (show true = true from rfl) (show true = true from rfl) (show true = true from rfl) (B6 (show true = true from rfl) (show true = true from rfl) (show true = true from rfl) (show true = true from rfl) (show true = true from rfl) (show true = true from rfl) (B6 (show true = true from rfl) (show true = true from rfl) (show true = true from rfl) (show true = true from rfl) (show true = true from rfl) (show true = true from rfl) (B6 (show true = true from rfl) (show true = true from rfl) (show true = true from rfl) (show true = true from rfl) (show true = true from rfl) (show true = true from rfl) (A4 (show true = true from rfl) (show true = true from rfl) (show true = true from rfl) (show true = true from rfl))))))))
        ·replace hw38 := ite_f ha4 hw38
         replace hw38 := bs hw38
         obtain ⟨v36, hv36, hw38⟩ := hw38
         rcases ft (!v36) with ha5 | ha5
         ·replace hw38 := ite_t ha5 hw38
          have hw38 := oi hw38
          subst hw38
          exact (r_gq [(1, .d false [.sl none (a1.map (eU .u8))]), (9, .p (.string v5.1)), (13, .d false [.sl none (v7.1.map eRt)]), (17, .ov false [.sl (some 23) (v33.1.map eRt)]), (167, .p (.bool true))] [(3, gF), (4, gF), (5, bF), (7, gF), (8, gF), (9, {g := some false, call := some (some [.d false [.sl none (v32.1.map eRt)], .d false [.sl none (v33.1.map eRt)]], [.p (.bool v36)], true)}), (10, gF), (11, bF), (13, gT), (14, gT), (15, gT), (16, gT), (17, bT), (19, gT), (20, gT), (21, gT), (22, gT), (23, bT), (25, gT), (26, gT), (27, bT), (29, gT), (30, gT), (31, bT), (33, gT), (34, gT), (35, bT), (37, gT), (38, gT), (39, bT), (41, gT), (42, gT), (43, gT), (44, bT)] (B6 ha3 ha3 ha3 ha4 ha4 ha4 (B6 (show ([.d false [.sl none (eraL (v32.1.map eRt))], .d false [.sl none (eraL (v33.1.map eRt))]] : List Arg) = [.d false [.sl none (v32.1.map eRt)], .d false [.sl none (v33.1.map eRt)]] from (by simp only [eraL_enc (h := eRt) (era_P er_I er_I), eraL_enc (h := eRt) (era_P er_I er_I)])) (wk_laws_pSameRats hv36) ha4 ha4 ha5 ha5 (B6 ha5 ha5 ha5 (show true = true from rfl) (show true = true from rfl) (show true = true from rfl) (B6 (show true = true from rfl) (show true = true from rfl) (show true = true from rfl) (show true = true from rfl) (show true = true from rfl) (show true = true from rfl) (B6 (show true = true from rfl) (show true = true from rfl) (show true = true from rfl) (show true = true from rfl) (show true = true from rfl) (show true = true from rfl) (A6 (show true = true from rfl) (show true = true from rfl) (show true = true from rfl) (show true = true from rfl) (show true = true from rfl) (show true = true from rfl))))))))
         ·replace hw38 := ite_f ha5 hw38
          rcases ft ((v5.1.size : Int) != v3.2) with ha6 | ha6
          ·replace hw38 := ite_t ha6 hw38
           have hw38 := oi hw38
           subst hw38
           exact (r_gq [(1, .d false [.sl none (a1.map (eU .u8))]), (9, .p (.string v5.1)), (13, .d false [.sl none (v7.1.map eRt)]), (17, .ov false [.sl (some 23) (v33.1.map eRt)]), (167, .p (.bool true))] [(3, gF), (4, gF), (5, bF), (7, gF), (8, gF), (9, {g := some false, call := some (some [.d false [.sl none (v32.1.map eRt)], .d false [.sl none (v33.1.map eRt)]], [.p (.bool v36)], true)}), (10, gF), (11, bF), (13, gF), (14, gF), (15, gF), (16, gF), (17, bF), (19, gT), (20, gT), (21, gT), (22, gT), (23, bT), (25, gT), (26, gT), (27, bT), (29, gT), (30, gT), (31, bT), (33, gT), (34, gT), (35, bT), (37, gT), (38, gT), (39, bT), (41, gT), (42, gT), (43, gT), (44, bT)] (B6 ha3 ha3 ha3 ha4 ha4 ha4 (B6 (show ([.d false [.sl none (eraL (v32.1.map eRt))], .d false [.sl none (eraL (v33.1.map eRt))]] : List Arg) = [.d false [.sl none (v32.1.map eRt)], .d false [.sl none (v33.1.map eRt)]] from (by simp only [eraL_enc (h := eRt) (era_P er_I er_I), eraL_enc (h := eRt) (era_P er_I er_I)])) (wk_laws_pSameRats hv36) ha4 ha4 ha5 ha5 (B6 ha5 ha5 ha5 ha6 ha6 ha6 (B6 ha6 ha6 (show true = true from rfl) (show true = true from rfl) (show true = true from rfl) (show true = true from rfl) (B6 (show true = true from rfl) (show true = true from rfl) (show true = true from rfl) (show true = true from rfl) (show true = true from rfl) (show true = true from rfl) (A6 (show true = true from rfl) (show true = true from rfl) (show true = true from rfl) (show true = true from rfl) (show true = true from rfl) (show true = true from rfl))))))))
          ·replace hw38 := ite_f ha6 hw38
           rcases ft ((v7.1.length : Int) != v3.2) with ha7 | ha7
           ·replace hw38 := ite_t ha7 hw38
            have hw38 := oi hw38
            subst hw38
            exact (r_gq [(1, .d false [.sl none (a1.map (eU .u8))]), (9, .p (.string v5.1)), (13, .d false [.sl none (v7.1.map eRt)]), (17, .ov false [.sl (some 23) (v33.1.map eRt)]), (167, .p (.bool true))] [(3, gF), (4, gF), (5, bF), (7, gF), (8, gF), (9, {g := some false, call := some (some [.d false [.sl none (v32.1.map eRt)], .d false [.sl none (v33.1.map eRt)]], [.p (.bool v36)], true)}), (10, gF), (11, bF), (13, gF), (14, gF), (15, gF), (16, gF), (17, bF), (19, gF), (20, {g := some false, n := some v7.1.length}), (21, gF), (22, gF), (23, bF), (25, gT), (26, gT), (27, bT), (29, gT), (30, gT), (31, bT), (33, gT), (34, gT), (35, bT), (37, gT), (38, gT), (39, bT), (41, gT), (42, gT), (43, gT), (44, bT)] (B6 ha3 ha3 ha3 ha4 ha4 ha4 (B6 (show ([.d false [.sl none (eraL (v32.1.map eRt))], .d false [.sl none (eraL (v33.1.map eRt))]] : List Arg) = [.d false [.sl none (v32.1.map eRt)], .d false [.sl none (v33.1.map eRt)]] from (by simp only [eraL_enc (h := eRt) (era_P er_I er_I), eraL_enc (h := eRt) (era_P er_I er_I)])) (wk_laws_pSameRats hv36) ha4 ha4 ha5 ha5 (B6 ha5 ha5 ha5 ha6 ha6 (show (v7.1.map eRt).length = v7.1.length from (List.length_map ..)) (B6 ha6 ha6 ha6 ha7 ha7 ha7 (B6 (show true = true from rfl) (show true = true from rfl) (show true = true from rfl) (show true = true from rfl) (show true = true from rfl) (show true = true from rfl) (B6 (show true = true from rfl) (show true = true from rfl) (show true = true from rfl) (show true = true from rfl) (show true = true from rfl) (show true = true from rfl) (A1 (show true = true from rfl)))))))))
           ·replace hw38 := ite_f ha7 hw38
            rcases ft (!v34.2) with ha8 | ha8
            ·replace hw38 := ite_t ha8 hw38
             have hw38 := oi hw38
             subst hw38
             exact (r_gq [(1, .d false [.sl none (a1.map (eU .u8))]), (9, .p (.string v5.1)), (13, .d false [.sl none (v7.1.map eRt)]), (17, .ov false [.sl (some 23) (v33.1.map eRt)]), (167, .p (.bool true))] [(3, gF), (4, gF), (5, bF), (7, gF), (8, gF), (9, {g := some false, call := some (some [.d false [.sl none (v32.1.map eRt)], .d false [.sl none (v33.1.map eRt)]], [.p (.bool v36)], true)}), (10, gF), (11, bF), (13, gF), (14, gF), (15, gF), (16, gF), (17, bF), (19, gF), (20, {g := some false, n := some v7.1.length}), (21, gF), (22, gF), (23, bF), (25, gF), (26, gF), (27, bF), (29, gT), (30, gT), (31, bT), (33, gT), (34, gT), (35, bT), (37, gT), (38, gT), (39, bT), (41, gT), (42, gT), (43, gT), (44, bT)] (B6 ha3 ha3 ha3 ha4 ha4 ha4 (B6 (show ([.d false [.sl none (eraL (v32.1.map eRt))], .d false [.sl none (eraL (v33.1.map eRt))]] : List Arg) = [.d false [.sl none (v32.1.map eRt)], .d false [.sl none (v33.1.map eRt)]] from (by simp only [eraL_enc (h := eRt) (era_P er_I er_I), eraL_enc (h := eRt) (era_P er_I er_I)])) (wk_laws_pSameRats hv36) ha4 ha4 ha5 ha5 (B6 ha5 ha5 ha5 ha6 ha6 (show (v7.1.map eRt).length = v7.1.length from (List.length_map ..)) (B6 ha6 ha6 ha6 ha7 ha7 ha7 (B6 ha8 ha8 ha8 (show true = true from rfl) (show true = true from rfl) (show true = true from rfl) (B6 (show true = true from rfl) (show true = true from rfl) (show true = true from rfl) (show true = true from rfl) (show true = true from rfl) (show true = true from rfl) (A1 (show true = true from rfl)))))))))
            ·replace hw38 := ite_f ha8 hw38
             rcases ft (!v34.1) with ha9 | ha9
             ·replace hw38 := ite_t ha9 hw38
              have hw38 := oi hw38
              subst hw38
              exact (r_gq [(1, .d false [.sl none (a1.map (eU .u8))]), (9, .p (.string v5.1)), (13, .d false [.sl none (v7.1.map eRt)]), (17, .ov false [.sl (some 23) (v33.1.map eRt)]), (167, .p (.bool true))] [(3, gF), (4, gF), (5, bF), (7, gF), (8, gF), (9, {g := some false, call := some (some [.d false [.sl none (v32.1.map eRt)], .d false [.sl none (v33.1.map eRt)]], [.p (.bool v36)], true)}), (10, gF), (11, bF), (13, gF), (14, gF), (15, gF), (16, gF), (17, bF), (19, gF), (20, {g := some false, n := some v7.1.length}), (21, gF), (22, gF), (23, bF), (25, gF), (26, gF), (27, bF), (29, gF), (30, gF), (31, bF), (33, gT), (34, gT), (35, bT), (37, gT), (38, gT), (39, bT), (41, gT), (42, gT), (43, gT), (44, bT)] (B6 ha3 ha3 ha3 ha4 ha4 ha4 (B6 (show ([.d false [.sl none (eraL (v32.1.map eRt))], .d false [.sl none (eraL (v33.1.map eRt))]] : List Arg) = [.d false [.sl none (v32.1.map eRt)], .d false [.sl none (v33.1.map eRt)]] from (by simp only [eraL_enc (h := eRt) (era_P er_I er_I), eraL_enc (h := eRt) (era_P er_I er_I)])) (wk_laws_pSameRats hv36) ha4 ha4 ha5 ha5 (B6 ha5 ha5 ha5 ha6 ha6 (show (v7.1.map eRt).length = v7.1.length from (List.length_map ..)) (B6 ha6 ha6 ha6 ha7 ha7 ha7 (B6 ha8 ha8 ha8 ha9 ha9 ha9 (B6 (show true = true from rfl) (show true = true from rfl) (show true = true from rfl) (show true = true from rfl) (show true = true from rfl) (show true = true from rfl) (A1 (show true = true from rfl)))))))))
             ·replace hw38 := ite_f ha9 hw38
              rcases ft (!v35.2) with ha10 | ha10
              ·replace hw38 := ite_t ha10 hw38
               have hw38 := oi hw38
               subst hw38
               exact (r_gq [(1, .d false [.sl none (a1.map (eU .u8))]), (9, .p (.string v5.1)), (13, .d false [.sl none (v7.1.map eRt)]), (17, .ov false [.sl (some 23) (v33.1.map eRt)]), (167, .p (.bool true))] [(3, gF), (4, gF), (5, bF), (7, gF), (8, gF), (9, {g := some false, call := some (some [.d false [.sl none (v32.1.map eRt)], .d false [.sl none (v33.1.map eRt)]], [.p (.bool v36)], true)}), (10, gF), (11, bF), (13, gF), (14, gF), (15, gF), (16, gF), (17, bF), (19, gF), (20, {g := some false, n := some v7.1.length}), (21, gF), (22, gF), (23, bF), (25, gF), (26, gF), (27, bF), (29, gF), (30, gF), (31, bF), (33, gF), (34, gF), (35, bF), (37, gT), (38, gT), (39, bT), (41, gT), (42, gT), (43, gT), (44, bT)] (B6 ha3 ha3 ha3 ha4 ha4 ha4 (B6 (show ([.d false [.sl none (eraL (v32.1.map eRt))], .d false [.sl none (eraL (v33.1.map eRt))]] : List Arg) = [.d false [.sl none (v32.1.map eRt)], .d false [.sl none (v33.1.map eRt)]] from (by simp only [eraL_enc (h := eRt) (era_P er_I er_I), eraL_enc (h := eRt) (era_P er_I er_I)])) (wk_laws_pSameRats hv36) ha4 ha4 ha5 ha5 (B6 ha5 ha5 ha5 ha6 ha6 (show (v7.1.map eRt).length = v7.1.length from (List.length_map ..)) (B6 ha6 ha6 ha6 ha7 ha7 ha7 (B6 ha8 ha8 ha8 ha9 ha9 ha9 (B6 ha10 ha10 ha10 (show true = true from rfl) (show true = true from rfl) (show true = true from rfl) (A1 (show true = true from rfl)))))))))
              ·replace hw38 := ite_f ha10 hw38
               rcases ft (!v35.1) with ha11 | ha11
               ·replace hw38 := ite_t ha11 hw38
                have hw38 := oi hw38
                subst hw38
                exact (r_gq [(1, .d false [.sl none (a1.map (eU .u8))]), (9, .p (.string v5.1)), (13, .d false [.sl none (v7.1.map eRt)]), (17, .ov false [.sl (some 23) (v33.1.map eRt)]), (167, .p (.bool true))] [(3, gF), (4, gF), (5, bF), (7, gF), (8, gF), (9, {g := some false, call := some (some [.d false [.sl none (v32.1.map eRt)], .d false [.sl none (v33.1.map eRt)]], [.p (.bool v36)], true)}), (10, gF), (11, bF), (13, gF), (14, gF), (15, gF), (16, gF), (17, bF), (19, gF), (20, {g := some false, n := some v7.1.length}), (21, gF), (22, gF), (23, bF), (25, gF), (26, gF), (27, bF), (29, gF), (30, gF), (31, bF), (33, gF), (34, gF), (35, bF), (37, gF), (38, gF), (39, bF), (41, gT), (42, gT), (43, gT), (44, bT)] (B6 ha3 ha3 ha3 ha4 ha4 ha4 (B6 (show ([.d false [.sl none (eraL (v32.1.map eRt))], .d false [.sl none (eraL (v33.1.map eRt))]] : List Arg) = [.d false [.sl none (v32.1.map eRt)], .d false [.sl none (v33.1.map eRt)]] from (by simp only [eraL_enc (h := eRt) (era_P er_I er_I), eraL_enc (h := eRt) (era_P er_I er_I)])) (wk_laws_pSameRats hv36) ha4 ha4 ha5 ha5 (B6 ha5 ha5 ha5 ha6 ha6 (show (v7.1.map eRt).length = v7.1.length from (List.length_map ..)) (B6 ha6 ha6 ha6 ha7 ha7 ha7 (B6 ha8 ha8 ha8 ha9 ha9 ha9 (B6 ha10 ha10 ha10 ha11 ha11 ha11 (A1 ha11))))))))
               ·replace hw38 := ite_f ha11 hw38
                replace hw38 := bs hw38
                obtain ⟨v37, hv37, hw38⟩ := hw38
                have hw38 := oi hw38
                subst hw38
                exact (r_gq [(1, .d false [.sl none (a1.map (eU .u8))]), (9, .p (.string v5.1)), (13, .d false [.sl none (v7.1.map eRt)]), (17, .ov false [.sl (some 23) (v33.1.map eRt)]), (167, .p (.bool (!v37)))] [(3, gF), (4, gF), (5, bF), (7, gF), (8, gF), (9, {g := some false, call := some (some [.d false [.sl none (v32.1.map eRt)], .d false [.sl none (v33.1.map eRt)]], [.p (.bool v36)], true)}), (10, gF), (11, bF), (13, gF), (14, gF), (15, gF), (16, gF), (17, bF), (19, gF), (20, {g := some false, n := some v7.1.length}), (21, gF), (22, gF), (23, bF), (25, gF), (26, gF), (27, bF), (29, gF), (30, gF), (31, bF), (33, gF), (34, gF), (35, bF), (37, gF), (38, gF), (39, bF), (41, gF), (42, {g := some false, call := some (none, [.p (.bool v37)], true)}), (43, gF), (44, bF)] (B6 ha3 ha3 ha3 ha4 ha4 ha4 (B6 (show ([.d false [.sl none (eraL (v32.1.map eRt))], .d false [.sl none (eraL (v33.1.map eRt))]] : List Arg) = [.d false [.sl none (v32.1.map eRt)], .d false [.sl none (v33.1.map eRt)]] from (by simp only [eraL_enc (h := eRt) (era_P er_I er_I), eraL_enc (h := eRt) (era_P er_I er_I)])) (wk_laws_pSameRats hv36) ha4 ha4 ha5 ha5 (B6 ha5 ha5 ha5 ha6 ha6 (show (v7.1.map eRt).length = v7.1.length from (List.length_map ..)) (B6 ha6 ha6 ha6 ha7 ha7 ha7 (B6 ha8 ha8 ha8 ha9 ha9 ha9 (B6 ha10 ha10 ha10 ha11 ha11 (wk_impl_IsKneadingWord hv37) (A2 ha11 ha11))))))))
      ·refine kc w38 (fun hc3_38 => ?_) (fun hc3_38 => ?_)
       ·replace h := ite_t hc3_38 h
        refine k_sreg (r_gq [(4, .p (.bool false))] [] trivial) ?_
        refine k_ret ?_
        refine q_r ?_
        refine q_r ?_
        obtain rfl := oi h
        exact er [(.p (.bool false), 4)]
       ·replace h := ite_f hc3_38 h
        refine k_skip ?_
        refine q_n ?_
        refine k_sreg (r_gq [(1, .d false [.sl none (a1.map (eU .u8))]), (9, .p (.string v5.1)), (17, .ov false [.sl (some 23) (v33.1.map eRt)]), (168, .d false [.sl none (v7.1.map eRt)]), (169, .p (iV (v7.1.length : Int))), (170, .p (iV 0))] [(1, {n := some v7.1.length})] (A1 (show (v7.1.map eRt).length = v7.1.length from (List.length_map ..)))) ?_
        refine k_block ?_
        obtain ⟨y41, hl_x40, hk_x40⟩ := bs h
        clear h
        refine k_loop (J := fun (x : Int) => [(1, .d false [.sl none (a1.map (eU .u8))]), (9, .p (.string v5.1)), (17, .ov false [.sl (some 23) (v33.1.map eRt)]), (168, .d false [.sl none (v7.1.map eRt)]), (169, .p (iV (v7.1.length : Int))), (170, .p (iV x))]) hl_x40 (wk_of (by kernel_rfl) (by kernel_rfl)) (fun x40 o_x40 h hy_x40 => ?_)
        unfold laws_FnKneading_b1 at h
        refine k_sreg (r_gq [(1, .d false [.sl none (a1.map (eU .u8))]), (9, .p (.string v5.1)), (17, .ov false [.sl (some 23) (v33.1.map eRt)]), (168, .d false [.sl none (v7.1.map eRt)]), (169, .p (iV (v7.1.length : Int))), (170, .p (iV x40)), (171, .p (.bool (decide (x40 < (v7.1.length : Int)))))] [] trivial) ?_
        refine k_seq ?_
        refine kc (decide (x40 < (v7.1.length : Int))) (fun hc5_41 => ?_) (fun hc5_41 => ?_)
        ·replace h := ite_t hc5_41 h
         refine k_skip ?_
         refine q_n ?_
         refine k_seq ?_
         refine k_block ?_
         replace h := bs h
         obtain ⟨v43, hv43, h⟩ := h
         refine k_sreg (r_gq [(1, .d false [.sl none (a1.map (eU .u8))]), (9, .p (.string v5.1)), (17, .ov false [.sl (some 23) (v33.1.map eRt)]), (23, .p (iV x40)), (24, .box (eRt v43)), (168, .d false [.sl none (v7.1.map eRt)]), (169, .p (iV (v7.1.length : Int))), (170, .p (iV x40))] [(1, {row := some (eRt v43)})] (A2 (idxO_some hv43).1 (map_get eRt (idxO_some hv43).2))) ?_
         refine k_sreg (r_gq [(1, .d false [.sl none (a1.map (eU .u8))]), (9, .p (.string v5.1)), (17, .ov false [.sl (some 23) (v33.1.map eRt)]), (23, .p (iV x40)), (24, .box (eRt v43)), (25, .p (.int .u8 67)), (168, .d false [.sl none (v7.1.map eRt)]), (169, .p (iV (v7.1.length : Int))), (170, .p (iV x40))] [] trivial) ?_
         refine k_join (J := fun (x : Int) => [(1, .d false [.sl none (a1.map (eU .u8))]), (9, .p (.string v5.1)), (17, .ov false [.sl (some 23) (v33.1.map eRt)]), (23, .p (iV x40)), (24, .box (eRt v43)), (25, .p (.int .u8 x)), (168, .d false [.sl none (v7.1.map eRt)]), (169, .p (iV (v7.1.length : Int))), (170, .p (iV x40))]) (K := fun x => laws_FnKneading_k3 v5 v33 x40 v43 x = some o_x40) (fun x44 h => ?_) ?_
         ·unfold laws_FnKneading_k3 at h
          refine k_join (J := fun (x : Int) => [(1, .d false [.sl none (a1.map (eU .u8))]), (9, .p (.string v5.1)), (17, .ov false [.sl (some 23) (v33.1.map eRt)]), (23, .p (iV x40)), (25, .p (.int .u8 x)), (168, .d false [.sl none (v7.1.map eRt)]), (169, .p (iV (v7.1.length : Int))), (170, .p (iV x40))]) (K := fun x => laws_FnKneading_k4 v5 x40 x = some o_x40) (fun x45 h => ?_) ?_
          ·unfold laws_FnKneading_k4 at h
           replace h := bs h
           obtain ⟨u46, hu46, h⟩ := h
           refine k_sreg (r_gq [(1, .d false [.sl none (a1.map (eU .u8))]), (9, .p (.string v5.1)), (17, .ov false [.sl (some 23) (v33.1.map eRt)]), (168, .d false [.sl none (v7.1.map eRt)]), (169, .p (iV (v7.1.length : Int))), (170, .p (iV x40)), (189, .p (.bool ((strAt v5.1 x40) != x45)))] [(2, {pv := some (.int .u8 (strAt v5.1 x40))})] (A1 (show PureAt Tryz.prog (.index 9 (.tmp 185) (.tmp 186)) [.string v5.1, .int .i64 x40] (.int .u8 (strAt v5.1 x40)) from (pure_sidx (by kernel_rfl) (guardO_some hu46))))) ?_
           refine kc ((strAt v5.1 x40) != x45) (fun hc6_46 => ?_) (fun hc6_46 => ?_)
           ·replace h := ite_t hc6_46 h
            refine k_sreg (r_gq [(4, .p (.bool false))] [] trivial) ?_
            refine k_ret ?_
            refine b_r ?_
            refine q_r ?_
            refine lq_r ?_
            refine b_r ?_
            refine q_r ?_
            have hyy := hy_x40 _ (oi h).symm
            subst hyy
            have h := hk_x40
            dsimp only [Sum.elim] at h
            obtain rfl := oi h
            exact er [(.p (.bool false), 4)]
           ·replace h := ite_f hc6_46 h
            refine k_skip ?_
            refine b_n ?_
            refine q_n ?_
            refine k_reg (r_gq [(1, .d false [.sl none (a1.map (eU .u8))]), (9, .p (.string v5.1)), (17, .ov false [.sl (some 23) (v33.1.map eRt)]), (168, .d false [.sl none (v7.1.map eRt)]), (169, .p (iV (v7.1.length : Int))), (170, .p (iV (w64 (x40 + 1))))] [] trivial) ?_
            exact lqn (w64 (x40 + 1)) h
          ·replace h := bs h
           obtain ⟨v48, hv48, h⟩ := h
           replace h := bs h
           obtain ⟨v49, hv49, h⟩ := h
           refine k_sreg (r_dq Tryz_mixed 4 [] [(1, .d false [.sl none (a1.map (eU .u8))]), (9, .p (.string v5.1)), (17, .ov false [.sl (some 23) (v33.1.map eRt)]), (23, .p (iV x40)), (25, .p (.int .u8 x44)), (168, .d false [.sl none (v7.1.map eRt)]), (169, .p (iV (v7.1.length : Int))), (170, .p (iV x40)), (184, .p (.bool v49))] [(1, {row := some (eRt v48)}), (2, {row := some (eRt v48)}), (4, {call := some (none, [.p (.bool v49)], true)})] (A4 (idxO_some hv48).1 (map_get eRt (idxO_some hv48).2) (show getRow [[.sl (some 23) (v33.1.map eRt)]] [(0, 0), ((Int.toNat 0), 0)] = some (eRt v48) from ((gr0 rfl).trans (gre (map_get eRt (idxO_some hv48).2)))) (wk_laws_pLess hv49))) ?_
           refine kc v49 (fun hc7_49 => ?_) (fun hc7_49 => ?_)
           ·replace h := ite_t hc7_49 h
            refine k_reg (r_gq [(1, .d false [.sl none (a1.map (eU .u8))]), (9, .p (.string v5.1)), (17, .ov false [.sl (some 23) (v33.1.map eRt)]), (23, .p (iV x40)), (25, .p (.int .u8 82)), (168, .d false [.sl none (v7.1.map eRt)]), (169, .p (iV (v7.1.length : Int))), (170, .p (iV x40))] [] trivial) ?_
            refine q_n ?_
            exact jx 82 h
           ·replace h := ite_f hc7_49 h
            refine k_skip ?_
            refine q_n ?_
            exact jx x44 h
         ·replace h := bs h
          obtain ⟨v51, hv51, h⟩ := h
          replace h := bs h
          obtain ⟨v52, hv52, h⟩ := h
          refine k_sreg (r_dq Tryz_mixed 4 [] [(1, .d false [.sl none (a1.map (eU .u8))]), (9, .p (.string v5.1)), (17, .ov false [.sl (some 23) (v33.1.map eRt)]), (23, .p (iV x40)), (24, .box (eRt v43)), (25, .p (.int .u8 67)), (168, .d false [.sl none (v7.1.map eRt)]), (169, .p (iV (v7.1.length : Int))), (170, .p (iV x40)), (179, .p (.bool v52))] [(2, {row := some (eRt v51)}), (3, {row := some (eRt v51)}), (4, {call := some (none, [.p (.bool v52)], true)})] (A4 (idxO_some hv51).1 (map_get eRt (idxO_some hv51).2) (show getRow [[.sl (some 23) (v33.1.map eRt)]] [(0, 0), ((Int.toNat 0), 0)] = some (eRt v51) from ((gr0 rfl).trans (gre (map_get eRt (idxO_some hv51).2)))) (wk_laws_pLess hv52))) ?_
          refine kc v52 (fun hc7_52 => ?_) (fun hc7_52 => ?_)
          ·replace h := ite_t hc7_52 h
           refine k_reg (r_gq [(1, .d false [.sl none (a1.map (eU .u8))]), (9, .p (.string v5.1)), (17, .ov false [.sl (some 23) (v33.1.map eRt)]), (23, .p (iV x40)), (24, .box (eRt v43)), (25, .p (.int .u8 76)), (168, .d false [.sl none (v7.1.map eRt)]), (169, .p (iV (v7.1.length : Int))), (170, .p (iV x40))] [] trivial) ?_
           refine q_n ?_
           exact jx 76 h
          ·replace h := ite_f hc7_52 h
           refine k_skip ?_
           refine q_n ?_
           exact jx 67 h
        ·replace h := ite_f hc5_41 h
         refine k_exit ?_
         refine q_x ?_
         refine lq_x ?_
         refine b_x ?_
         have hyy := hy_x40 _ (oi h).symm
         subst hyy
         have h := hk_x40
         dsimp only [Sum.elim] at h
         refine q_n ?_
         exact jx () h
     ·replace h := ite_f hc2_30 h
      refine k_skip ?_
      refine q_n ?_
      exact jx () h
end Go.PV

/-
  Walks through the functions that the law reaches: each answers as its plain definition does.
  Conditions: none.
-/
import Derived.KernelRfl
import Derived.Test.YtcmcgkkjkaahcaaGreatWLapsPartB
import Derived.Test.YtcmcgkkjkaahcaaGreatProg
open Go Go.PV Go.Proofs
set_option linter.all false
namespace Go.PV
attribute [local irreducible] pvC pvL pvD sOp seqQ blockQ Meets MeetsB Ok OkL RegOk agree endQ seqL blockL loopQ endL endLB
theorem wk_laws_FnLaps {a0 : (List Int)} {a1 : (List Int)}  {r : Bool} (h : laws_FnLaps a0 a1 = some r) : Meets Tryz.prog 4 [.d false [.sl none (a0.map (eU .u8))], .d false [.sl none (a1.map (eU .u8))]] { vals := [.p (.bool r)] } := by
 refine mo Tryz.func4 [(0, .d false [.sl none (a0.map (eU .u8))]), (1, .d false [.sl none (a1.map (eU .u8))])] ?_
 unfold laws_FnLaps at h
 refine k_sreg (r_gq [(0, .d false [.sl none (a0.map (eU .u8))]), (1, .d false [.sl none (a1.map (eU .u8))])] [] trivial) ?_
 refine k_seq ?_
 replace h := bs h
 obtain ⟨v1, hv1, h⟩ := h
 refine k_sreg (r_gq [(0, .d false [.sl none (a0.map (eU .u8))]), (1, .d false [.sl none (a1.map (eU .u8))]), (47, .p (.bool v1))] [(2, {call := some (none, [.p (.bool v1)], true)})] (A1 (wk_laws_big hv1))) ?_
 refine kc v1 (fun hc2_1 => ?_) (fun hc2_1 => ?_)
 ·replace h := ite_t hc2_1 h
  refine k_sreg (r_gq [(4, .p (.bool true))] [] trivial) ?_
  refine k_ret ?_
  refine q_r ?_
  obtain rfl := oi h
  exact er [(.p (.bool true), 4)]
 ·replace h := ite_f hc2_1 h
  refine k_skip ?_
  refine q_n ?_
  replace h := bs h
  obtain ⟨v3, hv3, h⟩ := h
  refine k_sreg (r_gq [(1, .d false [.sl none (a1.map (eU .u8))]), (5, .ov false [.sl (some 85) (v3.1.map ePt)]), (6, .p (iV v3.2))] [(1, {call := some (none, [.ov false [.sl (some 85) (v3.1.map ePt)], .p (iV v3.2)], true)})] (A2 (wk_spec_DrawLapGrowth hv3) (show List.all [.ov false [.sl (some 85) (v3.1.map ePt)], .p (iV v3.2)] simpleR = true from (sa_o (wnR1 (wnL_enc (wn_P (wn_P wn_I wn_I) (wn_P wn_I wn_I))) rfl) (sa_p rfl))))) ?_
  replace h := bs h
  obtain ⟨v4, hv4, h⟩ := h
  refine k_sreg (r_gq [(1, .d false [.sl none (a1.map (eU .u8))]), (5, .ov false [.sl (some 85) (v3.1.map ePt)]), (6, .p (iV v3.2)), (7, .ov false [.sl (some 3) (v4.1.map eI)]), (8, .p (.bool v4.2))] [(2, {call := some (some [.d false [.sl none (v3.1.map ePt)], wI v3.2], [.ov false [.sl (some 3) (v4.1.map eI)], .p (.bool v4.2)], true)})] (A3 (show ([.d false [.sl none (eraL (v3.1.map ePt))], wI v3.2] : List Arg) = [.d false [.sl none (v3.1.map ePt)], wI v3.2] from (by simp only [eraL_enc (h := ePt) (era_P (era_P er_I er_I) (era_P er_I er_I))])) (wk_impl_LapGrowth hv4) (show List.all [.ov false [.sl (some 3) (v4.1.map eI)], .p (.bool v4.2)] simpleR = true from (sa_o (wnR1 (wnL_enc wn_I) rfl) (sa_p rfl))))) ?_
  replace h := bs h
  obtain ⟨v5, hv5, h⟩ := h
  refine k_sreg (r_gq [(1, .d false [.sl none (a1.map (eU .u8))]), (5, .ov false [.sl (some 85) (v3.1.map ePt)]), (6, .p (iV v3.2)), (7, .ov false [.sl (some 3) (v4.1.map eI)]), (8, .p (.bool v4.2)), (9, .ov false [.sl (some 3) (v5.1.map eI)]), (10, .p (.bool v5.2))] [(2, {call := some (some [.d false [.sl none (v3.1.map ePt)], wI v3.2], [.ov false [.sl (some 3) (v5.1.map eI)], .p (.bool v5.2)], true)})] (A3 (show ([.d false [.sl none (eraL (v3.1.map ePt))], wI v3.2] : List Arg) = [.d false [.sl none (v3.1.map ePt)], wI v3.2] from (by simp only [eraL_enc (h := ePt) (era_P (era_P er_I er_I) (era_P er_I er_I))])) (wk_spec_LapGrowth hv5) (show List.all [.ov false [.sl (some 3) (v5.1.map eI)], .p (.bool v5.2)] simpleR = true from (sa_o (wnR1 (wnL_enc wn_I) rfl) (sa_p rfl))))) ?_
  replace h := bs h
  obtain ⟨v6, hv6, h⟩ := h
  refine k_sreg (r_gq [(1, .d false [.sl none (a1.map (eU .u8))]), (5, .ov false [.sl (some 85) (v3.1.map ePt)]), (6, .p (iV v3.2)), (7, .ov false [.sl (some 3) (v4.1.map eI)]), (8, .p (.bool v4.2)), (9, .ov false [.sl (some 3) (v5.1.map eI)]), (10, .p (.bool v5.2)), (11, .p (iV v6.1)), (12, .p (.bool v6.2))] [(2, {call := some (some [.d false [.sl none (v3.1.map ePt)], wI v3.2], [.p (iV v6.1), .p (.bool v6.2)], true)})] (A2 (show ([.d false [.sl none (eraL (v3.1.map ePt))], wI v3.2] : List Arg) = [.d false [.sl none (v3.1.map ePt)], wI v3.2] from (by simp only [eraL_enc (h := ePt) (era_P (era_P er_I er_I) (era_P er_I er_I))])) (wk_impl_LapNumber hv6))) ?_
  replace h := bs h
  obtain ⟨v7, hv7, h⟩ := h
  refine k_sreg (r_gq [(1, .d false [.sl none (a1.map (eU .u8))]), (5, .ov false [.sl (some 85) (v3.1.map ePt)]), (6, .p (iV v3.2)), (7, .ov false [.sl (some 3) (v4.1.map eI)]), (8, .p (.bool v4.2)), (9, .ov false [.sl (some 3) (v5.1.map eI)]), (10, .p (.bool v5.2)), (11, .p (iV v6.1)), (12, .p (.bool v6.2)), (13, .p (iV v7.1)), (14, .p (.bool v7.2))] [(2, {call := some (some [.d false [.sl none (v3.1.map ePt)], wI v3.2], [.p (iV v7.1), .p (.bool v7.2)], true)})] (A2 (show ([.d false [.sl none (eraL (v3.1.map ePt))], wI v3.2] : List Arg) = [.d false [.sl none (v3.1.map ePt)], wI v3.2] from (by simp only [eraL_enc (h := ePt) (era_P (era_P er_I er_I) (era_P er_I er_I))])) (wk_spec_LapNumber hv7))) ?_
  replace h := bs h
  obtain ⟨v8, hv8, h⟩ := h
  refine k_sreg (r_gq [(1, .d false [.sl none (a1.map (eU .u8))]), (5, .ov false [.sl (some 85) (v3.1.map ePt)]), (6, .p (iV v3.2)), (7, .ov false [.sl (some 3) (v4.1.map eI)]), (8, .p (.bool v4.2)), (9, .ov false [.sl (some 3) (v5.1.map eI)]), (10, .p (.bool v5.2)), (11, .p (iV v6.1)), (12, .p (.bool v6.2)), (13, .p (iV v7.1)), (14, .p (.bool v7.2)), (15, .ov false [.sl (some 27) (v8.1.map eRt)]), (16, .p (.bool v8.2))] [(2, {call := some (some [.d false [.sl none (v3.1.map ePt)], wI v3.2], [.ov false [.sl (some 27) (v8.1.map eRt)], .p (.bool v8.2)], true)})] (A3 (show ([.d false [.sl none (eraL (v3.1.map ePt))], wI v3.2] : List Arg) = [.d false [.sl none (v3.1.map ePt)], wI v3.2] from (by simp only [eraL_enc (h := ePt) (era_P (era_P er_I er_I) (era_P er_I er_I))])) (wk_impl_EndValues hv8) (show List.all [.ov false [.sl (some 27) (v8.1.map eRt)], .p (.bool v8.2)] simpleR = true from (sa_o (wnR1 (wnL_enc (wn_P wn_I wn_I)) rfl) (sa_p rfl))))) ?_
  replace h := bs h
  obtain ⟨v9, hv9, h⟩ := h
  refine k_sreg (r_gq [(1, .d false [.sl none (a1.map (eU .u8))]), (5, .ov false [.sl (some 85) (v3.1.map ePt)]), (6, .p (iV v3.2)), (7, .ov false [.sl (some 3) (v4.1.map eI)]), (8, .p (.bool v4.2)), (9, .ov false [.sl (some 3) (v5.1.map eI)]), (10, .p (.bool v5.2)), (11, .p (iV v6.1)), (12, .p (.bool v6.2)), (13, .p (iV v7.1)), (14, .p (.bool v7.2)), (15, .ov false [.sl (some 27) (v8.1.map eRt)]), (16, .p (.bool v8.2)), (17, .ov false [.sl (some 27) (v9.1.map eRt)]), (18, .p (.bool v9.2))] [(2, {call := some (some [.d false [.sl none (v3.1.map ePt)], wI v3.2], [.ov false [.sl (some 27) (v9.1.map eRt)], .p (.bool v9.2)], true)})] (A3 (show ([.d false [.sl none (eraL (v3.1.map ePt))], wI v3.2] : List Arg) = [.d false [.sl none (v3.1.map ePt)], wI v3.2] from (by simp only [eraL_enc (h := ePt) (era_P (era_P er_I er_I) (era_P er_I er_I))])) (wk_spec_EndValues hv9) (show List.all [.ov false [.sl (some 27) (v9.1.map eRt)], .p (.bool v9.2)] simpleR = true from (sa_o (wnR1 (wnL_enc (wn_P wn_I wn_I)) rfl) (sa_p rfl))))) ?_
  replace h := bs h
  obtain ⟨v10, hv10, h⟩ := h
  refine k_sreg (r_gq [(1, .d false [.sl none (a1.map (eU .u8))]), (5, .ov false [.sl (some 85) (v3.1.map ePt)]), (6, .p (iV v3.2)), (7, .ov false [.sl (some 3) (v4.1.map eI)]), (8, .p (.bool v4.2)), (9, .ov false [.sl (some 3) (v5.1.map eI)]), (10, .p (.bool v5.2)), (11, .p (iV v6.1)), (12, .p (.bool v6.2)), (13, .p (iV v7.1)), (14, .p (.bool v7.2)), (15, .ov false [.sl (some 27) (v8.1.map eRt)]), (16, .p (.bool v8.2)), (17, .ov false [.sl (some 27) (v9.1.map eRt)]), (18, .p (.bool v9.2)), (19, .box (eRt v10.1)), (20, .p (.bool v10.2))] [(2, {call := some (some [.d false [.sl none (v3.1.map ePt)], wI v3.2], [.p (vRt v10.1), .p (.bool v10.2)], true)})] (A2 (show ([.d false [.sl none (eraL (v3.1.map ePt))], wI v3.2] : List Arg) = [.d false [.sl none (v3.1.map ePt)], wI v3.2] from (by simp only [eraL_enc (h := ePt) (era_P (era_P er_I er_I) (era_P er_I er_I))])) (wk_impl_VariationOfIterate hv10))) ?_
  replace h := bs h
  obtain ⟨v11, hv11, h⟩ := h
  refine k_sreg (r_gq [(1, .d false [.sl none (a1.map (eU .u8))]), (5, .ov false [.sl (some 85) (v3.1.map ePt)]), (6, .p (iV v3.2)), (7, .ov false [.sl (some 3) (v4.1.map eI)]), (8, .p (.bool v4.2)), (9, .ov false [.sl (some 3) (v5.1.map eI)]), (10, .p (.bool v5.2)), (11, .p (iV v6.1)), (12, .p (.bool v6.2)), (13, .p (iV v7.1)), (14, .p (.bool v7.2)), (15, .ov false [.sl (some 27) (v8.1.map eRt)]), (16, .p (.bool v8.2)), (17, .ov false [.sl (some 27) (v9.1.map eRt)]), (18, .p (.bool v9.2)), (19, .box (eRt v10.1)), (20, .p (.bool v10.2)), (21, .box (eRt v11.1)), (22, .p (.bool v11.2))] [(2, {call := some (some [.d false [.sl none (v3.1.map ePt)], wI v3.2], [.p (vRt v11.1), .p (.bool v11.2)], true)})] (A2 (show ([.d false [.sl none (eraL (v3.1.map ePt))], wI v3.2] : List Arg) = [.d false [.sl none (v3.1.map ePt)], wI v3.2] from (by simp only [eraL_enc (h := ePt) (era_P (era_P er_I er_I) (era_P er_I er_I))])) (wk_spec_VariationOfIterate hv11))) ?_
  refine k_seq ?_
  replace h := bs h
  obtain ⟨w14, hw14, h⟩ := h
  refine k_sreg (l1 := [(1, .d false [.sl none (a1.map (eU .u8))]), (5, .ov false [.sl (some 85) (v3.1.map ePt)]), (6, .p (iV v3.2)), (8, .p (.bool v4.2)), (9, .ov false [.sl (some 3) (v5.1.map eI)]), (13, .p (iV v7.1)), (17, .ov false [.sl (some 27) (v9.1.map eRt)]), (157, .p (.bool w14))]) ?_ ?_
  ·clear h
   rcases ft (!(v4.2 == v5.2)) with ha1 | ha1
   ·replace hw14 := ite_t ha1 hw14
    have hw14 := oi hw14
    subst hw14
    exact (r_gq [(1, .d false [.sl none (a1.map (eU .u8))]), (5, .ov false [.sl (some 85) (v3.1.map ePt)]), (6, .p (iV v3.2)), (8, .p (.bool v4.2)), (9, .ov false [.sl (some 3) (v5.1.map eI)]), (13, .p (iV v7.1)), (17, .ov false [.sl (some 27) (v9.1.map eRt)]), (157, .p (.bool true))] [(4, gT), (5, gT), (6, gT), (7, gT), (8, bT), (10, gT), (11, gT), (12, gT), (13, bT), (15, gT), (16, gT), (17, gT), (18, bT), (20, gT), (21, gT), (22, gT), (23, bT), (25, gT), (26, gT), (27, gT), (28, gT), (29, bT), (31, gT), (32, gT), (33, gT), (34, bT), (36, gT), (37, gT), (38, gT), (39, bT), (41, gT), (42, gT), (43, gT), (44, bT), (46, gT), (47, gT), (48, gT), (49, bT), (51, gT), (52, gT), (55, gT), (56, bT)] (B6 ha1 ha1 ha1 ha1 ha1 (show true = true from rfl) (B6 (show true = true from rfl) (show true = true from rfl) (show true = true from rfl) (show true = true from rfl) (show true = true from rfl) (show true = true from rfl) (B6 (show true = true from rfl) (show true = true from rfl) (show true = true from rfl) (show true = true from rfl) (show true = true from rfl) (show true = true from rfl) (B6 (show true = true from rfl) (show true = true from rfl) (show true = true from rfl) (show true = true from rfl) (show true = true from rfl) (show true = true from rfl) (B6 (show true = true from rfl) (show true = true from rfl) (show true = true from rfl) (show true = true from rfl) (show true = true from rfl) (show true = true from rfl) (B6 (show true = true from rfl) (show true = true from rfl) (show true = true from rfl) (show true = true from rfl) (show true = true from rfl) (show true = true from rfl) (A6 (show true = true from rfl) (show true = true from rfl) (show true = true from rfl) (show true = true from rfl) (show true = true from rfl) (show true = true from rfl)))))))))
   ·replace hw14 := ite_f ha1 hw14
    replace hw14 := bs hw14
    obtain ⟨v12, hv12, hw14⟩ := hw14
    rcases ft (!v12) with ha2 | ha2
    ·replace hw14 := ite_t ha2 hw14
     have hw14 := oi hw14
     subst hw14
     exact (r_gq [(1, .d false [.sl none (a1.map (eU .u8))]), (5, .ov false [.sl (some 85) (v3.1.map ePt)]), (6, .p (iV v3.2)), (8, .p (.bool v4.2)), (9, .ov false [.sl (some 3) (v5.1.map eI)]), (13, .p (iV v7.1)), (17, .ov false [.sl (some 27) (v9.1.map eRt)]), (157, .p (.bool true))] [(4, gF), (5, gF), (6, {g := some false, call := some (some [.d false [.sl none (v4.1.map eI)], .d false [.sl none (v5.1.map eI)]], [.p (.bool v12)], true)}), (7, gF), (8, bF), (10, gT), (11, gT), (12, gT), (13, bT), (15, gT), (16, gT), (17, gT), (18, bT), (20, gT), (21, gT), (22, gT), (23, bT), (25, gT), (26, gT), (27, gT), (28, gT), (29, bT), (31, gT), (32, gT), (33, gT), (34, bT), (36, gT), (37, gT), (38, gT), (39, bT), (41, gT), (42, gT), (43, gT), (44, bT), (46, gT), (47, gT), (48, gT), (49, bT), (51, gT), (52, gT), (55, gT), (56, bT)] (B6 ha1 ha1 ha1 (show ([.d false [.sl none (eraL (v4.1.map eI))], .d false [.sl none (eraL (v5.1.map eI))]] : List Arg) = [.d false [.sl none (v4.1.map eI)], .d false [.sl none (v5.1.map eI)]] from (by simp only [eraL_enc (h := eI) er_I, eraL_enc (h := eI) er_I])) (wk_laws_sameInts hv12) ha1 (B6 ha1 ha2 ha2 ha2 ha2 (show true = true from rfl) (B6 (show true = true from rfl) (show true = true from rfl) (show true = true from rfl) (show true = true from rfl) (show true = true from rfl) (show true = true from rfl) (B6 (show true = true from rfl) (show true = true from rfl) (show true = true from rfl) (show true = true from rfl) (show true = true from rfl) (show true = true from rfl) (B6 (show true = true from rfl) (show true = true from rfl) (show true = true from rfl) (show true = true from rfl) (show true = true from rfl) (show true = true from rfl) (B6 (show true = true from rfl) (show true = true from rfl) (show true = true from rfl) (show true = true from rfl) (show true = true from rfl) (show true = true from rfl) (B6 (show true = true from rfl) (show true = true from rfl) (show true = true from rfl) (show true = true from rfl) (show true = true from rfl) (show true = true from rfl) (A2 (show true = true from rfl) (show true = true from rfl))))))))))
    ·replace hw14 := ite_f ha2 hw14
     rcases ft (!(v6.2 == v7.2)) with ha3 | ha3
     ·replace hw14 := ite_t ha3 hw14
      have hw14 := oi hw14
      subst hw14
      exact (r_gq [(1, .d false [.sl none (a1.map (eU .u8))]), (5, .ov false [.sl (some 85) (v3.1.map ePt)]), (6, .p (iV v3.2)), (8, .p (.bool v4.2)), (9, .ov false [.sl (some 3) (v5.1.map eI)]), (13, .p (iV v7.1)), (17, .ov false [.sl (some 27) (v9.1.map eRt)]), (157, .p (.bool true))] [(4, gF), (5, gF), (6, {g := some false, call := some (some [.d false [.sl none (v4.1.map eI)], .d false [.sl none (v5.1.map eI)]], [.p (.bool v12)], true)}), (7, gF), (8, bF), (10, gF), (11, gF), (12, gF), (13, bF), (15, gT), (16, gT), (17, gT), (18, bT), (20, gT), (21, gT), (22, gT), (23, bT), (25, gT), (26, gT), (27, gT), (28, gT), (29, bT), (31, gT), (32, gT), (33, gT), (34, bT), (36, gT), (37, gT), (38, gT), (39, bT), (41, gT), (42, gT), (43, gT), (44, bT), (46, gT), (47, gT), (48, gT), (49, bT), (51, gT), (52, gT), (55, gT), (56, bT)] (B6 ha1 ha1 ha1 (show ([.d false [.sl none (eraL (v4.1.map eI))], .d false [.sl none (eraL (v5.1.map eI))]] : List Arg) = [.d false [.sl none (v4.1.map eI)], .d false [.sl none (v5.1.map eI)]] from (by simp only [eraL_enc (h := eI) er_I, eraL_enc (h := eI) er_I])) (wk_laws_sameInts hv12) ha1 (B6 ha1 ha2 ha2 ha2 ha2 ha3 (B6 ha3 ha3 ha3 (show true = true from rfl) (show true = true from rfl) (show true = true from rfl) (B6 (show true = true from rfl) (show true = true from rfl) (show true = true from rfl) (show true = true from rfl) (show true = true from rfl) (show true = true from rfl) (B6 (show true = true from rfl) (show true = true from rfl) (show true = true from rfl) (show true = true from rfl) (show true = true from rfl) (show true = true from rfl) (B6 (show true = true from rfl) (show true = true from rfl) (show true = true from rfl) (show true = true from rfl) (show true = true from rfl) (show true = true from rfl) (B6 (show true = true from rfl) (show true = true from rfl) (show true = true from rfl) (show true = true from rfl) (show true = true from rfl) (show true = true from rfl) (A2 (show true = true from rfl) (show true = true from rfl))))))))))
     ·replace hw14 := ite_f ha3 hw14
      rcases ft (v6.1 != v7.1) with ha4 | ha4
      ·replace hw14 := ite_t ha4 hw14
       have hw14 := oi hw14
       subst hw14
       exact (r_gq [(1, .d false [.sl none (a1.map (eU .u8))]), (5, .ov false [.sl (some 85) (v3.1.map ePt)]), (6, .p (iV v3.2)), (8, .p (.bool v4.2)), (9, .ov false [.sl (some 3) (v5.1.map eI)]), (13, .p (iV v7.1)), (17, .ov false [.sl (some 27) (v9.1.map eRt)]), (157, .p (.bool true))] [(4, gF), (5, gF), (6, {g := some false, call := some (some [.d false [.sl none (v4.1.map eI)], .d false [.sl none (v5.1.map eI)]], [.p (.bool v12)], true)}), (7, gF), (8, bF), (10, gF), (11, gF), (12, gF), (13, bF), (15, gF), (16, gF), (17, gF), (18, bF), (20, gT), (21, gT), (22, gT), (23, bT), (25, gT), (26, gT), (27, gT), (28, gT), (29, bT), (31, gT), (32, gT), (33, gT), (34, bT), (36, gT), (37, gT), (38, gT), (39, bT), (41, gT), (42, gT), (43, gT), (44, bT), (46, gT), (47, gT), (48, gT), (49, bT), (51, gT), (52, gT), (55, gT), (56, bT)] (B6 ha1 ha1 ha1 (show ([.d false [.sl none (eraL (v4.1.map eI))], .d false [.sl none (eraL (v5.1.map eI))]] : List Arg) = [.d false [.sl none (v4.1.map eI)], .d false [.sl none (v5.1.map eI)]] from (by simp only [eraL_enc (h := eI) er_I, eraL_enc (h := eI) er_I])) (wk_laws_sameInts hv12) ha1 (B6 ha1 ha2 ha2 ha2 ha2 ha3 (B6 ha3 ha3 ha3 ha4 ha4 ha4 (B6 ha4 (show true = true from rfl) (show true = true from rfl) (show true = true from rfl) (show true = true from rfl) (show true = true from rfl) (B6 (show true = true from rfl) (show true = true from rfl) (show true = true from rfl) (show true = true from rfl) (show true = true from rfl) (show true = true from rfl) (B6 (show true = true from rfl) (show true = true from rfl) (show true = true from rfl) (show true = true from rfl) (show true = true from rfl) (show true = true from rfl) (B6 (show true = true from rfl) (show true = true from rfl) (show true = true from rfl) (show true = true from rfl) (show true = true from rfl) (show true = true from rfl) (A2 (show true = true from rfl) (show true = true from rfl))))))))))
      ·replace hw14 := ite_f ha4 hw14
       rcases ft (!(v8.2 == v9.2)) with ha5 | ha5
       ·replace hw14 := ite_t ha5 hw14
        have hw14 := oi hw14
        subst hw14
        exact (r_gq [(1, .d false [.sl none (a1.map (eU .u8))]), (5, .ov false [.sl (some 85) (v3.1.map ePt)]), (6, .p (iV v3.2)), (8, .p (.bool v4.2)), (9, .ov false [.sl (some 3) (v5.1.map eI)]), (13, .p (iV v7.1)), (17, .ov false [.sl (some 27) (v9.1.map eRt)]), (157, .p (.bool true))] [(4, gF), (5, gF), (6, {g := some false, call := some (some [.d false [.sl none (v4.1.map eI)], .d false [.sl none (v5.1.map eI)]], [.p (.bool v12)], true)}), (7, gF), (8, bF), (10, gF), (11, gF), (12, gF), (13, bF), (15, gF), (16, gF), (17, gF), (18, bF), (20, gF), (21, gF), (22, gF), (23, bF), (25, gT), (26, gT), (27, gT), (28, gT), (29, bT), (31, gT), (32, gT), (33, gT), (34, bT), (36, gT), (37, gT), (38, gT), (39, bT), (41, gT), (42, gT), (43, gT), (44, bT), (46, gT), (47, gT), (48, gT), (49, bT), (51, gT), (52, gT), (55, gT), (56, bT)] (B6 ha1 ha1 ha1 (show ([.d false [.sl none (eraL (v4.1.map eI))], .d false [.sl none (eraL (v5.1.map eI))]] : List Arg) = [.d false [.sl none (v4.1.map eI)], .d false [.sl none (v5.1.map eI)]] from (by simp only [eraL_enc (h := eI) er_I, eraL_enc (h := eI) er_I])) (wk_laws_sameInts hv12) ha1 (B6 ha1 ha2 ha2 ha2 ha2 ha3 (B6 ha3 ha3 ha3 ha4 ha4 ha4 (B6 ha4 ha5 ha5 ha5 ha5 ha5 (B6 (show true = true from rfl) (show true = true from rfl) (show true = true from rfl) (show true = true from rfl) (show true = true from rfl) (show true = true from rfl) (B6 (show true = true from rfl) (show true = true from rfl) (show true = true from rfl) (show true = true from rfl) (show true = true from rfl) (show true = true from rfl) (B6 (show true = true from rfl) (show true = true from rfl) (show true = true from rfl) (show true = true from rfl) (show true = true from rfl) (show true = true from rfl) (A2 (show true = true from rfl) (show true = true from rfl))))))))))
       ·replace hw14 := ite_f ha5 hw14
        replace hw14 := bs hw14
        obtain ⟨v13, hv13, hw14⟩ := hw14
        rcases ft (!v13) with ha6 | ha6
        ·replace hw14 := ite_t ha6 hw14
         have hw14 := oi hw14
         subst hw14
         exact (r_gq [(1, .d false [.sl none (a1.map (eU .u8))]), (5, .ov false [.sl (some 85) (v3.1.map ePt)]), (6, .p (iV v3.2)), (8, .p (.bool v4.2)), (9, .ov false [.sl (some 3) (v5.1.map eI)]), (13, .p (iV v7.1)), (17, .ov false [.sl (some 27) (v9.1.map eRt)]), (157, .p (.bool true))] [(4, gF), (5, gF), (6, {g := some false, call := some (some [.d false [.sl none (v4.1.map eI)], .d false [.sl none (v5.1.map eI)]], [.p (.bool v12)], true)}), (7, gF), (8, bF), (10, gF), (11, gF), (12, gF), (13, bF), (15, gF), (16, gF), (17, gF), (18, bF), (20, gF), (21, gF), (22, gF), (23, bF), (25, gF), (26, gF), (27, {g := some false, call := some (some [.d false [.sl none (v8.1.map eRt)], .d false [.sl none (v9.1.map eRt)]], [.p (.bool v13)], true)}), (28, gF), (29, bF), (31, gT), (32, gT), (33, gT), (34, bT), (36, gT), (37, gT), (38, gT), (39, bT), (41, gT), (42, gT), (43, gT), (44, bT), (46, gT), (47, gT), (48, gT), (49, bT), (51, gT), (52, gT), (55, gT), (56, bT)] (B6 ha1 ha1 ha1 (show ([.d false [.sl none (eraL (v4.1.map eI))], .d false [.sl none (eraL (v5.1.map eI))]] : List Arg) = [.d false [.sl none (v4.1.map eI)], .d false [.sl none (v5.1.map eI)]] from (by simp only [eraL_enc (h := eI) er_I, eraL_enc (h := eI) er_I])) (wk_laws_sameInts hv12) ha1 (B6 ha1 ha2 ha2 ha2 ha2 ha3 (B6 ha3 ha3 ha3 ha4 ha4 ha4 (B6 ha4 ha5 ha5 ha5 (show ([.d false [.sl none (eraL (v8.1.map eRt))], .d false [.sl none (eraL (v9.1.map eRt))]] : List Arg) = [.d false [.sl none (v8.1.map eRt)], .d false [.sl none (v9.1.map eRt)]] from (by simp only [eraL_enc (h := eRt) (era_P er_I er_I), eraL_enc (h := eRt) (era_P er_I er_I)])) (wk_laws_pSameRats hv13) (B6 ha5 ha5 ha6 ha6 ha6 ha6 (B6 (show true = true from rfl) (show true = true from rfl) (show true = true from rfl) (show true = true from rfl) (show true = true from rfl) (show true = true from rfl) (B6 (show true = true from rfl) (show true = true from rfl) (show true = true from rfl) (show true = true from rfl) (show true = true from rfl) (show true = true from rfl) (A4 (show true = true from rfl) (show true = true from rfl) (show true = true from rfl) (show true = true from rfl))))))))))
        ·replace hw14 := ite_f ha6 hw14
         rcases ft (!(v10.2 == v11.2)) with ha7 | ha7
         ·replace hw14 := ite_t ha7 hw14
          have hw14 := oi hw14
          subst hw14
          exact (r_gq [(1, .d false [.sl none (a1.map (eU .u8))]), (5, .ov false [.sl (some 85) (v3.1.map ePt)]), (6, .p (iV v3.2)), (8, .p (.bool v4.2)), (9, .ov false [.sl (some 3) (v5.1.map eI)]), (13, .p (iV v7.1)), (17, .ov false [.sl (some 27) (v9.1.map eRt)]), (157, .p (.bool true))] [(4, gF), (5, gF), (6, {g := some false, call := some (some [.d false [.sl none (v4.1.map eI)], .d false [.sl none (v5.1.map eI)]], [.p (.bool v12)], true)}), (7, gF), (8, bF), (10, gF), (11, gF), (12, gF), (13, bF), (15, gF), (16, gF), (17, gF), (18, bF), (20, gF), (21, gF), (22, gF), (23, bF), (25, gF), (26, gF), (27, {g := some false, call := some (some [.d false [.sl none (v8.1.map eRt)], .d false [.sl none (v9.1.map eRt)]], [.p (.bool v13)], true)}), (28, gF), (29, bF), (31, gF), (32, gF), (33, gF), (34, bF), (36, gT), (37, gT), (38, gT), (39, bT), (41, gT), (42, gT), (43, gT), (44, bT), (46, gT), (47, gT), (48, gT), (49, bT), (51, gT), (52, gT), (55, gT), (56, bT)] (B6 ha1 ha1 ha1 (show ([.d false [.sl none (eraL (v4.1.map eI))], .d false [.sl none (eraL (v5.1.map eI))]] : List Arg) = [.d false [.sl none (v4.1.map eI)], .d false [.sl none (v5.1.map eI)]] from (by simp only [eraL_enc (h := eI) er_I, eraL_enc (h := eI) er_I])) (wk_laws_sameInts hv12) ha1 (B6 ha1 ha2 ha2 ha2 ha2 ha3 (B6 ha3 ha3 ha3 ha4 ha4 ha4 (B6 ha4 ha5 ha5 ha5 (show ([.d false [.sl none (eraL (v8.1.map eRt))], .d false [.sl none (eraL (v9.1.map eRt))]] : List Arg) = [.d false [.sl none (v8.1.map eRt)], .d false [.sl none (v9.1.map eRt)]] from (by simp only [eraL_enc (h := eRt) (era_P er_I er_I), eraL_enc (h := eRt) (era_P er_I er_I)])) (wk_laws_pSameRats hv13) (B6 ha5 ha5 ha6 ha6 ha6 ha6 (B6 ha7 ha7 ha7 ha7 (show true = true from rfl) (show true = true from rfl) (B6 (show true = true from rfl) (show true = true from rfl) (show true = true from rfl) (show true = true from rfl) (show true = true from rfl) (show true = true from rfl) (A4 (show true = true from rfl) (show true = true from rfl) (show true = true from rfl) (show true = true from rfl))))))))))
         ·replace hw14 := ite_f ha7 hw14
          rcases ft (!((v10.1.1 == v11.1.1) && (v10.1.2 == v11.1.2))) with ha8 | ha8
          ·replace hw14 := ite_t ha8 hw14
           have hw14 := oi hw14
           subst hw14
           exact (r_gq [(1, .d false [.sl none (a1.map (eU .u8))]), (5, .ov false [.sl (some 85) (v3.1.map ePt)]), (6, .p (iV v3.2)), (8, .p (.bool v4.2)), (9, .ov false [.sl (some 3) (v5.1.map eI)]), (13, .p (iV v7.1)), (17, .ov false [.sl (some 27) (v9.1.map eRt)]), (157, .p (.bool true))] [(4, gF), (5, gF), (6, {g := some false, call := some (some [.d false [.sl none (v4.1.map eI)], .d false [.sl none (v5.1.map eI)]], [.p (.bool v12)], true)}), (7, gF), (8, bF), (10, gF), (11, gF), (12, gF), (13, bF), (15, gF), (16, gF), (17, gF), (18, bF), (20, gF), (21, gF), (22, gF), (23, bF), (25, gF), (26, gF), (27, {g := some false, call := some (some [.d false [.sl none (v8.1.map eRt)], .d false [.sl none (v9.1.map eRt)]], [.p (.bool v13)], true)}), (28, gF), (29, bF), (31, gF), (32, gF), (33, gF), (34, bF), (36, gF), (37, gF), (38, {g := some false, pv := some (.bool (!((v10.1.1 == v11.1.1) && (v10.1.2 == v11.1.2))))}), (39, bF), (41, gT), (42, gT), (43, gT), (44, bT), (46, gT), (47, gT), (48, gT), (49, bT), (51, gT), (52, gT), (55, gT), (56, bT)] (B6 ha1 ha1 ha1 (show ([.d false [.sl none (eraL (v4.1.map eI))], .d false [.sl none (eraL (v5.1.map eI))]] : List Arg) = [.d false [.sl none (v4.1.map eI)], .d false [.sl none (v5.1.map eI)]] from (by simp only [eraL_enc (h := eI) er_I, eraL_enc (h := eI) er_I])) (wk_laws_sameInts hv12) ha1 (B6 ha1 ha2 ha2 ha2 ha2 ha3 (B6 ha3 ha3 ha3 ha4 ha4 ha4 (B6 ha4 ha5 ha5 ha5 (show ([.d false [.sl none (eraL (v8.1.map eRt))], .d false [.sl none (eraL (v9.1.map eRt))]] : List Arg) = [.d false [.sl none (v8.1.map eRt)], .d false [.sl none (v9.1.map eRt)]] from (by simp only [eraL_enc (h := eRt) (era_P er_I er_I), eraL_enc (h := eRt) (era_P er_I er_I)])) (wk_laws_pSameRats hv13) (B6 ha5 ha5 ha6 ha6 ha6 ha6 (B6 ha7 ha7 ha7 (show PureAt Tryz.prog (.binOp .neq 27 (.tmp 137) (.tmp 138) 27) [vRt v10.1, vRt v11.1] (.bool (!((v10.1.1 == v11.1.1) && (v10.1.2 == v11.1.2)))) from (pure_neq2 (by kernel_rfl))) ha7 ha8 (B6 ha8 ha8 ha8 (show true = true from rfl) (show true = true from rfl) (show true = true from rfl) (A5 (show true = true from rfl) (show true = true from rfl) (show true = true from rfl) (show true = true from rfl) (show true = true from rfl))))))))))
          ·replace hw14 := ite_f ha8 hw14
           rcases ft (!(v6.2 == v4.2)) with ha9 | ha9
           ·replace hw14 := ite_t ha9 hw14
            have hw14 := oi hw14
            subst hw14
            exact (r_gq [(1, .d false [.sl none (a1.map (eU .u8))]), (5, .ov false [.sl (some 85) (v3.1.map ePt)]), (6, .p (iV v3.2)), (8, .p (.bool v4.2)), (9, .ov false [.sl (some 3) (v5.1.map eI)]), (13, .p (iV v7.1)), (17, .ov false [.sl (some 27) (v9.1.map eRt)]), (157, .p (.bool true))] [(4, gF), (5, gF), (6, {g := some false, call := some (some [.d false [.sl none (v4.1.map eI)], .d false [.sl none (v5.1.map eI)]], [.p (.bool v12)], true)}), (7, gF), (8, bF), (10, gF), (11, gF), (12, gF), (13, bF), (15, gF), (16, gF), (17, gF), (18, bF), (20, gF), (21, gF), (22, gF), (23, bF), (25, gF), (26, gF), (27, {g := some false, call := some (some [.d false [.sl none (v8.1.map eRt)], .d false [.sl none (v9.1.map eRt)]], [.p (.bool v13)], true)}), (28, gF), (29, bF), (31, gF), (32, gF), (33, gF), (34, bF), (36, gF), (37, gF), (38, {g := some false, pv := some (.bool (!((v10.1.1 == v11.1.1) && (v10.1.2 == v11.1.2))))}), (39, bF), (41, gF), (42, gF), (43, gF), (44, bF), (46, gT), (47, gT), (48, gT), (49, bT), (51, gT), (52, gT), (55, gT), (56, bT)] (B6 ha1 ha1 ha1 (show ([.d false [.sl none (eraL (v4.1.map eI))], .d false [.sl none (eraL (v5.1.map eI))]] : List Arg) = [.d false [.sl none (v4.1.map eI)], .d false [.sl none (v5.1.map eI)]] from (by simp only [eraL_enc (h := eI) er_I, eraL_enc (h := eI) er_I])) (wk_laws_sameInts hv12) ha1 (B6 ha1 ha2 ha2 ha2 ha2 ha3 (B6 ha3 ha3 ha3 ha4 ha4 ha4 (B6 ha4 ha5 ha5 ha5 (show ([.d false [.sl none (eraL (v8.1.map eRt))], .d false [.sl none (eraL (v9.1.map eRt))]] : List Arg) = [.d false [.sl none (v8.1.map eRt)], .d false [.sl none (v9.1.map eRt)]] from (by simp only [eraL_enc (h := eRt) (era_P er_I er_I), eraL_enc (h := eRt) (era_P er_I er_I)])) (wk_laws_pSameRats hv13) (B6 ha5 ha5 ha6 ha6 ha6 ha6 (B6 ha7 ha7 ha7 (show PureAt Tryz.prog (.binOp .neq 27 (.tmp 137) (.tmp 138) 27) [vRt v10.1, vRt v11.1] (.bool (!((v10.1.1 == v11.1.1) && (v10.1.2 == v11.1.2)))) from (pure_neq2 (by kernel_rfl))) ha7 ha8 (B6 ha8 ha8 ha8 ha9 ha9 ha9 (A5 ha9 (show true = true from rfl) (show true = true from rfl) (show true = true from rfl) (show true = true from rfl))))))))))
           ·replace hw14 := ite_f ha9 hw14
            rcases ft (!(v8.2 == v4.2)) with ha10 | ha10
            ·replace hw14 := ite_t ha10 hw14
             have hw14 := oi hw14
             subst hw14
             exact (r_gq [(1, .d false [.sl none (a1.map (eU .u8))]), (5, .ov false [.sl (some 85) (v3.1.map ePt)]), (6, .p (iV v3.2)), (8, .p (.bool v4.2)), (9, .ov false [.sl (some 3) (v5.1.map eI)]), (13, .p (iV v7.1)), (17, .ov false [.sl (some 27) (v9.1.map eRt)]), (157, .p (.bool true))] [(4, gF), (5, gF), (6, {g := some false, call := some (some [.d false [.sl none (v4.1.map eI)], .d false [.sl none (v5.1.map eI)]], [.p (.bool v12)], true)}), (7, gF), (8, bF), (10, gF), (11, gF), (12, gF), (13, bF), (15, gF), (16, gF), (17, gF), (18, bF), (20, gF), (21, gF), (22, gF), (23, bF), (25, gF), (26, gF), (27, {g := some false, call := some (some [.d false [.sl none (v8.1.map eRt)], .d false [.sl none (v9.1.map eRt)]], [.p (.bool v13)], true)}), (28, gF), (29, bF), (31, gF), (32, gF), (33, gF), (34, bF), (36, gF), (37, gF), (38, {g := some false, pv := some (.bool (!((v10.1.1 == v11.1.1) && (v10.1.2 == v11.1.2))))}), (39, bF), (41, gF), (42, gF), (43, gF), (44, bF), (46, gF), (47, gF), (48, gF), (49, bF), (51, gT), (52, gT), (55, gT), (56, bT)] (B6 ha1 ha1 ha1 (show ([.d false [.sl none (eraL (v4.1.map eI))], .d false [.sl none (eraL (v5.1.map eI))]] : List Arg) = [.d false [.sl none (v4.1.map eI)], .d false [.sl none (v5.1.map eI)]] from (by simp only [eraL_enc (h := eI) er_I, eraL_enc (h := eI) er_I])) (wk_laws_sameInts hv12) ha1 (B6 ha1 ha2 ha2 ha2 ha2 ha3 (B6 ha3 ha3 ha3 ha4 ha4 ha4 (B6 ha4 ha5 ha5 ha5 (show ([.d false [.sl none (eraL (v8.1.map eRt))], .d false [.sl none (eraL (v9.1.map eRt))]] : List Arg) = [.d false [.sl none (v8.1.map eRt)], .d false [.sl none (v9.1.map eRt)]] from (by simp only [eraL_enc (h := eRt) (era_P er_I er_I), eraL_enc (h := eRt) (era_P er_I er_I)])) (wk_laws_pSameRats hv13) (B6 ha5 ha5 ha6 ha6 ha6 ha6 (B6 ha7 ha7 ha7 (show PureAt Tryz.prog (.binOp .neq 27 (.tmp 137) (.tmp 138) 27) [vRt v10.1, vRt v11.1] (.bool (!((v10.1.1 == v11.1.1) && (v10.1.2 == v11.1.2)))) from (pure_neq2 (by kernel_rfl))) ha7 ha8 (B6 ha8 ha8 ha8 ha9 ha9 ha9 (A5 ha9 ha10 ha10 ha10 ha10)))))))))
            ·replace hw14 := ite_f ha10 hw14
             rcases ft v10.2 with ha11 | ha11
             ·replace hw14 := ite_t ha11 hw14
              have hw14 := oi hw14
              subst hw14
              exact (r_gq [(1, .d false [.sl none (a1.map (eU .u8))]), (5, .ov false [.sl (some 85) (v3.1.map ePt)]), (6, .p (iV v3.2)), (8, .p (.bool v4.2)), (9, .ov false [.sl (some 3) (v5.1.map eI)]), (13, .p (iV v7.1)), (17, .ov false [.sl (some 27) (v9.1.map eRt)]), (157, .p (.bool (!v4.2)))] [(4, gF), (5, gF), (6, {g := some false, call := some (some [.d false [.sl none (v4.1.map eI)], .d false [.sl none (v5.1.map eI)]], [.p (.bool v12)], true)}), (7, gF), (8, bF), (10, gF), (11, gF), (12, gF), (13, bF), (15, gF), (16, gF), (17, gF), (18, bF), (20, gF), (21, gF), (22, gF), (23, bF), (25, gF), (26, gF), (27, {g := some false, call := some (some [.d false [.sl none (v8.1.map eRt)], .d false [.sl none (v9.1.map eRt)]], [.p (.bool v13)], true)}), (28, gF), (29, bF), (31, gF), (32, gF), (33, gF), (34, bF), (36, gF), (37, gF), (38, {g := some false, pv := some (.bool (!((v10.1.1 == v11.1.1) && (v10.1.2 == v11.1.2))))}), (39, bF), (41, gF), (42, gF), (43, gF), (44, bF), (46, gF), (47, gF), (48, gF), (49, bF), (51, gF), (52, gF), (53, gT), (54, gT), (55, {g := some false, b := some true}), (56, bF)] (B6 ha1 ha1 ha1 (show ([.d false [.sl none (eraL (v4.1.map eI))], .d false [.sl none (eraL (v5.1.map eI))]] : List Arg) = [.d false [.sl none (v4.1.map eI)], .d false [.sl none (v5.1.map eI)]] from (by simp only [eraL_enc (h := eI) er_I, eraL_enc (h := eI) er_I])) (wk_laws_sameInts hv12) ha1 (B6 ha1 ha2 ha2 ha2 ha2 ha3 (B6 ha3 ha3 ha3 ha4 ha4 ha4 (B6 ha4 ha5 ha5 ha5 (show ([.d false [.sl none (eraL (v8.1.map eRt))], .d false [.sl none (eraL (v9.1.map eRt))]] : List Arg) = [.d false [.sl none (v8.1.map eRt)], .d false [.sl none (v9.1.map eRt)]] from (by simp only [eraL_enc (h := eRt) (era_P er_I er_I), eraL_enc (h := eRt) (era_P er_I er_I)])) (wk_laws_pSameRats hv13) (B6 ha5 ha5 ha6 ha6 ha6 ha6 (B6 ha7 ha7 ha7 (show PureAt Tryz.prog (.binOp .neq 27 (.tmp 137) (.tmp 138) 27) [vRt v10.1, vRt v11.1] (.bool (!((v10.1.1 == v11.1.1) && (v10.1.2 == v11.1.2)))) from (pure_neq2 (by kernel_rfl))) ha7 ha8 (B6 ha8 ha8 ha8 ha9 ha9 ha9 (B6 ha9 ha10 ha10 ha11 ha11 ha10 (A2 ha11 ha10))))))))))
             ·replace hw14 := ite_f ha11 hw14
              have hw14 := oi hw14
              subst hw14
              exact (r_gq [(1, .d false [.sl none (a1.map (eU .u8))]), (5, .ov false [.sl (some 85) (v3.1.map ePt)]), (6, .p (iV v3.2)), (8, .p (.bool v4.2)), (9, .ov false [.sl (some 3) (v5.1.map eI)]), (13, .p (iV v7.1)), (17, .ov false [.sl (some 27) (v9.1.map eRt)]), (157, .p (.bool false))] [(4, gF), (5, gF), (6, {g := some false, call := some (some [.d false [.sl none (v4.1.map eI)], .d false [.sl none (v5.1.map eI)]], [.p (.bool v12)], true)}), (7, gF), (8, bF), (10, gF), (11, gF), (12, gF), (13, bF), (15, gF), (16, gF), (17, gF), (18, bF), (20, gF), (21, gF), (22, gF), (23, bF), (25, gF), (26, gF), (27, {g := some false, call := some (some [.d false [.sl none (v8.1.map eRt)], .d false [.sl none (v9.1.map eRt)]], [.p (.bool v13)], true)}), (28, gF), (29, bF), (31, gF), (32, gF), (33, gF), (34, bF), (36, gF), (37, gF), (38, {g := some false, pv := some (.bool (!((v10.1.1 == v11.1.1) && (v10.1.2 == v11.1.2))))}), (39, bF), (41, gF), (42, gF), (43, gF), (44, bF), (46, gF), (47, gF), (48, gF), (49, bF), (51, gF), (52, gF), (53, gF), (54, gF), (55, {g := some false, b := some false}), (56, bF)] (B6 ha1 ha1 ha1 (show ([.d false [.sl none (eraL (v4.1.map eI))], .d false [.sl none (eraL (v5.1.map eI))]] : List Arg) = [.d false [.sl none (v4.1.map eI)], .d false [.sl none (v5.1.map eI)]] from (by simp only [eraL_enc (h := eI) er_I, eraL_enc (h := eI) er_I])) (wk_laws_sameInts hv12) ha1 (B6 ha1 ha2 ha2 ha2 ha2 ha3 (B6 ha3 ha3 ha3 ha4 ha4 ha4 (B6 ha4 ha5 ha5 ha5 (show ([.d false [.sl none (eraL (v8.1.map eRt))], .d false [.sl none (eraL (v9.1.map eRt))]] : List Arg) = [.d false [.sl none (v8.1.map eRt)], .d false [.sl none (v9.1.map eRt)]] from (by simp only [eraL_enc (h := eRt) (era_P er_I er_I), eraL_enc (h := eRt) (era_P er_I er_I)])) (wk_laws_pSameRats hv13) (B6 ha5 ha5 ha6 ha6 ha6 ha6 (B6 ha7 ha7 ha7 (show PureAt Tryz.prog (.binOp .neq 27 (.tmp 137) (.tmp 138) 27) [vRt v10.1, vRt v11.1] (.bool (!((v10.1.1 == v11.1.1) && (v10.1.2 == v11.1.2)))) from (pure_neq2 (by kernel_rfl))) ha7 ha8 (B6 ha8 ha8 ha8 ha9 ha9 ha9 (B6 ha9 ha10 ha10 ha11 ha11 ha10 (A2 ha11 ha10))))))))))
  ·refine kc w14 (fun hc2_14 => ?_) (fun hc2_14 => ?_)
   ·replace h := ite_t hc2_14 h
    refine k_sreg (r_gq [(4, .p (.bool false))] [] trivial) ?_
    refine k_ret ?_
    refine q_r ?_
    obtain rfl := oi h
    exact er [(.p (.bool false), 4)]
   ·replace h := ite_f hc2_14 h
    refine k_skip ?_
    refine q_n ?_
    refine k_join (J := fun (x : Unit) => [(1, .d false [.sl none (a1.map (eU .u8))])]) (K := fun x => laws_FnLaps_k1 a1 x = some r) (fun x16 h => ?_) ?_
    ·unfold laws_FnLaps_k1 at h
     replace h := bs h
     obtain ⟨v17, hv17, h⟩ := h
     refine k_sreg (r_gq [(31, .ov false [.sl (some 85) (v17.1.map ePt)]), (32, .p (iV v17.2))] [(1, {call := some (none, [.ov false [.sl (some 85) (v17.1.map ePt)], .p (iV v17.2)], true)})] (A2 (wk_spec_DrawHighestAndLowest hv17) (show List.all [.ov false [.sl (some 85) (v17.1.map ePt)], .p (iV v17.2)] simpleR = true from (sa_o (wnR1 (wnL_enc (wn_P (wn_P wn_I wn_I) (wn_P wn_I wn_I))) rfl) (sa_p rfl))))) ?_
     replace h := bs h
     obtain ⟨v18, hv18, h⟩ := h
     refine k_sreg (r_gq [(31, .ov false [.sl (some 85) (v17.1.map ePt)]), (32, .p (iV v17.2)), (33, .box (eRt v18.1)), (34, .box (eRt v18.2.1)), (35, .p (.bool v18.2.2))] [(2, {call := some (some [.d false [.sl none (v17.1.map ePt)], wI v17.2], [.p (vRt v18.1), .p (vRt v18.2.1), .p (.bool v18.2.2)], true)})] (A2 (show ([.d false [.sl none (eraL (v17.1.map ePt))], wI v17.2] : List Arg) = [.d false [.sl none (v17.1.map ePt)], wI v17.2] from (by simp only [eraL_enc (h := ePt) (era_P (era_P er_I er_I) (era_P er_I er_I))])) (wk_impl_HighestAndLowest hv18))) ?_
     replace h := bs h
     obtain ⟨v19, hv19, h⟩ := h
     refine k_sreg (r_gq [(31, .ov false [.sl (some 85) (v17.1.map ePt)]), (32, .p (iV v17.2)), (33, .box (eRt v18.1)), (34, .box (eRt v18.2.1)), (35, .p (.bool v18.2.2)), (36, .box (eRt v19.1)), (37, .box (eRt v19.2.1)), (38, .p (.bool v19.2.2))] [(2, {call := some (some [.d false [.sl none (v17.1.map ePt)], wI v17.2], [.p (vRt v19.1), .p (vRt v19.2.1), .p (.bool v19.2.2)], true)})] (A2 (show ([.d false [.sl none (eraL (v17.1.map ePt))], wI v17.2] : List Arg) = [.d false [.sl none (v17.1.map ePt)], wI v17.2] from (by simp only [eraL_enc (h := ePt) (era_P (era_P er_I er_I) (era_P er_I er_I))])) (wk_spec_HighestAndLowest hv19))) ?_
     refine k_seq ?_
     refine k_sreg (l1 := [(31, .ov false [.sl (some 85) (v17.1.map ePt)]), (32, .p (iV v17.2)), (35, .p (.bool v18.2.2)), (36, .box (eRt v19.1)), (37, .box (eRt v19.2.1)), (319, .p (.bool ((!(v18.2.2 == v19.2.2)) || ((!((v18.1.1 == v19.1.1) && (v18.1.2 == v19.1.2))) || (!((v18.2.1.1 == v19.2.1.1) && (v18.2.1.2 == v19.2.1.2)))))))]) ?_ ?_
     ·rcases ft (!(v18.2.2 == v19.2.2)) with ha2 | ha2
      ·exact RegOk.of_eq (l2 := [(31, .ov false [.sl (some 85) (v17.1.map ePt)]), (32, .p (iV v17.2)), (35, .p (.bool v18.2.2)), (36, .box (eRt v19.1)), (37, .box (eRt v19.2.1)), (319, .p (.bool ((!(v18.2.2 == v19.2.2)) || ((!((v18.1.1 == v19.1.1) && (v18.1.2 == v19.1.2))) || (!((v18.2.1.1 == v19.2.1.1) && (v18.2.1.2 == v19.2.1.2)))))))]) (r_gq [(31, .ov false [.sl (some 85) (v17.1.map ePt)]), (32, .p (iV v17.2)), (35, .p (.bool v18.2.2)), (36, .box (eRt v19.1)), (37, .box (eRt v19.2.1)), (319, .p (.bool true))] [(4, gT), (5, gT), (6, gT), (7, bT), (9, gT), (10, gT), (11, gT), (12, bT)] (B6 ha2 ha2 ha2 ha2 (show true = true from rfl) (show true = true from rfl) (A2 (show true = true from rfl) (show true = true from rfl)))) (by simp [ha2])
      ·rcases ft (!((v18.1.1 == v19.1.1) && (v18.1.2 == v19.1.2))) with ha3 | ha3
       ·exact RegOk.of_eq (l2 := [(31, .ov false [.sl (some 85) (v17.1.map ePt)]), (32, .p (iV v17.2)), (35, .p (.bool v18.2.2)), (36, .box (eRt v19.1)), (37, .box (eRt v19.2.1)), (319, .p (.bool ((!(v18.2.2 == v19.2.2)) || ((!((v18.1.1 == v19.1.1) && (v18.1.2 == v19.1.2))) || (!((v18.2.1.1 == v19.2.1.1) && (v18.2.1.2 == v19.2.1.2)))))))]) (r_gq [(31, .ov false [.sl (some 85) (v17.1.map ePt)]), (32, .p (iV v17.2)), (35, .p (.bool v18.2.2)), (36, .box (eRt v19.1)), (37, .box (eRt v19.2.1)), (319, .p (.bool true))] [(4, gF), (5, gF), (6, {g := some false, pv := some (.bool (!((v18.1.1 == v19.1.1) && (v18.1.2 == v19.1.2))))}), (7, bF), (9, gT), (10, gT), (11, gT), (12, bT)] (B6 ha2 ha2 ha2 (show PureAt Tryz.prog (.binOp .neq 27 (.tmp 311) (.tmp 312) 27) [vRt v18.1, vRt v19.1] (.bool (!((v18.1.1 == v19.1.1) && (v18.1.2 == v19.1.2)))) from (pure_neq2 (by kernel_rfl))) ha2 ha3 (A3 ha3 ha3 ha3))) (by simp [ha2, ha3])
       ·exact RegOk.of_eq (l2 := [(31, .ov false [.sl (some 85) (v17.1.map ePt)]), (32, .p (iV v17.2)), (35, .p (.bool v18.2.2)), (36, .box (eRt v19.1)), (37, .box (eRt v19.2.1)), (319, .p (.bool ((!(v18.2.2 == v19.2.2)) || ((!((v18.1.1 == v19.1.1) && (v18.1.2 == v19.1.2))) || (!((v18.2.1.1 == v19.2.1.1) && (v18.2.1.2 == v19.2.1.2)))))))]) (r_gq [(31, .ov false [.sl (some 85) (v17.1.map ePt)]), (32, .p (iV v17.2)), (35, .p (.bool v18.2.2)), (36, .box (eRt v19.1)), (37, .box (eRt v19.2.1)), (319, .p (.bool (!((v18.2.1.1 == v19.2.1.1) && (v18.2.1.2 == v19.2.1.2)))))] [(4, gF), (5, gF), (6, {g := some false, pv := some (.bool (!((v18.1.1 == v19.1.1) && (v18.1.2 == v19.1.2))))}), (7, bF), (9, gF), (10, gF), (11, {g := some false, pv := some (.bool (!((v18.2.1.1 == v19.2.1.1) && (v18.2.1.2 == v19.2.1.2))))}), (12, bF)] (B6 ha2 ha2 ha2 (show PureAt Tryz.prog (.binOp .neq 27 (.tmp 311) (.tmp 312) 27) [vRt v18.1, vRt v19.1] (.bool (!((v18.1.1 == v19.1.1) && (v18.1.2 == v19.1.2)))) from (pure_neq2 (by kernel_rfl))) ha2 ha3 (A4 ha3 ha3 (show PureAt Tryz.prog (.binOp .neq 27 (.tmp 316) (.tmp 317) 27) [vRt v18.2.1, vRt v19.2.1] (.bool (!((v18.2.1.1 == v19.2.1.1) && (v18.2.1.2 == v19.2.1.2)))) from (pure_neq2 (by kernel_rfl))) ha3))) (by simp [ha2, ha3])
     ·refine kc ((!(v18.2.2 == v19.2.2)) || ((!((v18.1.1 == v19.1.1) && (v18.1.2 == v19.1.2))) || (!((v18.2.1.1 == v19.2.1.1) && (v18.2.1.2 == v19.2.1.2))))) (fun hc2_19 => ?_) (fun hc2_19 => ?_)
      ·replace h := ite_t hc2_19 h
       refine k_sreg (r_gq [(4, .p (.bool false))] [] trivial) ?_
       refine k_ret ?_
       refine q_r ?_
       obtain rfl := oi h
       exact er [(.p (.bool false), 4)]
      ·replace h := ite_f hc2_19 h
       refine k_skip ?_
       refine q_n ?_
       refine k_join (J := fun (x : Unit) => []) (K := fun x => laws_FnLaps_k2 x = some r) (fun x21 h => ?_) ?_
       ·unfold laws_FnLaps_k2 at h
        refine k_sreg (r_gq [(4, .p (.bool true))] [] trivial) ?_
        refine k_ret ?_
        obtain rfl := oi h
        exact er [(.p (.bool true), 4)]
       ·refine k_sreg (r_gq [(31, .ov false [.sl (some 85) (v17.1.map ePt)]), (32, .p (iV v17.2)), (36, .box (eRt v19.1)), (37, .box (eRt v19.2.1)), (320, .p (.bool v18.2.2))] [] trivial) ?_
        refine kc v18.2.2 (fun hc2_21 => ?_) (fun hc2_21 => ?_)
        ·replace h := ite_t hc2_21 h
         replace h := bs h
         obtain ⟨v23, hv23, h⟩ := h
         refine k_sreg (r_gq [(31, .ov false [.sl (some 85) (v17.1.map ePt)]), (32, .p (iV v17.2)), (36, .box (eRt v19.1)), (37, .box (eRt v19.2.1)), (39, .ov false [.sl (some 27) (v23.1.map eRt)]), (40, .p (.bool v23.2))] [(2, {call := some (some [.d false [.sl none (v17.1.map ePt)], wI v17.2], [.ov false [.sl (some 27) (v23.1.map eRt)], .p (.bool v23.2)], true)})] (A3 (show ([.d false [.sl none (eraL (v17.1.map ePt))], wI v17.2] : List Arg) = [.d false [.sl none (v17.1.map ePt)], wI v17.2] from (by simp only [eraL_enc (h := ePt) (era_P (era_P er_I er_I) (era_P er_I er_I))])) (wk_impl_EndValues hv23) (show List.all [.ov false [.sl (some 27) (v23.1.map eRt)], .p (.bool v23.2)] simpleR = true from (sa_o (wnR1 (wnL_enc (wn_P wn_I wn_I)) rfl) (sa_p rfl))))) ?_
         replace h := bs h
         obtain ⟨v24, hv24, h⟩ := h
         refine k_sreg (r_gq [(36, .box (eRt v19.1)), (37, .box (eRt v19.2.1)), (39, .ov false [.sl (some 27) (v23.1.map eRt)]), (40, .p (.bool v23.2)), (41, .ov false [.sl (some 27) (v24.1.map eRt)]), (42, .p (.bool v24.2))] [(2, {call := some (some [.d false [.sl none (v17.1.map ePt)], wI v17.2], [.ov false [.sl (some 27) (v24.1.map eRt)], .p (.bool v24.2)], true)})] (A3 (show ([.d false [.sl none (eraL (v17.1.map ePt))], wI v17.2] : List Arg) = [.d false [.sl none (v17.1.map ePt)], wI v17.2] from (by simp only [eraL_enc (h := ePt) (era_P (era_P er_I er_I) (era_P er_I er_I))])) (wk_spec_EndValues hv24) (show List.all [.ov false [.sl (some 27) (v24.1.map eRt)], .p (.bool v24.2)] simpleR = true from (sa_o (wnR1 (wnL_enc (wn_P wn_I wn_I)) rfl) (sa_p rfl))))) ?_
         refine k_seq ?_
         replace h := bs h
         obtain ⟨w26, hw26, h⟩ := h
         refine k_sreg (l1 := [(36, .box (eRt v19.1)), (37, .box (eRt v19.2.1)), (41, .ov false [.sl (some 27) (v24.1.map eRt)]), (344, .p (.bool w26))]) ?_ ?_
         ·clear h
          rcases ft (!v23.2) with ha4 | ha4
          ·replace hw26 := ite_t ha4 hw26
           have hw26 := oi hw26
           subst hw26
           exact (r_gq [(36, .box (eRt v19.1)), (37, .box (eRt v19.2.1)), (41, .ov false [.sl (some 27) (v24.1.map eRt)]), (344, .p (.bool true))] [(3, gT), (4, gT), (5, bT), (7, gT), (8, gT), (9, gT), (10, gT), (11, bT)] (B6 ha4 ha4 ha4 (show true = true from rfl) (show true = true from rfl) (show true = true from rfl) (A2 (show true = true from rfl) (show true = true from rfl))))
          ·replace hw26 := ite_f ha4 hw26
           rcases ft (!v24.2) with ha5 | ha5
           ·replace hw26 := ite_t ha5 hw26
            have hw26 := oi hw26
            subst hw26
            exact (r_gq [(36, .box (eRt v19.1)), (37, .box (eRt v19.2.1)), (41, .ov false [.sl (some 27) (v24.1.map eRt)]), (344, .p (.bool true))] [(3, gF), (4, gF), (5, bF), (7, gT), (8, gT), (9, gT), (10, gT), (11, bT)] (B6 ha4 ha4 ha4 ha5 ha5 ha5 (A2 ha5 ha5)))
           ·replace hw26 := ite_f ha5 hw26
            replace hw26 := bs hw26
            obtain ⟨v25, hv25, hw26⟩ := hw26
            have hw26 := oi hw26
            subst hw26
            exact (r_gq [(36, .box (eRt v19.1)), (37, .box (eRt v19.2.1)), (41, .ov false [.sl (some 27) (v24.1.map eRt)]), (344, .p (.bool (!v25)))] [(3, gF), (4, gF), (5, bF), (7, gF), (8, gF), (9, {g := some false, call := some (some [.d false [.sl none (v23.1.map eRt)], .d false [.sl none (v24.1.map eRt)]], [.p (.bool v25)], true)}), (10, gF), (11, bF)] (B6 ha4 ha4 ha4 ha5 ha5 ha5 (A4 (show ([.d false [.sl none (eraL (v23.1.map eRt))], .d false [.sl none (eraL (v24.1.map eRt))]] : List Arg) = [.d false [.sl none (v23.1.map eRt)], .d false [.sl none (v24.1.map eRt)]] from (by simp only [eraL_enc (h := eRt) (era_P er_I er_I), eraL_enc (h := eRt) (era_P er_I er_I)])) (wk_laws_pSameRats hv25) ha5 ha5)))
         ·refine kc w26 (fun hc3_26 => ?_) (fun hc3_26 => ?_)
          ·replace h := ite_t hc3_26 h
           refine k_sreg (r_gq [(4, .p (.bool false))] [] trivial) ?_
           refine k_ret ?_
           refine q_r ?_
           refine q_r ?_
           obtain rfl := oi h
           exact er [(.p (.bool false), 4)]
          ·replace h := ite_f hc3_26 h
           refine k_skip ?_
           refine q_n ?_
           refine k_sreg (r_gq [(36, .box (eRt v19.1)), (37, .box (eRt v19.2.1)), (41, .ov false [.sl (some 27) (v24.1.map eRt)]), (345, .ref 41 [(0, 0)] none), (346, .p (iV (v24.1.length : Int))), (347, .p (iV 0))] [(1, {n := some v24.1.length})] (A1 (show (v24.1.map eRt).length = v24.1.length from (List.length_map ..)))) ?_
           refine k_block ?_
           obtain ⟨y29, hl_x28, hk_x28⟩ := bs h
           clear h
           refine k_loop (J := fun (x : Int) => [(36, .box (eRt v19.1)), (37, .box (eRt v19.2.1)), (41, .ov false [.sl (some 27) (v24.1.map eRt)]), (345, .ref 41 [(0, 0)] none), (346, .p (iV (v24.1.length : Int))), (347, .p (iV x))]) hl_x28 (wk_of (by kernel_rfl) (by kernel_rfl)) (fun x28 o_x28 h hy_x28 => ?_)
           unfold laws_FnLaps_b1 at h
           refine k_sreg (r_gq [(36, .box (eRt v19.1)), (37, .box (eRt v19.2.1)), (41, .ov false [.sl (some 27) (v24.1.map eRt)]), (345, .ref 41 [(0, 0)] none), (346, .p (iV (v24.1.length : Int))), (347, .p (iV x28)), (348, .p (.bool (decide (x28 < (v24.1.length : Int)))))] [] trivial) ?_
           refine k_seq ?_
           refine kc (decide (x28 < (v24.1.length : Int))) (fun hc5_29 => ?_) (fun hc5_29 => ?_)
           ·replace h := ite_t hc5_29 h
            refine k_skip ?_
            refine q_n ?_
            refine k_seq ?_
            refine k_block ?_
            replace h := bs h
            obtain ⟨v31, hv31, h⟩ := h
            refine k_sreg (r_gq [(36, .box (eRt v19.1)), (37, .box (eRt v19.2.1)), (41, .ov false [.sl (some 27) (v24.1.map eRt)]), (44, .box (eRt v31)), (345, .ref 41 [(0, 0)] none), (346, .p (iV (v24.1.length : Int))), (347, .p (iV x28))] [(0, {row := some (eRt v31)}), (1, {row := some (eRt v31)})] (A3 (idxO_some hv31).1 (map_get eRt (idxO_some hv31).2) (show getRow [[.sl (some 27) (v24.1.map eRt)]] [(0, 0), ((Int.toNat x28), 0)] = some (eRt v31) from ((gr0 rfl).trans (gre (map_get eRt (idxO_some hv31).2)))))) ?_
            replace h := bs h
            obtain ⟨v32, hv32, h⟩ := h
            replace h := bs h
            obtain ⟨w34, hw34, h⟩ := h
            refine k_sreg (l1 := [(36, .box (eRt v19.1)), (37, .box (eRt v19.2.1)), (41, .ov false [.sl (some 27) (v24.1.map eRt)]), (345, .ref 41 [(0, 0)] none), (346, .p (iV (v24.1.length : Int))), (347, .p (iV x28)), (358, .p (.bool w34))]) ?_ ?_
            ·clear h
             rcases ft v32 with ha6 | ha6
             ·replace hw34 := ite_t ha6 hw34
              have hw34 := oi hw34
              subst hw34
              exact (r_gq [(36, .box (eRt v19.1)), (37, .box (eRt v19.2.1)), (41, .ov false [.sl (some 27) (v24.1.map eRt)]), (345, .ref 41 [(0, 0)] none), (346, .p (iV (v24.1.length : Int))), (347, .p (iV x28)), (358, .p (.bool true))] [(2, {call := some (none, [.p (.bool v32)], true)}), (4, gT), (5, gT), (6, gT), (7, bT)] (A5 (wk_laws_pLess hv32) ha6 ha6 ha6 ha6))
             ·replace hw34 := ite_f ha6 hw34
              replace hw34 := bs hw34
              obtain ⟨v33, hv33, hw34⟩ := hw34
              have hw34 := oi hw34
              subst hw34
              exact (r_gq [(36, .box (eRt v19.1)), (37, .box (eRt v19.2.1)), (41, .ov false [.sl (some 27) (v24.1.map eRt)]), (345, .ref 41 [(0, 0)] none), (346, .p (iV (v24.1.length : Int))), (347, .p (iV x28)), (358, .p (.bool v33))] [(2, {call := some (none, [.p (.bool v32)], true)}), (4, gF), (5, gF), (6, {g := some false, call := some (none, [.p (.bool v33)], true)}), (7, bF)] (A6 (wk_laws_pLess hv32) ha6 ha6 ha6 (wk_laws_pLess hv33) ha6))
            ·refine kc w34 (fun hc6_34 => ?_) (fun hc6_34 => ?_)
             ·replace h := ite_t hc6_34 h
              refine k_sreg (r_gq [(4, .p (.bool false))] [] trivial) ?_
              refine k_ret ?_
              refine b_r ?_
              refine q_r ?_
              refine lq_r ?_
              refine b_r ?_
              refine q_r ?_
              have hyy := hy_x28 _ (oi h).symm
              subst hyy
              have h := hk_x28
              dsimp only [Sum.elim] at h
              obtain rfl := oi h
              exact er [(.p (.bool false), 4)]
             ·replace h := ite_f hc6_34 h
              refine k_skip ?_
              refine b_n ?_
              refine q_n ?_
              refine k_reg (r_gq [(36, .box (eRt v19.1)), (37, .box (eRt v19.2.1)), (41, .ov false [.sl (some 27) (v24.1.map eRt)]), (345, .ref 41 [(0, 0)] none), (346, .p (iV (v24.1.length : Int))), (347, .p (iV (w64 (x28 + 1))))] [] trivial) ?_
              exact lqn (w64 (x28 + 1)) h
           ·replace h := ite_f hc5_29 h
            refine k_exit ?_
            refine q_x ?_
            refine lq_x ?_
            refine b_x ?_
            have hyy := hy_x28 _ (oi h).symm
            subst hyy
            have h := hk_x28
            dsimp only [Sum.elim] at h
            refine q_n ?_
            exact jx () h
        ·replace h := ite_f hc2_21 h
         refine k_skip ?_
         refine q_n ?_
         exact jx () h
    ·refine k_sreg (r_gq [(1, .d false [.sl none (a1.map (eU .u8))]), (5, .ov false [.sl (some 85) (v3.1.map ePt)]), (6, .p (iV v3.2)), (9, .ov false [.sl (some 3) (v5.1.map eI)]), (13, .p (iV v7.1)), (17, .ov false [.sl (some 27) (v9.1.map eRt)]), (158, .p (.bool v4.2))] [] trivial) ?_
     refine kc v4.2 (fun hc2_35 => ?_) (fun hc2_35 => ?_)
     ·replace h := ite_t hc2_35 h
      replace h := bs h
      obtain ⟨v37, hv37, h⟩ := h
      refine k_sreg (r_gq [(1, .d false [.sl none (a1.map (eU .u8))]), (5, .ov false [.sl (some 85) (v3.1.map ePt)]), (6, .p (iV v3.2)), (9, .ov false [.sl (some 3) (v5.1.map eI)]), (13, .p (iV v7.1)), (17, .ov false [.sl (some 27) (v9.1.map eRt)]), (23, .p (.bool v37.1)), (24, .p (.bool v37.2))] [(1, {call := some (some [.d false [.sl none (v3.1.map ePt)]], [.p (.bool v37.1), .p (.bool v37.2)], true)})] (A2 (show ([.d false [.sl none (eraL (v3.1.map ePt))]] : List Arg) = [.d false [.sl none (v3.1.map ePt)]] from (by simp only [eraL_enc (h := ePt) (era_P (era_P er_I er_I) (era_P er_I er_I))])) (wk_impl_IsStrict hv37))) ?_
      refine k_seq ?_
      replace h := bs h
      obtain ⟨w40, hw40, h⟩ := h
      refine k_sreg (l1 := [(1, .d false [.sl none (a1.map (eU .u8))]), (5, .ov false [.sl (some 85) (v3.1.map ePt)]), (6, .p (iV v3.2)), (9, .ov false [.sl (some 3) (v5.1.map eI)]), (17, .ov false [.sl (some 27) (v9.1.map eRt)]), (197, .p (.bool w40))]) ?_ ?_
      ·clear h
       rcases ft (!v37.2) with ha3 | ha3
       ·replace hw40 := ite_t ha3 hw40
        have hw40 := oi hw40
        subst hw40
        exact (r_gq [(1, .d false [.sl none (a1.map (eU .u8))]), (5, .ov false [.sl (some 85) (v3.1.map ePt)]), (6, .p (iV v3.2)), (9, .ov false [.sl (some 3) (v5.1.map eI)]), (17, .ov false [.sl (some 27) (v9.1.map eRt)]), (197, .p (.bool true))] [(3, gT), (4, gT), (5, bT), (7, gT), (8, gT), (9, gT), (10, gT), (11, gT), (12, bT), (14, gT), (15, gT), (16, gT), (17, gT), (18, bT), (20, gT), (21, gT), (22, gT), (23, gT), (24, gT), (25, gT), (26, bT), (28, gT), (29, gT), (30, gT), (31, gT), (32, gT), (33, bT)] (B6 ha3 ha3 ha3 (show true = true from rfl) (show true = true from rfl) (show true = true from rfl) (B6 (show true = true from rfl) (show true = true from rfl) (show true = true from rfl) (show true = true from rfl) (show true = true from rfl) (show true = true from rfl) (B6 (show true = true from rfl) (show true = true from rfl) (show true = true from rfl) (show true = true from rfl) (show true = true from rfl) (show true = true from rfl) (B6 (show true = true from rfl) (show true = true from rfl) (show true = true from rfl) (show true = true from rfl) (show true = true from rfl) (show true = true from rfl) (A3 (show true = true from rfl) (show true = true from rfl) (show true = true from rfl)))))))
       ·replace hw40 := ite_f ha3 hw40
        rcases ft (!v37.1) with ha4 | ha4
        ·replace hw40 := ite_t ha4 hw40
         have hw40 := oi hw40
         subst hw40
         exact (r_gq [(1, .d false [.sl none (a1.map (eU .u8))]), (5, .ov false [.sl (some 85) (v3.1.map ePt)]), (6, .p (iV v3.2)), (9, .ov false [.sl (some 3) (v5.1.map eI)]), (17, .ov false [.sl (some 27) (v9.1.map eRt)]), (197, .p (.bool true))] [(3, gF), (4, gF), (5, bF), (7, gT), (8, gT), (9, gT), (10, gT), (11, gT), (12, bT), (14, gT), (15, gT), (16, gT), (17, gT), (18, bT), (20, gT), (21, gT), (22, gT), (23, gT), (24, gT), (25, gT), (26, bT), (28, gT), (29, gT), (30, gT), (31, gT), (32, gT), (33, bT)] (B6 ha3 ha3 ha3 ha4 ha4 ha4 (B6 ha4 ha4 ha4 (show true = true from rfl) (show true = true from rfl) (show true = true from rfl) (B6 (show true = true from rfl) (show true = true from rfl) (show true = true from rfl) (show true = true from rfl) (show true = true from rfl) (show true = true from rfl) (B6 (show true = true from rfl) (show true = true from rfl) (show true = true from rfl) (show true = true from rfl) (show true = true from rfl) (show true = true from rfl) (A3 (show true = true from rfl) (show true = true from rfl) (show true = true from rfl)))))))
        ·replace hw40 := ite_f ha4 hw40
         rcases ft ((v5.1.length : Int) != (w64 (v3.2 + 1))) with ha5 | ha5
         ·replace hw40 := ite_t ha5 hw40
          have hw40 := oi hw40
          subst hw40
          exact (r_gq [(1, .d false [.sl none (a1.map (eU .u8))]), (5, .ov false [.sl (some 85) (v3.1.map ePt)]), (6, .p (iV v3.2)), (9, .ov false [.sl (some 3) (v5.1.map eI)]), (17, .ov false [.sl (some 27) (v9.1.map eRt)]), (197, .p (.bool true))] [(3, gF), (4, gF), (5, bF), (7, gF), (8, {g := some false, n := some v5.1.length}), (9, gF), (10, gF), (11, gF), (12, bF), (14, gT), (15, gT), (16, gT), (17, gT), (18, bT), (20, gT), (21, gT), (22, gT), (23, gT), (24, gT), (25, gT), (26, bT), (28, gT), (29, gT), (30, gT), (31, gT), (32, gT), (33, bT)] (B6 ha3 ha3 ha3 ha4 ha4 (show (v5.1.map eI).length = v5.1.length from (List.length_map ..)) (B6 ha4 ha4 ha4 ha4 ha5 ha5 (B6 ha5 ha5 ha5 (show true = true from rfl) (show true = true from rfl) (show true = true from rfl) (B6 (show true = true from rfl) (show true = true from rfl) (show true = true from rfl) (show true = true from rfl) (show true = true from rfl) (show true = true from rfl) (A4 (show true = true from rfl) (show true = true from rfl) (show true = true from rfl) (show true = true from rfl)))))))
         ·replace hw40 := ite_f ha5 hw40
          replace hw40 := bs hw40
          obtain ⟨v38, hv38, hw40⟩ := hw40
          rcases ft (v38 != 1) with ha6 | ha6
          ·replace hw40 := ite_t ha6 hw40
           have hw40 := oi hw40
           subst hw40
           exact (r_gq [(1, .d false [.sl none (a1.map (eU .u8))]), (5, .ov false [.sl (some 85) (v3.1.map ePt)]), (6, .p (iV v3.2)), (9, .ov false [.sl (some 3) (v5.1.map eI)]), (17, .ov false [.sl (some 27) (v9.1.map eRt)]), (197, .p (.bool true))] [(3, gF), (4, gF), (5, bF), (7, gF), (8, {g := some false, n := some v5.1.length}), (9, gF), (10, gF), (11, gF), (12, bF), (14, gF), (15, {g := some false, row := some (eI v38)}), (16, {g := some false, row := some (eI v38)}), (17, gF), (18, bF), (20, gT), (21, gT), (22, gT), (23, gT), (24, gT), (25, gT), (26, bT), (28, gT), (29, gT), (30, gT), (31, gT), (32, gT), (33, bT)] (B6 ha3 ha3 ha3 ha4 ha4 (show (v5.1.map eI).length = v5.1.length from (List.length_map ..)) (B6 ha4 ha4 ha4 ha4 ha5 ha5 (B6 (idxO_some hv38).1 (map_get eI (idxO_some hv38).2) ha5 (show getRow [[.sl (some 3) (v5.1.map eI)]] [(0, 0), ((Int.toNat 0), 0)] = some (eI v38) from ((gr0 rfl).trans (gre (map_get eI (idxO_some hv38).2)))) ha5 ha5 (B6 ha6 ha6 ha6 ha6 ha6 ha6 (B6 ha6 (show true = true from rfl) (show true = true from rfl) (show true = true from rfl) (show true = true from rfl) (show true = true from rfl) (A1 (show true = true from rfl))))))))
          ·replace hw40 := ite_f ha6 hw40
           replace hw40 := bs hw40
           obtain ⟨v39, hv39, hw40⟩ := hw40
           rcases ft (v39 != v7.1) with ha7 | ha7
           ·replace hw40 := ite_t ha7 hw40
            have hw40 := oi hw40
            subst hw40
            exact (r_gq [(1, .d false [.sl none (a1.map (eU .u8))]), (5, .ov false [.sl (some 85) (v3.1.map ePt)]), (6, .p (iV v3.2)), (9, .ov false [.sl (some 3) (v5.1.map eI)]), (17, .ov false [.sl (some 27) (v9.1.map eRt)]), (197, .p (.bool true))] [(3, gF), (4, gF), (5, bF), (7, gF), (8, {g := some false, n := some v5.1.length}), (9, gF), (10, gF), (11, gF), (12, bF), (14, gF), (15, {g := some false, row := some (eI v38)}), (16, {g := some false, row := some (eI v38)}), (17, gF), (18, bF), (20, gF), (21, gF), (22, {g := some false, row := some (eI v39)}), (23, {g := some false, row := some (eI v39)}), (24, gF), (25, gF), (26, bF), (28, gT), (29, gT), (30, gT), (31, gT), (32, gT), (33, bT)] (B6 ha3 ha3 ha3 ha4 ha4 (show (v5.1.map eI).length = v5.1.length from (List.length_map ..)) (B6 ha4 ha4 ha4 ha4 ha5 ha5 (B6 (idxO_some hv38).1 (map_get eI (idxO_some hv38).2) ha5 (show getRow [[.sl (some 3) (v5.1.map eI)]] [(0, 0), ((Int.toNat 0), 0)] = some (eI v38) from ((gr0 rfl).trans (gre (map_get eI (idxO_some hv38).2)))) ha5 ha5 (B6 ha6 ha6 ha6 (idxO_some hv39).1 (map_get eI (idxO_some hv39).2) ha6 (B6 (show getRow [[.sl (some 3) (v5.1.map eI)]] [(0, 0), ((Int.toNat v3.2), 0)] = some (eI v39) from ((gr0 rfl).trans (gre (map_get eI (idxO_some hv39).2)))) ha6 ha6 ha6 ha7 ha7 (A4 ha7 ha7 ha7 ha7)))))))
           ·replace hw40 := ite_f ha7 hw40
            have hw40 := oi hw40
            subst hw40
            exact (r_gq [(1, .d false [.sl none (a1.map (eU .u8))]), (5, .ov false [.sl (some 85) (v3.1.map ePt)]), (6, .p (iV v3.2)), (9, .ov false [.sl (some 3) (v5.1.map eI)]), (17, .ov false [.sl (some 27) (v9.1.map eRt)]), (197, .p (.bool ((v9.1.length : Int) != (w64 (v7.1 + 1)))))] [(3, gF), (4, gF), (5, bF), (7, gF), (8, {g := some false, n := some v5.1.length}), (9, gF), (10, gF), (11, gF), (12, bF), (14, gF), (15, {g := some false, row := some (eI v38)}), (16, {g := some false, row := some (eI v38)}), (17, gF), (18, bF), (20, gF), (21, gF), (22, {g := some false, row := some (eI v39)}), (23, {g := some false, row := some (eI v39)}), (24, gF), (25, gF), (26, bF), (28, gF), (29, {g := some false, n := some v9.1.length}), (30, gF), (31, gF), (32, gF), (33, bF)] (B6 ha3 ha3 ha3 ha4 ha4 (show (v5.1.map eI).length = v5.1.length from (List.length_map ..)) (B6 ha4 ha4 ha4 ha4 ha5 ha5 (B6 (idxO_some hv38).1 (map_get eI (idxO_some hv38).2) ha5 (show getRow [[.sl (some 3) (v5.1.map eI)]] [(0, 0), ((Int.toNat 0), 0)] = some (eI v38) from ((gr0 rfl).trans (gre (map_get eI (idxO_some hv38).2)))) ha5 ha5 (B6 ha6 ha6 ha6 (idxO_some hv39).1 (map_get eI (idxO_some hv39).2) ha6 (B6 (show getRow [[.sl (some 3) (v5.1.map eI)]] [(0, 0), ((Int.toNat v3.2), 0)] = some (eI v39) from ((gr0 rfl).trans (gre (map_get eI (idxO_some hv39).2)))) ha6 ha6 ha6 ha7 ha7 (A5 (show (v9.1.map eRt).length = v9.1.length from (List.length_map ..)) ha7 ha7 ha7 ha7)))))))
      ·refine kc w40 (fun hc3_40 => ?_) (fun hc3_40 => ?_)
       ·replace h := ite_t hc3_40 h
        refine k_sreg (r_gq [(4, .p (.bool false))] [] trivial) ?_
        refine k_ret ?_
        refine q_r ?_
        refine q_r ?_
        obtain rfl := oi h
        exact er [(.p (.bool false), 4)]
       ·replace h := ite_f hc3_40 h
        refine k_skip ?_
        refine q_n ?_
        refine k_join (J := fun (x : Unit) => [(1, .d false [.sl none (a1.map (eU .u8))]), (17, .ov false [.sl (some 27) (v9.1.map eRt)])]) (K := fun x => laws_FnLaps_k3 a1 v9 x = some r) (fun x42 h => ?_) ?_
        ·unfold laws_FnLaps_k3 at h
         refine k_sreg (r_gq [(1, .d false [.sl none (a1.map (eU .u8))]), (17, .ov false [.sl (some 27) (v9.1.map eRt)]), (30, .p (iV 1))] [] trivial) ?_
         refine k_block ?_
         obtain ⟨y44, hl_x43, hk_x43⟩ := bs h
         clear h
         refine k_loop (J := fun (x : Int) => [(1, .d false [.sl none (a1.map (eU .u8))]), (17, .ov false [.sl (some 27) (v9.1.map eRt)]), (30, .p (iV x))]) hl_x43 (wk_of (by kernel_rfl) (by kernel_rfl)) (fun x43 o_x43 h hy_x43 => ?_)
         unfold laws_FnLaps_b2 at h
         refine k_seq ?_
         refine k_sreg (r_gq [(1, .d false [.sl none (a1.map (eU .u8))]), (17, .ov false [.sl (some 27) (v9.1.map eRt)]), (30, .p (iV x43)), (247, .p (.bool (decide (x43 < (v9.1.length : Int)))))] [(2, {n := some v9.1.length})] (A1 (show (v9.1.map eRt).length = v9.1.length from (List.length_map ..)))) ?_
         refine kc (decide (x43 < (v9.1.length : Int))) (fun hc5_44 => ?_) (fun hc5_44 => ?_)
         ·replace h := ite_t hc5_44 h
          refine k_skip ?_
          refine q_n ?_
          refine k_seq ?_
          refine k_block ?_
          replace h := bs h
          obtain ⟨v46, hv46, h⟩ := h
          replace h := bs h
          obtain ⟨v47, hv47, h⟩ := h
          replace h := bs h
          obtain ⟨w51, hw51, h⟩ := h
          refine k_sreg (l1 := [(1, .d false [.sl none (a1.map (eU .u8))]), (17, .ov false [.sl (some 27) (v9.1.map eRt)]), (30, .p (iV x43)), (287, .p (.bool w51))]) ?_ ?_
          ·clear h
           rcases ft ((v46.1 == v47.1) && (v46.2 == v47.2)) with ha5 | ha5
           ·replace hw51 := ite_t ha5 hw51
            have hw51 := oi hw51
            subst hw51
            exact (r_dq Tryz_mixed 34 [] [(1, .d false [.sl none (a1.map (eU .u8))]), (17, .ov false [.sl (some 27) (v9.1.map eRt)]), (30, .p (iV x43)), (287, .p (.bool true))] [(2, {row := some (eRt v46)}), (3, {row := some (eRt v46)}), (7, {row := some (eRt v47)}), (8, {row := some (eRt v47)}), (9, {pv := some (.bool ((v46.1 == v47.1) && (v46.2 == v47.2)))}), (11, gT), (12, gT), (13, gT), (36, gT), (37, bT)] (B6 (idxO_some hv46).1 (map_get eRt (idxO_some hv46).2) (show getRow [[.sl (some 27) (v9.1.map eRt)]] [(0, 0), ((Int.toNat x43), 0)] = some (eRt v46) from ((gr0 rfl).trans (gre (map_get eRt (idxO_some hv46).2)))) (idxO_some hv47).1 (map_get eRt (idxO_some hv47).2) (show getRow [[.sl (some 27) (v9.1.map eRt)]] [(0, 0), ((Int.toNat (w64 (x43 - 1))), 0)] = some (eRt v47) from ((gr0 rfl).trans (gre (map_get eRt (idxO_some hv47).2)))) (A6 (show PureAt Tryz.prog (.binOp .eql 27 (.tmp 253) (.tmp 258) 27) [vRt v46, vRt v47] (.bool ((v46.1 == v47.1) && (v46.2 == v47.2))) from (pure_eql2 (by kernel_rfl))) ha5 ha5 ha5 ha5 ha5)))
           ·replace hw51 := ite_f ha5 hw51
            rcases ft (decide (x43 > 1)) with ha6 | ha6
            ·replace hw51 := ite_t ha6 hw51
             replace hw51 := bs hw51
             obtain ⟨v48, hv48, hw51⟩ := hw51
             replace hw51 := bs hw51
             obtain ⟨v49, hv49, hw51⟩ := hw51
             replace hw51 := bs hw51
             obtain ⟨v50, hv50, hw51⟩ := hw51
             have hw51 := oi hw51
             subst hw51
             exact (r_dq Tryz_mixed 34 [] [(1, .d false [.sl none (a1.map (eU .u8))]), (17, .ov false [.sl (some 27) (v9.1.map eRt)]), (30, .p (iV x43)), (287, .p (.bool (v49 == v50)))] [(2, {row := some (eRt v46)}), (3, {row := some (eRt v46)}), (7, {row := some (eRt v47)}), (8, {row := some (eRt v47)}), (9, {pv := some (.bool ((v46.1 == v47.1) && (v46.2 == v47.2)))}), (11, gF), (12, gF), (13, gF), (14, gT), (15, gT), (16, gT), (17, {g := some true, row := some (eRt v48)}), (18, {g := some true, row := some (eRt v48)}), (19, gT), (20, gT), (21, gT), (22, {g := some true, row := some (eRt v47)}), (23, {g := some true, row := some (eRt v47)}), (24, {g := some true, call := some (none, [.p (.bool v49)], true)}), (25, gT), (26, gT), (27, gT), (28, {g := some true, row := some (eRt v47)}), (29, {g := some true, row := some (eRt v47)}), (30, gT), (31, gT), (32, {g := some true, row := some (eRt v46)}), (33, {g := some true, row := some (eRt v46)}), (34, {g := some true, call := some (none, [.p (.bool v50)], true)}), (35, gT), (36, {g := some false, b := some true}), (37, bF)] (B6 (idxO_some hv46).1 (map_get eRt (idxO_some hv46).2) (show getRow [[.sl (some 27) (v9.1.map eRt)]] [(0, 0), ((Int.toNat x43), 0)] = some (eRt v46) from ((gr0 rfl).trans (gre (map_get eRt (idxO_some hv46).2)))) (idxO_some hv47).1 (map_get eRt (idxO_some hv47).2) (show getRow [[.sl (some 27) (v9.1.map eRt)]] [(0, 0), ((Int.toNat (w64 (x43 - 1))), 0)] = some (eRt v47) from ((gr0 rfl).trans (gre (map_get eRt (idxO_some hv47).2)))) (B6 (show PureAt Tryz.prog (.binOp .eql 27 (.tmp 253) (.tmp 258) 27) [vRt v46, vRt v47] (.bool ((v46.1 == v47.1) && (v46.2 == v47.2))) from (pure_eql2 (by kernel_rfl))) ha5 ha5 ha5 ha6 ha6 (B6 ha6 ha6 (idxO_some hv48).1 (map_get eRt (idxO_some hv48).2) ha6 (show getRow [[.sl (some 27) (v9.1.map eRt)]] [(0, 0), ((Int.toNat (w64 (x43 - 2))), 0)] = some (eRt v48) from ((gr0 rfl).trans (gre (map_get eRt (idxO_some hv48).2)))) (B6 ha6 ha6 ha6 ha6 (idxO_some hv47).1 (map_get eRt (idxO_some hv47).2) (B6 ha6 (show getRow [[.sl (some 27) (v9.1.map eRt)]] [(0, 0), ((Int.toNat (w64 (x43 - 1))), 0)] = some (eRt v47) from ((gr0 rfl).trans (gre (map_get eRt (idxO_some hv47).2)))) ha6 (wk_laws_pLess hv49) ha6 ha6 (B6 ha6 ha6 (idxO_some hv47).1 (map_get eRt (idxO_some hv47).2) ha6 (show getRow [[.sl (some 27) (v9.1.map eRt)]] [(0, 0), ((Int.toNat (w64 (x43 - 1))), 0)] = some (eRt v47) from ((gr0 rfl).trans (gre (map_get eRt (idxO_some hv47).2)))) (B6 ha6 ha6 ha6 (idxO_some hv46).1 (map_get eRt (idxO_some hv46).2) ha6 (B6 (show getRow [[.sl (some 27) (v9.1.map eRt)]] [(0, 0), ((Int.toNat x43), 0)] = some (eRt v46) from ((gr0 rfl).trans (gre (map_get eRt (idxO_some hv46).2)))) ha6 (wk_laws_pLess hv50) ha6 ha5 ha6 (A1 ha5))))))))))
            ·replace hw51 := ite_f ha6 hw51
             have hw51 := oi hw51
             subst hw51
             exact (r_dq Tryz_mixed 34 [] [(1, .d false [.sl none (a1.map (eU .u8))]), (17, .ov false [.sl (some 27) (v9.1.map eRt)]), (30, .p (iV x43)), (287, .p (.bool false))] [(2, {row := some (eRt v46)}), (3, {row := some (eRt v46)}), (7, {row := some (eRt v47)}), (8, {row := some (eRt v47)}), (9, {pv := some (.bool ((v46.1 == v47.1) && (v46.2 == v47.2)))}), (11, gF), (12, gF), (13, gF), (14, gF), (15, gF), (16, gF), (17, gF), (18, gF), (19, gF), (20, gF), (21, gF), (22, gF), (23, gF), (24, gF), (25, gF), (26, gF), (27, gF), (28, gF), (29, gF), (30, gF), (31, gF), (32, gF), (33, gF), (34, gF), (35, gF), (36, {g := some false, b := some false}), (37, bF)] (B6 (idxO_some hv46).1 (map_get eRt (idxO_some hv46).2) (show getRow [[.sl (some 27) (v9.1.map eRt)]] [(0, 0), ((Int.toNat x43), 0)] = some (eRt v46) from ((gr0 rfl).trans (gre (map_get eRt (idxO_some hv46).2)))) (idxO_some hv47).1 (map_get eRt (idxO_some hv47).2) (show getRow [[.sl (some 27) (v9.1.map eRt)]] [(0, 0), ((Int.toNat (w64 (x43 - 1))), 0)] = some (eRt v47) from ((gr0 rfl).trans (gre (map_get eRt (idxO_some hv47).2)))) (B6 (show PureAt Tryz.prog (.binOp .eql 27 (.tmp 253) (.tmp 258) 27) [vRt v46, vRt v47] (.bool ((v46.1 == v47.1) && (v46.2 == v47.2))) from (pure_eql2 (by kernel_rfl))) ha5 ha5 ha5 ha6 ha6 (B6 ha6 ha6 ha6 ha6 ha6 ha6 (B6 ha6 ha6 ha6 ha6 ha6 ha6 (B6 ha6 ha6 ha6 ha6 ha6 ha6 (A5 ha6 ha6 ha5 ha6 ha5)))))))
          ·refine kc w51 (fun hc6_51 => ?_) (fun hc6_51 => ?_)
           ·replace h := ite_t hc6_51 h
            refine k_sreg (r_gq [(4, .p (.bool false))] [] trivial) ?_
            refine k_ret ?_
            refine b_r ?_
            refine q_r ?_
            refine lq_r ?_
            refine b_r ?_
            refine q_r ?_
            have hyy := hy_x43 _ (oi h).symm
            subst hyy
            have h := hk_x43
            dsimp only [Sum.elim] at h
            obtain rfl := oi h
            exact er [(.p (.bool false), 4)]
           ·replace h := ite_f hc6_51 h
            refine k_skip ?_
            refine b_n ?_
            refine q_n ?_
            refine k_reg (r_gq [(1, .d false [.sl none (a1.map (eU .u8))]), (17, .ov false [.sl (some 27) (v9.1.map eRt)]), (30, .p (iV (w64 (x43 + 1))))] [] trivial) ?_
            exact lqn (w64 (x43 + 1)) h
         ·replace h := ite_f hc5_44 h
          refine k_exit ?_
          refine q_x ?_
          refine lq_x ?_
          refine b_x ?_
          have hyy := hy_x43 _ (oi h).symm
          subst hyy
          have h := hk_x43
          dsimp only [Sum.elim] at h
          refine q_n ?_
          exact jx () h
        ·refine k_sreg (r_gq [(1, .d false [.sl none (a1.map (eU .u8))]), (5, .ov false [.sl (some 85) (v3.1.map ePt)]), (6, .p (iV v3.2)), (9, .ov false [.sl (some 3) (v5.1.map eI)]), (17, .ov false [.sl (some 27) (v9.1.map eRt)]), (25, .p (iV 1))] [] trivial) ?_
         refine k_block ?_
         obtain ⟨y54, hl_x53, hk_x53⟩ := bs h
         clear h
         refine k_loop (J := fun (x : Int) => [(1, .d false [.sl none (a1.map (eU .u8))]), (5, .ov false [.sl (some 85) (v3.1.map ePt)]), (6, .p (iV v3.2)), (9, .ov false [.sl (some 3) (v5.1.map eI)]), (17, .ov false [.sl (some 27) (v9.1.map eRt)]), (25, .p (iV x))]) hl_x53 (wk_of (by kernel_rfl) (by kernel_rfl)) (fun x53 o_x53 h hy_x53 => ?_)
         unfold laws_FnLaps_b3 at h
         refine k_seq ?_
         refine k_sreg (r_gq [(1, .d false [.sl none (a1.map (eU .u8))]), (5, .ov false [.sl (some 85) (v3.1.map ePt)]), (6, .p (iV v3.2)), (9, .ov false [.sl (some 3) (v5.1.map eI)]), (17, .ov false [.sl (some 27) (v9.1.map eRt)]), (25, .p (iV x53)), (200, .p (.bool (decide (x53 ≤ v3.2))))] [] trivial) ?_
         refine kc (decide (x53 ≤ v3.2)) (fun hc6_54 => ?_) (fun hc6_54 => ?_)
         ·replace h := ite_t hc6_54 h
          refine k_skip ?_
          refine q_n ?_
          refine k_seq ?_
          refine k_block ?_
          refine k_seq ?_
          replace h := bs h
          obtain ⟨v56, hv56, h⟩ := h
          replace h := bs h
          obtain ⟨v57, hv57, h⟩ := h
          refine k_sreg (r_dq Tryz_mixed 9 [] [(1, .d false [.sl none (a1.map (eU .u8))]), (5, .ov false [.sl (some 85) (v3.1.map ePt)]), (6, .p (iV v3.2)), (9, .ov false [.sl (some 3) (v5.1.map eI)]), (17, .ov false [.sl (some 27) (v9.1.map eRt)]), (25, .p (iV x53)), (212, .p (.bool (decide (v56 < v57))))] [(2, {row := some (eI v56)}), (3, {row := some (eI v56)}), (7, {row := some (eI v57)}), (8, {row := some (eI v57)})] (A6 (idxO_some hv56).1 (map_get eI (idxO_some hv56).2) (show getRow [[.sl (some 3) (v5.1.map eI)]] [(0, 0), ((Int.toNat x53), 0)] = some (eI v56) from ((gr0 rfl).trans (gre (map_get eI (idxO_some hv56).2)))) (idxO_some hv57).1 (map_get eI (idxO_some hv57).2) (show getRow [[.sl (some 3) (v5.1.map eI)]] [(0, 0), ((Int.toNat (w64 (x53 - 1))), 0)] = some (eI v57) from ((gr0 rfl).trans (gre (map_get eI (idxO_some hv57).2)))))) ?_
          refine kc (decide (v56 < v57)) (fun hc8_57 => ?_) (fun hc8_57 => ?_)
          ·replace h := ite_t hc8_57 h
           refine k_sreg (r_gq [(4, .p (.bool false))] [] trivial) ?_
           refine k_ret ?_
           refine q_r ?_
           refine b_r ?_
           refine q_r ?_
           refine lq_r ?_
           refine b_r ?_
           refine q_r ?_
           refine q_r ?_
           have hyy := hy_x53 _ (oi h).symm
           subst hyy
           have h := hk_x53
           dsimp only [Sum.elim] at h
           obtain rfl := oi h
           exact er [(.p (.bool false), 4)]
          ·replace h := ite_f hc8_57 h
           refine k_skip ?_
           refine q_n ?_
           replace h := bs h
           obtain ⟨v59, hv59, h⟩ := h
           refine k_sreg (r_gq [(1, .d false [.sl none (a1.map (eU .u8))]), (5, .ov false [.sl (some 85) (v3.1.map ePt)]), (6, .p (iV v3.2)), (9, .ov false [.sl (some 3) (v5.1.map eI)]), (17, .ov false [.sl (some 27) (v9.1.map eRt)]), (25, .p (iV x53)), (26, .p (iV v59.1)), (27, .p (.bool v59.2))] [(2, {call := some (some [.d false [.sl none (v3.1.map ePt)], wI x53], [.p (iV v59.1), .p (.bool v59.2)], true)})] (A2 (show ([.d false [.sl none (eraL (v3.1.map ePt))], wI x53] : List Arg) = [.d false [.sl none (v3.1.map ePt)], wI x53] from (by simp only [eraL_enc (h := ePt) (era_P (era_P er_I er_I) (era_P er_I er_I))])) (wk_impl_LapBound hv59))) ?_
           replace h := bs h
           obtain ⟨v60, hv60, h⟩ := h
           refine k_sreg (r_gq [(1, .d false [.sl none (a1.map (eU .u8))]), (5, .ov false [.sl (some 85) (v3.1.map ePt)]), (6, .p (iV v3.2)), (9, .ov false [.sl (some 3) (v5.1.map eI)]), (17, .ov false [.sl (some 27) (v9.1.map eRt)]), (25, .p (iV x53)), (26, .p (iV v59.1)), (27, .p (.bool v59.2)), (28, .p (iV v60.1)), (29, .p (.bool v60.2))] [(2, {call := some (some [.d false [.sl none (v3.1.map ePt)], wI x53], [.p (iV v60.1), .p (.bool v60.2)], true)})] (A2 (show ([.d false [.sl none (eraL (v3.1.map ePt))], wI x53] : List Arg) = [.d false [.sl none (v3.1.map ePt)], wI x53] from (by simp only [eraL_enc (h := ePt) (era_P (era_P er_I er_I) (era_P er_I er_I))])) (wk_spec_LapBound hv60))) ?_
           refine k_sreg (l1 := [(1, .d false [.sl none (a1.map (eU .u8))]), (5, .ov false [.sl (some 85) (v3.1.map ePt)]), (6, .p (iV v3.2)), (9, .ov false [.sl (some 3) (v5.1.map eI)]), (17, .ov false [.sl (some 27) (v9.1.map eRt)]), (25, .p (iV x53)), (243, .p (.bool ((!(v59.2 == v60.2)) || ((v59.1 != v60.1) || (v60.2 && (decide (v56 > v60.1)))))))]) ?_ ?_
           ·rcases ft (!(v59.2 == v60.2)) with ha6 | ha6
            ·exact RegOk.of_eq (l2 := [(1, .d false [.sl none (a1.map (eU .u8))]), (5, .ov false [.sl (some 85) (v3.1.map ePt)]), (6, .p (iV v3.2)), (9, .ov false [.sl (some 3) (v5.1.map eI)]), (17, .ov false [.sl (some 27) (v9.1.map eRt)]), (25, .p (iV x53)), (243, .p (.bool ((!(v59.2 == v60.2)) || ((v59.1 != v60.1) || (v60.2 && (decide (v56 > v60.1)))))))]) (r_gq [(1, .d false [.sl none (a1.map (eU .u8))]), (5, .ov false [.sl (some 85) (v3.1.map ePt)]), (6, .p (iV v3.2)), (9, .ov false [.sl (some 3) (v5.1.map eI)]), (17, .ov false [.sl (some 27) (v9.1.map eRt)]), (25, .p (iV x53)), (243, .p (.bool true))] [(4, gT), (5, gT), (6, gT), (7, bT), (9, gT), (10, gT), (17, gT), (18, bT)] (B6 ha6 ha6 ha6 ha6 (show true = true from rfl) (show true = true from rfl) (A2 (show true = true from rfl) (show true = true from rfl)))) (by simp [ha6])
            ·rcases ft (v59.1 != v60.1) with ha7 | ha7
             ·exact RegOk.of_eq (l2 := [(1, .d false [.sl none (a1.map (eU .u8))]), (5, .ov false [.sl (some 85) (v3.1.map ePt)]), (6, .p (iV v3.2)), (9, .ov false [.sl (some 3) (v5.1.map eI)]), (17, .ov false [.sl (some 27) (v9.1.map eRt)]), (25, .p (iV x53)), (243, .p (.bool ((!(v59.2 == v60.2)) || ((v59.1 != v60.1) || (v60.2 && (decide (v56 > v60.1)))))))]) (r_gq [(1, .d false [.sl none (a1.map (eU .u8))]), (5, .ov false [.sl (some 85) (v3.1.map ePt)]), (6, .p (iV v3.2)), (9, .ov false [.sl (some 3) (v5.1.map eI)]), (17, .ov false [.sl (some 27) (v9.1.map eRt)]), (25, .p (iV x53)), (243, .p (.bool true))] [(4, gF), (5, gF), (6, gF), (7, bF), (9, gT), (10, gT), (17, gT), (18, bT)] (B6 ha6 ha6 ha6 ha6 ha7 ha7 (A2 ha7 ha7))) (by simp [ha6, ha7])
             ·rcases ft v60.2 with ha8 | ha8
              ·exact RegOk.of_eq (l2 := [(1, .d false [.sl none (a1.map (eU .u8))]), (5, .ov false [.sl (some 85) (v3.1.map ePt)]), (6, .p (iV v3.2)), (9, .ov false [.sl (some 3) (v5.1.map eI)]), (17, .ov false [.sl (some 27) (v9.1.map eRt)]), (25, .p (iV x53)), (243, .p (.bool ((!(v59.2 == v60.2)) || ((v59.1 != v60.1) || (v60.2 && (decide (v56 > v60.1)))))))]) (r_gq [(1, .d false [.sl none (a1.map (eU .u8))]), (5, .ov false [.sl (some 85) (v3.1.map ePt)]), (6, .p (iV v3.2)), (9, .ov false [.sl (some 3) (v5.1.map eI)]), (17, .ov false [.sl (some 27) (v9.1.map eRt)]), (25, .p (iV x53)), (243, .p (.bool (decide (v56 > v60.1))))] [(4, gF), (5, gF), (6, gF), (7, bF), (9, gF), (10, gF), (11, gT), (12, gT), (13, {g := some true, row := some (eI v56)}), (14, {g := some true, row := some (eI v56)}), (15, gT), (16, gT), (17, {g := some false, b := some true}), (18, bF)] (B6 ha6 ha6 ha6 ha6 ha7 ha7 (B6 ha8 ha8 ha8 (idxO_some hv56).1 (map_get eI (idxO_some hv56).2) ha8 (A6 (show getRow [[.sl (some 3) (v5.1.map eI)]] [(0, 0), ((Int.toNat x53), 0)] = some (eI v56) from ((gr0 rfl).trans (gre (map_get eI (idxO_some hv56).2)))) ha8 ha8 ha7 ha8 ha7)))) (by (try rw [ha6]); (try rw [ha7]); (try rw [ha8]); all_goals (first | rfl | simp [ha6, ha7, ha8]))
              ·exact RegOk.of_eq (l2 := [(1, .d false [.sl none (a1.map (eU .u8))]), (5, .ov false [.sl (some 85) (v3.1.map ePt)]), (6, .p (iV v3.2)), (9, .ov false [.sl (some 3) (v5.1.map eI)]), (17, .ov false [.sl (some 27) (v9.1.map eRt)]), (25, .p (iV x53)), (243, .p (.bool ((!(v59.2 == v60.2)) || ((v59.1 != v60.1) || (v60.2 && (decide (v56 > v60.1)))))))]) (r_gq [(1, .d false [.sl none (a1.map (eU .u8))]), (5, .ov false [.sl (some 85) (v3.1.map ePt)]), (6, .p (iV v3.2)), (9, .ov false [.sl (some 3) (v5.1.map eI)]), (17, .ov false [.sl (some 27) (v9.1.map eRt)]), (25, .p (iV x53)), (243, .p (.bool false))] [(4, gF), (5, gF), (6, gF), (7, bF), (9, gF), (10, gF), (11, gF), (12, gF), (13, gF), (14, gF), (15, gF), (16, gF), (17, {g := some false, b := some false}), (18, bF)] (B6 ha6 ha6 ha6 ha6 ha7 ha7 (B6 ha8 ha8 ha8 ha8 ha8 ha8 (A3 ha7 ha8 ha7)))) (by (try rw [ha6]); (try rw [ha7]); (try rw [ha8]); all_goals (first | rfl | simp [ha6, ha7, ha8]))
           ·refine kc ((!(v59.2 == v60.2)) || ((v59.1 != v60.1) || (v60.2 && (decide (v56 > v60.1))))) (fun hc7_60 => ?_) (fun hc7_60 => ?_)
            ·replace h := ite_t hc7_60 h
             refine k_sreg (r_gq [(4, .p (.bool false))] [] trivial) ?_
             refine k_ret ?_
             refine b_r ?_
             refine q_r ?_
             refine lq_r ?_
             refine b_r ?_
             refine q_r ?_
             refine q_r ?_
             have hyy := hy_x53 _ (oi h).symm
             subst hyy
             have h := hk_x53
             dsimp only [Sum.elim] at h
             obtain rfl := oi h
             exact er [(.p (.bool false), 4)]
            ·replace h := ite_f hc7_60 h
             refine k_skip ?_
             refine b_n ?_
             refine q_n ?_
             refine k_reg (r_gq [(1, .d false [.sl none (a1.map (eU .u8))]), (5, .ov false [.sl (some 85) (v3.1.map ePt)]), (6, .p (iV v3.2)), (9, .ov false [.sl (some 3) (v5.1.map eI)]), (17, .ov false [.sl (some 27) (v9.1.map eRt)]), (25, .p (iV (w64 (x53 + 1))))] [] trivial) ?_
             exact lqn (w64 (x53 + 1)) h
         ·replace h := ite_f hc6_54 h
          refine k_exit ?_
          refine q_x ?_
          refine lq_x ?_
          refine b_x ?_
          have hyy := hy_x53 _ (oi h).symm
          subst hyy
          have h := hk_x53
          dsimp only [Sum.elim] at h
          refine q_n ?_
          exact jx () h
     ·replace h := ite_f hc2_35 h
      refine k_skip ?_
      refine q_n ?_
      exact jx () h
end Go.PV

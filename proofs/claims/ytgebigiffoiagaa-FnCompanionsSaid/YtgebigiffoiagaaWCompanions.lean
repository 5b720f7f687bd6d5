/-
  Walks through the functions that the law reaches: each answers as its plain definition does.
  Conditions: none.
-/
import Derived.KernelRfl
import Derived.Test.YtgebigiffoiagaaWCompanionsPartB
import Derived.Test.YtgebigiffoiagaaProg
open Go Go.PV Go.Proofs
set_option linter.all false
namespace Go.PV
attribute [local irreducible] pvC pvL pvD sOp seqQ blockQ Meets MeetsB Ok OkL RegOk agree endQ seqL blockL loopQ endL endLB
theorem wk_laws_FnCompanions {a0 : (List Int)} {a1 : (List Int)}  {r : Bool} (h : laws_FnCompanions a0 a1 = some r) : Meets Try.prog 5 [.d false [.sl none (a0.map (eU .u8))], .d false [.sl none (a1.map (eU .u8))]] { vals := [.p (.bool r)] } := by
 refine mo Try.func5 [(0, .d false [.sl none (a0.map (eU .u8))]), (1, .d false [.sl none (a1.map (eU .u8))])] ?_
 unfold laws_FnCompanions at h
 refine k_sreg (r_gq [(0, .d false [.sl none (a0.map (eU .u8))]), (1, .d false [.sl none (a1.map (eU .u8))])] [] trivial) ?_
 refine k_seq ?_
 replace h := bs h
 obtain ⟨v1, hv1, h⟩ := h
 refine k_sreg (r_gq [(0, .d false [.sl none (a0.map (eU .u8))]), (1, .d false [.sl none (a1.map (eU .u8))]), (44, .p (.bool v1))] [(2, {call := some (none, [.p (.bool v1)], true)})] (A1 (wk_laws_big hv1))) ?_
 refine kc v1 (fun hc2_1 => ?_) (fun hc2_1 => ?_)
 ·replace h := ite_t hc2_1 h
  refine k_sreg (r_gq [(4, .p (.bool true))] [] trivial) ?_
  refine k_ret ?_
  refine q_r ?_
  obtain rfl := oi h
  exact er [(.p (.bool true), 4)]
 ·replace h := ite_f hc2_1 h
  refine k_skip ?_
  refine q_n ?_
  replace h := bs h
  obtain ⟨v3, hv3, h⟩ := h
  refine k_sreg (r_gq [(1, .d false [.sl none (a1.map (eU .u8))]), (5, .ov false [.sl (some 3) (v3.map eI)])] [(1, {call := some (none, [.ov false [.sl (some 3) (v3.map eI)]], true)})] (A2 (wk_spec_DrawCompanionGraph hv3) (show List.all [.ov false [.sl (some 3) (v3.map eI)]] simpleR = true from (sa_o (wnR1 (wnL_enc wn_I) rfl) rfl)))) ?_
  replace h := bs h
  obtain ⟨v4, hv4, h⟩ := h
  refine k_sreg (r_gq [(1, .d false [.sl none (a1.map (eU .u8))]), (5, .ov false [.sl (some 3) (v3.map eI)]), (6, .ov false [.sl (some 26) (v4.1.map (eO 3 eI))]), (7, .p (.bool v4.2))] [(1, {call := some (some [.d false [.sl none (v3.map eI)]], [.ov false [.sl (some 26) (v4.1.map (eO 3 eI))], .p (.bool v4.2)], true)})] (A3 (show ([.d false [.sl none (eraL (v3.map eI))]] : List Arg) = [.d false [.sl none (v3.map eI)]] from (by simp only [eraL_enc (h := eI) er_I])) (wk_impl_CompanionGraph hv4) (show List.all [.ov false [.sl (some 26) (v4.1.map (eO 3 eI))], .p (.bool v4.2)] simpleR = true from (sa_o (wnR1 (wnL_enc (wn_O wn_I)) rfl) (sa_p rfl))))) ?_
  replace h := bs h
  obtain ⟨v5, hv5, h⟩ := h
  refine k_sreg (r_gq [(1, .d false [.sl none (a1.map (eU .u8))]), (5, .ov false [.sl (some 3) (v3.map eI)]), (6, .ov false [.sl (some 26) (v4.1.map (eO 3 eI))]), (7, .p (.bool v4.2)), (8, .ov false [.sl (some 26) (v5.1.map (eO 3 eI))]), (9, .p (.bool v5.2))] [(1, {call := some (some [.d false [.sl none (v3.map eI)]], [.ov false [.sl (some 26) (v5.1.map (eO 3 eI))], .p (.bool v5.2)], true)})] (A3 (show ([.d false [.sl none (eraL (v3.map eI))]] : List Arg) = [.d false [.sl none (v3.map eI)]] from (by simp only [eraL_enc (h := eI) er_I])) (wk_spec_CompanionGraph hv5) (show List.all [.ov false [.sl (some 26) (v5.1.map (eO 3 eI))], .p (.bool v5.2)] simpleR = true from (sa_o (wnR1 (wnL_enc (wn_O wn_I)) rfl) (sa_p rfl))))) ?_
  refine k_seq ?_
  replace h := bs h
  obtain ⟨w7, hw7, h⟩ := h
  refine k_sreg (l1 := [(1, .d false [.sl none (a1.map (eU .u8))]), (5, .ov false [.sl (some 3) (v3.map eI)]), (6, .ov false [.sl (some 26) (v4.1.map (eO 3 eI))]), (7, .p (.bool v4.2)), (65, .p (.bool w7))]) ?_ ?_
  ·clear h
   rcases ft (!(v4.2 == v5.2)) with ha1 | ha1
   ·replace hw7 := ite_t ha1 hw7
    have hw7 := oi hw7
    subst hw7
    exact (r_gq [(1, .d false [.sl none (a1.map (eU .u8))]), (5, .ov false [.sl (some 3) (v3.map eI)]), (6, .ov false [.sl (some 26) (v4.1.map (eO 3 eI))]), (7, .p (.bool v4.2)), (65, .p (.bool true))] [(4, gT), (5, gT), (6, gT), (7, gT), (8, bT)] (A5 ha1 ha1 ha1 ha1 ha1))
   ·replace hw7 := ite_f ha1 hw7
    replace hw7 := bs hw7
    obtain ⟨v6, hv6, hw7⟩ := hw7
    have hw7 := oi hw7
    subst hw7
    exact (r_gq [(1, .d false [.sl none (a1.map (eU .u8))]), (5, .ov false [.sl (some 3) (v3.map eI)]), (6, .ov false [.sl (some 26) (v4.1.map (eO 3 eI))]), (7, .p (.bool v4.2)), (65, .p (.bool (!v6)))] [(4, gF), (5, gF), (6, {g := some false, call := some (some [.d false [.sl none (v4.1.map (eF eI))], .d false [.sl none (v5.1.map (eF eI))]], [.p (.bool v6)], true)}), (7, gF), (8, bF)] (B6 ha1 ha1 ha1 (show ([.d false [.sl none (eraL (v4.1.map (eO 3 eI)))], .d false [.sl none (eraL (v5.1.map (eO 3 eI)))]] : List Arg) = [.d false [.sl none (v4.1.map (eF eI))], .d false [.sl none (v5.1.map (eF eI))]] from (by simp only [eraL_enc (h := (eF eI)) (era_O er_I), eraL_enc (h := (eF eI)) (era_O er_I)])) (wk_laws_sameLists hv6) ha1 (A1 ha1)))
  ·refine kc w7 (fun hc2_7 => ?_) (fun hc2_7 => ?_)
   ·replace h := ite_t hc2_7 h
    refine k_sreg (r_gq [(4, .p (.bool false))] [] trivial) ?_
    refine k_ret ?_
    refine q_r ?_
    obtain rfl := oi h
    exact er [(.p (.bool false), 4)]
   ·replace h := ite_f hc2_7 h
    refine k_skip ?_
    refine q_n ?_
    refine k_join (J := fun (x : Unit) => [(1, .d false [.sl none (a1.map (eU .u8))])]) (K := fun x => laws_FnCompanions_k1 a1 x = some r) (fun x9 h => ?_) ?_
    ·unfold laws_FnCompanions_k1 at h
     replace h := bs h
     obtain ⟨v10, hv10, h⟩ := h
     refine k_sreg (r_gq [(1, .d false [.sl none (a1.map (eU .u8))]), (12, .ov false [.sl (some 26) (v10.map (eO 3 eI))])] [(1, {call := some (none, [.ov false [.sl (some 26) (v10.map (eO 3 eI))]], true)})] (A2 (wk_spec_DrawIsNilpotent hv10) (show List.all [.ov false [.sl (some 26) (v10.map (eO 3 eI))]] simpleR = true from (sa_o (wnR1 (wnL_enc (wn_O wn_I)) rfl) rfl)))) ?_
     replace h := bs h
     obtain ⟨v11, hv11, h⟩ := h
     refine k_sreg (r_gq [(1, .d false [.sl none (a1.map (eU .u8))]), (12, .ov false [.sl (some 26) (v10.map (eO 3 eI))]), (13, .p (.bool v11.1)), (14, .p (.bool v11.2))] [(1, {call := some (some [.d false [.sl none (v10.map (eF eI))]], [.p (.bool v11.1), .p (.bool v11.2)], true)})] (A2 (show ([.d false [.sl none (eraL (v10.map (eO 3 eI)))]] : List Arg) = [.d false [.sl none (v10.map (eF eI))]] from (by simp only [eraL_enc (h := (eF eI)) (era_O er_I)])) (wk_impl_IsNilpotent hv11))) ?_
     replace h := bs h
     obtain ⟨v12, hv12, h⟩ := h
     refine k_sreg (r_gq [(1, .d false [.sl none (a1.map (eU .u8))]), (12, .ov false [.sl (some 26) (v10.map (eO 3 eI))]), (13, .p (.bool v11.1)), (14, .p (.bool v11.2)), (15, .p (.bool v12.1)), (16, .p (.bool v12.2))] [(1, {call := some (some [.d false [.sl none (v10.map (eF eI))]], [.p (.bool v12.1), .p (.bool v12.2)], true)})] (A2 (show ([.d false [.sl none (eraL (v10.map (eO 3 eI)))]] : List Arg) = [.d false [.sl none (v10.map (eF eI))]] from (by simp only [eraL_enc (h := (eF eI)) (era_O er_I)])) (wk_spec_IsNilpotent hv12))) ?_
     refine k_seq ?_
     refine k_sreg (l1 := [(1, .d false [.sl none (a1.map (eU .u8))]), (12, .ov false [.sl (some 26) (v10.map (eO 3 eI))]), (14, .p (.bool v11.2)), (15, .p (.bool v12.1)), (104, .p (.bool ((!(v11.2 == v12.2)) || (!(v11.1 == v12.1)))))]) ?_ ?_
     ·rcases ft (!(v11.2 == v12.2)) with ha2 | ha2
      ·exact RegOk.of_eq (l2 := [(1, .d false [.sl none (a1.map (eU .u8))]), (12, .ov false [.sl (some 26) (v10.map (eO 3 eI))]), (14, .p (.bool v11.2)), (15, .p (.bool v12.1)), (104, .p (.bool ((!(v11.2 == v12.2)) || (!(v11.1 == v12.1)))))]) (r_gq [(1, .d false [.sl none (a1.map (eU .u8))]), (12, .ov false [.sl (some 26) (v10.map (eO 3 eI))]), (14, .p (.bool v11.2)), (15, .p (.bool v12.1)), (104, .p (.bool true))] [(4, gT), (5, gT), (6, gT), (7, bT)] (A4 ha2 ha2 ha2 ha2)) (by simp [ha2])
      ·exact RegOk.of_eq (l2 := [(1, .d false [.sl none (a1.map (eU .u8))]), (12, .ov false [.sl (some 26) (v10.map (eO 3 eI))]), (14, .p (.bool v11.2)), (15, .p (.bool v12.1)), (104, .p (.bool ((!(v11.2 == v12.2)) || (!(v11.1 == v12.1)))))]) (r_gq [(1, .d false [.sl none (a1.map (eU .u8))]), (12, .ov false [.sl (some 26) (v10.map (eO 3 eI))]), (14, .p (.bool v11.2)), (15, .p (.bool v12.1)), (104, .p (.bool (!(v11.1 == v12.1))))] [(4, gF), (5, gF), (6, gF), (7, bF)] (A4 ha2 ha2 ha2 ha2)) (by simp [ha2])
     ·refine kc ((!(v11.2 == v12.2)) || (!(v11.1 == v12.1))) (fun hc2_12 => ?_) (fun hc2_12 => ?_)
      ·replace h := ite_t hc2_12 h
       refine k_sreg (r_gq [(4, .p (.bool false))] [] trivial) ?_
       refine k_ret ?_
       refine q_r ?_
       obtain rfl := oi h
       exact er [(.p (.bool false), 4)]
      ·replace h := ite_f hc2_12 h
       refine k_skip ?_
       refine q_n ?_
       refine k_join (J := fun (x : Unit) => [(1, .d false [.sl none (a1.map (eU .u8))])]) (K := fun x => laws_FnCompanions_k2 a1 x = some r) (fun x14 h => ?_) ?_
       ·unfold laws_FnCompanions_k2 at h
        replace h := bs h
        obtain ⟨v15, hv15, h⟩ := h
        refine k_sreg (r_gq [(1, .d false [.sl none (a1.map (eU .u8))]), (25, .ov false [.sl (some 3) (v15.1.map eI)]), (26, .p (iV v15.2))] [(1, {call := some (none, [.ov false [.sl (some 3) (v15.1.map eI)], .p (iV v15.2)], true)})] (A2 (wk_spec_DrawPowerSums hv15) (show List.all [.ov false [.sl (some 3) (v15.1.map eI)], .p (iV v15.2)] simpleR = true from (sa_o (wnR1 (wnL_enc wn_I) rfl) (sa_p rfl))))) ?_
        replace h := bs h
        obtain ⟨v16, hv16, h⟩ := h
        refine k_sreg (r_gq [(1, .d false [.sl none (a1.map (eU .u8))]), (25, .ov false [.sl (some 3) (v15.1.map eI)]), (26, .p (iV v15.2)), (27, .ov false [.sl (some 3) (v16.1.map eI)]), (28, .p (.bool v16.2))] [(2, {call := some (some [.d false [.sl none (v15.1.map eI)], wI v15.2], [.ov false [.sl (some 3) (v16.1.map eI)], .p (.bool v16.2)], true)})] (A3 (show ([.d false [.sl none (eraL (v15.1.map eI))], wI v15.2] : List Arg) = [.d false [.sl none (v15.1.map eI)], wI v15.2] from (by simp only [eraL_enc (h := eI) er_I])) (wk_impl_PowerSums hv16) (show List.all [.ov false [.sl (some 3) (v16.1.map eI)], .p (.bool v16.2)] simpleR = true from (sa_o (wnR1 (wnL_enc wn_I) rfl) (sa_p rfl))))) ?_
        replace h := bs h
        obtain ⟨v17, hv17, h⟩ := h
        refine k_sreg (r_gq [(1, .d false [.sl none (a1.map (eU .u8))]), (27, .ov false [.sl (some 3) (v16.1.map eI)]), (28, .p (.bool v16.2)), (29, .ov false [.sl (some 3) (v17.1.map eI)]), (30, .p (.bool v17.2))] [(2, {call := some (some [.d false [.sl none (v15.1.map eI)], wI v15.2], [.ov false [.sl (some 3) (v17.1.map eI)], .p (.bool v17.2)], true)})] (A3 (show ([.d false [.sl none (eraL (v15.1.map eI))], wI v15.2] : List Arg) = [.d false [.sl none (v15.1.map eI)], wI v15.2] from (by simp only [eraL_enc (h := eI) er_I])) (wk_spec_PowerSums hv17) (show List.all [.ov false [.sl (some 3) (v17.1.map eI)], .p (.bool v17.2)] simpleR = true from (sa_o (wnR1 (wnL_enc wn_I) rfl) (sa_p rfl))))) ?_
        replace h := bs h
        obtain ⟨v18, hv18, h⟩ := h
        refine k_sreg (r_gq [(1, .d false [.sl none (a1.map (eU .u8))]), (27, .ov false [.sl (some 3) (v16.1.map eI)]), (28, .p (.bool v16.2)), (29, .ov false [.sl (some 3) (v17.1.map eI)]), (30, .p (.bool v17.2)), (31, .ov false [.sl (some 3) (v18.map eI)])] [(1, {call := some (none, [.ov false [.sl (some 3) (v18.map eI)]], true)})] (A2 (wk_spec_DrawEulerProduct hv18) (show List.all [.ov false [.sl (some 3) (v18.map eI)]] simpleR = true from (sa_o (wnR1 (wnL_enc wn_I) rfl) rfl)))) ?_
        replace h := bs h
        obtain ⟨v19, hv19, h⟩ := h
        refine k_sreg (r_gq [(1, .d false [.sl none (a1.map (eU .u8))]), (27, .ov false [.sl (some 3) (v16.1.map eI)]), (28, .p (.bool v16.2)), (29, .ov false [.sl (some 3) (v17.1.map eI)]), (30, .p (.bool v17.2)), (31, .ov false [.sl (some 3) (v18.map eI)]), (32, .ov false [.sl (some 3) (v19.1.map eI)]), (33, .p (.bool v19.2))] [(1, {call := some (some [.d false [.sl none (v18.map eI)]], [.ov false [.sl (some 3) (v19.1.map eI)], .p (.bool v19.2)], true)})] (A3 (show ([.d false [.sl none (eraL (v18.map eI))]] : List Arg) = [.d false [.sl none (v18.map eI)]] from (by simp only [eraL_enc (h := eI) er_I])) (wk_impl_EulerProduct hv19) (show List.all [.ov false [.sl (some 3) (v19.1.map eI)], .p (.bool v19.2)] simpleR = true from (sa_o (wnR1 (wnL_enc wn_I) rfl) (sa_p rfl))))) ?_
        replace h := bs h
        obtain ⟨v20, hv20, h⟩ := h
        refine k_sreg (r_gq [(1, .d false [.sl none (a1.map (eU .u8))]), (27, .ov false [.sl (some 3) (v16.1.map eI)]), (28, .p (.bool v16.2)), (29, .ov false [.sl (some 3) (v17.1.map eI)]), (30, .p (.bool v17.2)), (32, .ov false [.sl (some 3) (v19.1.map eI)]), (33, .p (.bool v19.2)), (34, .ov false [.sl (some 3) (v20.1.map eI)]), (35, .p (.bool v20.2))] [(1, {call := some (some [.d false [.sl none (v18.map eI)]], [.ov false [.sl (some 3) (v20.1.map eI)], .p (.bool v20.2)], true)})] (A3 (show ([.d false [.sl none (eraL (v18.map eI))]] : List Arg) = [.d false [.sl none (v18.map eI)]] from (by simp only [eraL_enc (h := eI) er_I])) (wk_spec_EulerProduct hv20) (show List.all [.ov false [.sl (some 3) (v20.1.map eI)], .p (.bool v20.2)] simpleR = true from (sa_o (wnR1 (wnL_enc wn_I) rfl) (sa_p rfl))))) ?_
        replace h := bs h
        obtain ⟨v21, hv21, h⟩ := h
        refine k_sreg (r_gq [(27, .ov false [.sl (some 3) (v16.1.map eI)]), (28, .p (.bool v16.2)), (29, .ov false [.sl (some 3) (v17.1.map eI)]), (30, .p (.bool v17.2)), (32, .ov false [.sl (some 3) (v19.1.map eI)]), (33, .p (.bool v19.2)), (34, .ov false [.sl (some 3) (v20.1.map eI)]), (35, .p (.bool v20.2)), (36, .ov false [.sl (some 26) (v21.1.map (eO 3 eI))]), (37, .p (iV v21.2))] [(1, {call := some (none, [.ov false [.sl (some 26) (v21.1.map (eO 3 eI))], .p (iV v21.2)], true)})] (A2 (wk_spec_DrawCycleCount hv21) (show List.all [.ov false [.sl (some 26) (v21.1.map (eO 3 eI))], .p (iV v21.2)] simpleR = true from (sa_o (wnR1 (wnL_enc (wn_O wn_I)) rfl) (sa_p rfl))))) ?_
        replace h := bs h
        obtain ⟨v22, hv22, h⟩ := h
        refine k_sreg (r_gq [(27, .ov false [.sl (some 3) (v16.1.map eI)]), (28, .p (.bool v16.2)), (29, .ov false [.sl (some 3) (v17.1.map eI)]), (30, .p (.bool v17.2)), (32, .ov false [.sl (some 3) (v19.1.map eI)]), (33, .p (.bool v19.2)), (34, .ov false [.sl (some 3) (v20.1.map eI)]), (35, .p (.bool v20.2)), (36, .ov false [.sl (some 26) (v21.1.map (eO 3 eI))]), (37, .p (iV v21.2)), (38, .p (iV v22.1)), (39, .p (.bool v22.2))] [(2, {call := some (some [.d false [.sl none (v21.1.map (eF eI))], wI v21.2], [.p (iV v22.1), .p (.bool v22.2)], true)})] (A2 (show ([.d false [.sl none (eraL (v21.1.map (eO 3 eI)))], wI v21.2] : List Arg) = [.d false [.sl none (v21.1.map (eF eI))], wI v21.2] from (by simp only [eraL_enc (h := (eF eI)) (era_O er_I)])) (wk_impl_CycleCount hv22))) ?_
        replace h := bs h
        obtain ⟨v23, hv23, h⟩ := h
        refine k_sreg (r_gq [(27, .ov false [.sl (some 3) (v16.1.map eI)]), (28, .p (.bool v16.2)), (29, .ov false [.sl (some 3) (v17.1.map eI)]), (30, .p (.bool v17.2)), (32, .ov false [.sl (some 3) (v19.1.map eI)]), (33, .p (.bool v19.2)), (34, .ov false [.sl (some 3) (v20.1.map eI)]), (35, .p (.bool v20.2)), (38, .p (iV v22.1)), (39, .p (.bool v22.2)), (40, .p (iV v23.1)), (41, .p (.bool v23.2))] [(2, {call := some (some [.d false [.sl none (v21.1.map (eF eI))], wI v21.2], [.p (iV v23.1), .p (.bool v23.2)], true)})] (A2 (show ([.d false [.sl none (eraL (v21.1.map (eO 3 eI)))], wI v21.2] : List Arg) = [.d false [.sl none (v21.1.map (eF eI))], wI v21.2] from (by simp only [eraL_enc (h := (eF eI)) (era_O er_I)])) (wk_spec_CycleCount hv23))) ?_
        replace h := bs h
        obtain ⟨w26, hw26, h⟩ := h
        refine k_sreg (l1 := [(4, .p (.bool w26))]) ?_ ?_
        ·clear h
         rcases ft (v16.2 == v17.2) with ha3 | ha3
         ·replace hw26 := ite_t ha3 hw26
          replace hw26 := bs hw26
          obtain ⟨v24, hv24, hw26⟩ := hw26
          rcases ft v24 with ha4 | ha4
          ·replace hw26 := ite_t ha4 hw26
           rcases ft (v19.2 == v20.2) with ha5 | ha5
           ·replace hw26 := ite_t ha5 hw26
            replace hw26 := bs hw26
            obtain ⟨v25, hv25, hw26⟩ := hw26
            rcases ft v25 with ha6 | ha6
            ·replace hw26 := ite_t ha6 hw26
             rcases ft (v22.2 == v23.2) with ha7 | ha7
             ·replace hw26 := ite_t ha7 hw26
              rcases ft (v22.1 == v23.1) with ha8 | ha8
              ·replace hw26 := ite_t ha8 hw26
               rcases ft (!v22.2) with ha9 | ha9
               ·replace hw26 := ite_t ha9 hw26
                have hw26 := oi hw26
                subst hw26
                exact (r_gq [(4, .p (.bool true))] [(4, gT), (5, gT), (6, {g := some true, call := some (some [.d false [.sl none (v16.1.map eI)], .d false [.sl none (v17.1.map eI)]], [.p (.bool v24)], true)}), (7, bT), (9, gT), (10, gT), (11, gT), (12, bT), (14, gT), (15, gT), (16, {g := some true, call := some (some [.d false [.sl none (v19.1.map eI)], .d false [.sl none (v20.1.map eI)]], [.p (.bool v25)], true)}), (17, bT), (19, gT), (20, gT), (21, gT), (22, bT), (24, gT), (25, gT), (26, gT), (27, bT), (29, gT), (30, gT), (31, gT), (32, gT), (33, gT), (34, {g := some true, b := some true}), (35, bT)] (B6 ha3 ha3 ha3 (show ([.d false [.sl none (eraL (v16.1.map eI))], .d false [.sl none (eraL (v17.1.map eI))]] : List Arg) = [.d false [.sl none (v16.1.map eI)], .d false [.sl none (v17.1.map eI)]] from (by simp only [eraL_enc (h := eI) er_I, eraL_enc (h := eI) er_I])) (wk_laws_sameInts hv24) ha3 (B6 ha4 ha4 ha4 ha4 ha5 ha5 (B6 ha5 (show ([.d false [.sl none (eraL (v19.1.map eI))], .d false [.sl none (eraL (v20.1.map eI))]] : List Arg) = [.d false [.sl none (v19.1.map eI)], .d false [.sl none (v20.1.map eI)]] from (by simp only [eraL_enc (h := eI) er_I, eraL_enc (h := eI) er_I])) (wk_laws_sameInts hv25) ha5 ha6 ha6 (B6 ha6 ha6 ha7 ha7 ha7 ha7 (B6 ha8 ha8 ha8 ha9 ha9 ha8 (A2 ha9 ha8)))))))
               ·replace hw26 := ite_f ha9 hw26
                have hw26 := oi hw26
                subst hw26
                exact (r_gq [(4, .p (.bool (decide (v23.1 ≥ 0))))] [(4, gT), (5, gT), (6, {g := some true, call := some (some [.d false [.sl none (v16.1.map eI)], .d false [.sl none (v17.1.map eI)]], [.p (.bool v24)], true)}), (7, bT), (9, gT), (10, gT), (11, gT), (12, bT), (14, gT), (15, gT), (16, {g := some true, call := some (some [.d false [.sl none (v19.1.map eI)], .d false [.sl none (v20.1.map eI)]], [.p (.bool v25)], true)}), (17, bT), (19, gT), (20, gT), (21, gT), (22, bT), (24, gT), (25, gT), (26, gT), (27, bT), (29, gT), (30, gT), (31, gT), (32, gF), (33, gF), (34, {g := some true, b := some false}), (35, bT)] (B6 ha3 ha3 ha3 (show ([.d false [.sl none (eraL (v16.1.map eI))], .d false [.sl none (eraL (v17.1.map eI))]] : List Arg) = [.d false [.sl none (v16.1.map eI)], .d false [.sl none (v17.1.map eI)]] from (by simp only [eraL_enc (h := eI) er_I, eraL_enc (h := eI) er_I])) (wk_laws_sameInts hv24) ha3 (B6 ha4 ha4 ha4 ha4 ha5 ha5 (B6 ha5 (show ([.d false [.sl none (eraL (v19.1.map eI))], .d false [.sl none (eraL (v20.1.map eI))]] : List Arg) = [.d false [.sl none (v19.1.map eI)], .d false [.sl none (v20.1.map eI)]] from (by simp only [eraL_enc (h := eI) er_I, eraL_enc (h := eI) er_I])) (wk_laws_sameInts hv25) ha5 ha6 ha6 (B6 ha6 ha6 ha7 ha7 ha7 ha7 (B6 ha8 ha8 ha8 ha9 ha9 ha8 (A2 ha9 ha8)))))))
              ·replace hw26 := ite_f ha8 hw26
               have hw26 := oi hw26
               subst hw26
               exact (r_gq [(4, .p (.bool false))] [(4, gT), (5, gT), (6, {g := some true, call := some (some [.d false [.sl none (v16.1.map eI)], .d false [.sl none (v17.1.map eI)]], [.p (.bool v24)], true)}), (7, bT), (9, gT), (10, gT), (11, gT), (12, bT), (14, gT), (15, gT), (16, {g := some true, call := some (some [.d false [.sl none (v19.1.map eI)], .d false [.sl none (v20.1.map eI)]], [.p (.bool v25)], true)}), (17, bT), (19, gT), (20, gT), (21, gT), (22, bT), (24, gT), (25, gT), (26, gT), (27, bT), (29, gF), (30, gF), (31, gF), (34, gF), (35, bF)] (B6 ha3 ha3 ha3 (show ([.d false [.sl none (eraL (v16.1.map eI))], .d false [.sl none (eraL (v17.1.map eI))]] : List Arg) = [.d false [.sl none (v16.1.map eI)], .d false [.sl none (v17.1.map eI)]] from (by simp only [eraL_enc (h := eI) er_I, eraL_enc (h := eI) er_I])) (wk_laws_sameInts hv24) ha3 (B6 ha4 ha4 ha4 ha4 ha5 ha5 (B6 ha5 (show ([.d false [.sl none (eraL (v19.1.map eI))], .d false [.sl none (eraL (v20.1.map eI))]] : List Arg) = [.d false [.sl none (v19.1.map eI)], .d false [.sl none (v20.1.map eI)]] from (by simp only [eraL_enc (h := eI) er_I, eraL_enc (h := eI) er_I])) (wk_laws_sameInts hv25) ha5 ha6 ha6 (B6 ha6 ha6 ha7 ha7 ha7 ha7 (A5 ha8 ha8 ha8 ha8 ha8))))))
             ·replace hw26 := ite_f ha7 hw26
              have hw26 := oi hw26
              subst hw26
              exact (r_gq [(4, .p (.bool false))] [(4, gT), (5, gT), (6, {g := some true, call := some (some [.d false [.sl none (v16.1.map eI)], .d false [.sl none (v17.1.map eI)]], [.p (.bool v24)], true)}), (7, bT), (9, gT), (10, gT), (11, gT), (12, bT), (14, gT), (15, gT), (16, {g := some true, call := some (some [.d false [.sl none (v19.1.map eI)], .d false [.sl none (v20.1.map eI)]], [.p (.bool v25)], true)}), (17, bT), (19, gT), (20, gT), (21, gT), (22, bT), (24, gF), (25, gF), (26, gF), (27, bF), (29, gF), (30, gF), (31, gF), (34, gF), (35, bF)] (B6 ha3 ha3 ha3 (show ([.d false [.sl none (eraL (v16.1.map eI))], .d false [.sl none (eraL (v17.1.map eI))]] : List Arg) = [.d false [.sl none (v16.1.map eI)], .d false [.sl none (v17.1.map eI)]] from (by simp only [eraL_enc (h := eI) er_I, eraL_enc (h := eI) er_I])) (wk_laws_sameInts hv24) ha3 (B6 ha4 ha4 ha4 ha4 ha5 ha5 (B6 ha5 (show ([.d false [.sl none (eraL (v19.1.map eI))], .d false [.sl none (eraL (v20.1.map eI))]] : List Arg) = [.d false [.sl none (v19.1.map eI)], .d false [.sl none (v20.1.map eI)]] from (by simp only [eraL_enc (h := eI) er_I, eraL_enc (h := eI) er_I])) (wk_laws_sameInts hv25) ha5 ha6 ha6 (B6 ha6 ha6 ha7 ha7 ha7 ha7 (A5 (show false = false from rfl) (show false = false from rfl) (show false = false from rfl) (show false = false from rfl) (show false = false from rfl)))))))
            ·replace hw26 := ite_f ha6 hw26
             have hw26 := oi hw26
             subst hw26
             exact (r_gq [(4, .p (.bool false))] [(4, gT), (5, gT), (6, {g := some true, call := some (some [.d false [.sl none (v16.1.map eI)], .d false [.sl none (v17.1.map eI)]], [.p (.bool v24)], true)}), (7, bT), (9, gT), (10, gT), (11, gT), (12, bT), (14, gT), (15, gT), (16, {g := some true, call := some (some [.d false [.sl none (v19.1.map eI)], .d false [.sl none (v20.1.map eI)]], [.p (.bool v25)], true)}), (17, bT), (19, gF), (20, gF), (21, gF), (22, bF), (24, gF), (25, gF), (26, gF), (27, bF), (29, gF), (30, gF), (31, gF), (34, gF), (35, bF)] (B6 ha3 ha3 ha3 (show ([.d false [.sl none (eraL (v16.1.map eI))], .d false [.sl none (eraL (v17.1.map eI))]] : List Arg) = [.d false [.sl none (v16.1.map eI)], .d false [.sl none (v17.1.map eI)]] from (by simp only [eraL_enc (h := eI) er_I, eraL_enc (h := eI) er_I])) (wk_laws_sameInts hv24) ha3 (B6 ha4 ha4 ha4 ha4 ha5 ha5 (B6 ha5 (show ([.d false [.sl none (eraL (v19.1.map eI))], .d false [.sl none (eraL (v20.1.map eI))]] : List Arg) = [.d false [.sl none (v19.1.map eI)], .d false [.sl none (v20.1.map eI)]] from (by simp only [eraL_enc (h := eI) er_I, eraL_enc (h := eI) er_I])) (wk_laws_sameInts hv25) ha5 ha6 ha6 (B6 ha6 ha6 (show false = false from rfl) (show false = false from rfl) (show false = false from rfl) (show false = false from rfl) (A5 (show false = false from rfl) (show false = false from rfl) (show false = false from rfl) (show false = false from rfl) (show false = false from rfl)))))))
           ·replace hw26 := ite_f ha5 hw26
            have hw26 := oi hw26
            subst hw26
            exact (r_gq [(4, .p (.bool false))] [(4, gT), (5, gT), (6, {g := some true, call := some (some [.d false [.sl none (v16.1.map eI)], .d false [.sl none (v17.1.map eI)]], [.p (.bool v24)], true)}), (7, bT), (9, gT), (10, gT), (11, gT), (12, bT), (14, gF), (15, gF), (16, gF), (17, bF), (19, gF), (20, gF), (21, gF), (22, bF), (24, gF), (25, gF), (26, gF), (27, bF), (29, gF), (30, gF), (31, gF), (34, gF), (35, bF)] (B6 ha3 ha3 ha3 (show ([.d false [.sl none (eraL (v16.1.map eI))], .d false [.sl none (eraL (v17.1.map eI))]] : List Arg) = [.d false [.sl none (v16.1.map eI)], .d false [.sl none (v17.1.map eI)]] from (by simp only [eraL_enc (h := eI) er_I, eraL_enc (h := eI) er_I])) (wk_laws_sameInts hv24) ha3 (B6 ha4 ha4 ha4 ha4 ha5 ha5 (B6 ha5 ha5 (show false = false from rfl) (show false = false from rfl) (show false = false from rfl) (show false = false from rfl) (B6 (show false = false from rfl) (show false = false from rfl) (show false = false from rfl) (show false = false from rfl) (show false = false from rfl) (show false = false from rfl) (A3 (show false = false from rfl) (show false = false from rfl) (show false = false from rfl)))))))
          ·replace hw26 := ite_f ha4 hw26
           have hw26 := oi hw26
           subst hw26
           exact (r_gq [(4, .p (.bool false))] [(4, gT), (5, gT), (6, {g := some true, call := some (some [.d false [.sl none (v16.1.map eI)], .d false [.sl none (v17.1.map eI)]], [.p (.bool v24)], true)}), (7, bT), (9, gF), (10, gF), (11, gF), (12, bF), (14, gF), (15, gF), (16, gF), (17, bF), (19, gF), (20, gF), (21, gF), (22, bF), (24, gF), (25, gF), (26, gF), (27, bF), (29, gF), (30, gF), (31, gF), (34, gF), (35, bF)] (B6 ha3 ha3 ha3 (show ([.d false [.sl none (eraL (v16.1.map eI))], .d false [.sl none (eraL (v17.1.map eI))]] : List Arg) = [.d false [.sl none (v16.1.map eI)], .d false [.sl none (v17.1.map eI)]] from (by simp only [eraL_enc (h := eI) er_I, eraL_enc (h := eI) er_I])) (wk_laws_sameInts hv24) ha3 (B6 ha4 ha4 ha4 ha4 (show false = false from rfl) (show false = false from rfl) (B6 (show false = false from rfl) (show false = false from rfl) (show false = false from rfl) (show false = false from rfl) (show false = false from rfl) (show false = false from rfl) (B6 (show false = false from rfl) (show false = false from rfl) (show false = false from rfl) (show false = false from rfl) (show false = false from rfl) (show false = false from rfl) (A3 (show false = false from rfl) (show false = false from rfl) (show false = false from rfl)))))))
         ·replace hw26 := ite_f ha3 hw26
          have hw26 := oi hw26
          subst hw26
          exact (r_gq [(4, .p (.bool false))] [(4, gF), (5, gF), (6, gF), (7, bF), (9, gF), (10, gF), (11, gF), (12, bF), (14, gF), (15, gF), (16, gF), (17, bF), (19, gF), (20, gF), (21, gF), (22, bF), (24, gF), (25, gF), (26, gF), (27, bF), (29, gF), (30, gF), (31, gF), (34, gF), (35, bF)] (B6 ha3 ha3 ha3 ha3 (show false = false from rfl) (show false = false from rfl) (B6 (show false = false from rfl) (show false = false from rfl) (show false = false from rfl) (show false = false from rfl) (show false = false from rfl) (show false = false from rfl) (B6 (show false = false from rfl) (show false = false from rfl) (show false = false from rfl) (show false = false from rfl) (show false = false from rfl) (show false = false from rfl) (B6 (show false = false from rfl) (show false = false from rfl) (show false = false from rfl) (show false = false from rfl) (show false = false from rfl) (show false = false from rfl) (A1 (show false = false from rfl)))))))
        ·refine k_ret ?_
         obtain rfl := oi h
         exact er [(.p (.bool w26), 4)]
       ·refine k_sreg (r_gq [(1, .d false [.sl none (a1.map (eU .u8))]), (12, .ov false [.sl (some 26) (v10.map (eO 3 eI))]), (15, .p (.bool v12.1)), (105, .p (.bool v11.2))] [] trivial) ?_
        refine kc v11.2 (fun hc2_26 => ?_) (fun hc2_26 => ?_)
        ·replace h := ite_t hc2_26 h
         replace h := bs h
         obtain ⟨v28, hv28, h⟩ := h
         refine k_sreg (r_gq [(1, .d false [.sl none (a1.map (eU .u8))]), (12, .ov false [.sl (some 26) (v10.map (eO 3 eI))]), (15, .p (.bool v12.1)), (17, .p (iV v28.1)), (18, .p (.bool v28.2))] [(2, {n := some v10.length}), (3, {call := some (some [.d false [.sl none (v10.map (eF eI))], wI (v10.length : Int)], [.p (iV v28.1), .p (.bool v28.2)], true)})] (A3 (show (v10.map (eO 3 eI)).length = v10.length from (List.length_map ..)) (show ([.d false [.sl none (eraL (v10.map (eO 3 eI)))], wI (v10.length : Int)] : List Arg) = [.d false [.sl none (v10.map (eF eI))], wI (v10.length : Int)] from (by simp only [eraL_enc (h := (eF eI)) (era_O er_I)])) (wk_impl_TotalWalks hv28))) ?_
         replace h := bs h
         obtain ⟨v29, hv29, h⟩ := h
         refine k_sreg (r_gq [(1, .d false [.sl none (a1.map (eU .u8))]), (12, .ov false [.sl (some 26) (v10.map (eO 3 eI))]), (15, .p (.bool v12.1)), (17, .p (iV v28.1)), (18, .p (.bool v28.2)), (19, .p (iV v29.1)), (20, .p (.bool v29.2))] [(2, {n := some v10.length}), (3, {call := some (some [.d false [.sl none (v10.map (eF eI))], wI (v10.length : Int)], [.p (iV v29.1), .p (.bool v29.2)], true)})] (A3 (show (v10.map (eO 3 eI)).length = v10.length from (List.length_map ..)) (show ([.d false [.sl none (eraL (v10.map (eO 3 eI)))], wI (v10.length : Int)] : List Arg) = [.d false [.sl none (v10.map (eF eI))], wI (v10.length : Int)] from (by simp only [eraL_enc (h := (eF eI)) (era_O er_I)])) (wk_spec_TotalWalks hv29))) ?_
         replace h := bs h
         obtain ⟨v30, hv30, h⟩ := h
         refine k_sreg (r_gq [(1, .d false [.sl none (a1.map (eU .u8))]), (12, .ov false [.sl (some 26) (v10.map (eO 3 eI))]), (15, .p (.bool v12.1)), (17, .p (iV v28.1)), (18, .p (.bool v28.2)), (19, .p (iV v29.1)), (20, .p (.bool v29.2)), (21, .p (iV v30.1)), (22, .p (.bool v30.2))] [(1, {call := some (some [.d false [.sl none (v10.map (eF eI))]], [.p (iV v30.1), .p (.bool v30.2)], true)})] (A2 (show ([.d false [.sl none (eraL (v10.map (eO 3 eI)))]] : List Arg) = [.d false [.sl none (v10.map (eF eI))]] from (by simp only [eraL_enc (h := (eF eI)) (era_O er_I)])) (wk_impl_TraceOf hv30))) ?_
         refine k_seq ?_
         refine k_sreg (l1 := [(1, .d false [.sl none (a1.map (eU .u8))]), (12, .ov false [.sl (some 26) (v10.map (eO 3 eI))]), (15, .p (.bool v12.1)), (152, .p (.bool ((!(v28.2 == v29.2)) || ((v28.1 != v29.1) || (if v28.2 then ((!(v12.1 == (v29.1 == 0))) || ((!v30.2) || (v12.1 && (v30.1 != 0)))) else ((!(v12.1 == false)) || ((!v30.2) || (v12.1 && (v30.1 != 0)))))))))]) ?_ ?_
         ·rcases ft (!(v28.2 == v29.2)) with ha4 | ha4
          ·exact RegOk.of_eq (l2 := [(1, .d false [.sl none (a1.map (eU .u8))]), (12, .ov false [.sl (some 26) (v10.map (eO 3 eI))]), (15, .p (.bool v12.1)), (152, .p (.bool ((!(v28.2 == v29.2)) || ((v28.1 != v29.1) || (if v28.2 then ((!(v12.1 == (v29.1 == 0))) || ((!v30.2) || (v12.1 && (v30.1 != 0)))) else ((!(v12.1 == false)) || ((!v30.2) || (v12.1 && (v30.1 != 0)))))))))]) (r_gq [(1, .d false [.sl none (a1.map (eU .u8))]), (12, .ov false [.sl (some 26) (v10.map (eO 3 eI))]), (15, .p (.bool v12.1)), (152, .p (.bool true))] [(4, gT), (5, gT), (6, gT), (7, bT), (9, gT), (10, gT), (11, gT), (14, gT), (15, gT), (16, bT), (18, gT), (19, gT), (20, bT), (22, gT), (23, gT), (26, gT), (27, bT)] (B6 ha4 ha4 ha4 ha4 (show true = true from rfl) (show true = true from rfl) (B6 (show true = true from rfl) (show true = true from rfl) (show true = true from rfl) (show true = true from rfl) (show true = true from rfl) (show true = true from rfl) (A5 (show true = true from rfl) (show true = true from rfl) (show true = true from rfl) (show true = true from rfl) (show true = true from rfl))))) (by simp [ha4])
          ·rcases ft (v28.1 != v29.1) with ha5 | ha5
           ·exact RegOk.of_eq (l2 := [(1, .d false [.sl none (a1.map (eU .u8))]), (12, .ov false [.sl (some 26) (v10.map (eO 3 eI))]), (15, .p (.bool v12.1)), (152, .p (.bool ((!(v28.2 == v29.2)) || ((v28.1 != v29.1) || (if v28.2 then ((!(v12.1 == (v29.1 == 0))) || ((!v30.2) || (v12.1 && (v30.1 != 0)))) else ((!(v12.1 == false)) || ((!v30.2) || (v12.1 && (v30.1 != 0)))))))))]) (r_gq [(1, .d false [.sl none (a1.map (eU .u8))]), (12, .ov false [.sl (some 26) (v10.map (eO 3 eI))]), (15, .p (.bool v12.1)), (152, .p (.bool true))] [(4, gF), (5, gF), (6, gF), (7, bF), (9, gT), (10, gT), (11, gT), (14, gT), (15, gT), (16, bT), (18, gT), (19, gT), (20, bT), (22, gT), (23, gT), (26, gT), (27, bT)] (B6 ha4 ha4 ha4 ha4 ha5 ha5 (B6 ha5 ha5 ha5 ha5 (show true = true from rfl) (show true = true from rfl) (A5 (show true = true from rfl) (show true = true from rfl) (show true = true from rfl) (show true = true from rfl) (show true = true from rfl))))) (by simp [ha4, ha5])
           ·rcases ft v28.2 with ha6 | ha6
            ·rcases ft (!(v12.1 == (v29.1 == 0))) with ha7 | ha7
             ·exact RegOk.of_eq (l2 := [(1, .d false [.sl none (a1.map (eU .u8))]), (12, .ov false [.sl (some 26) (v10.map (eO 3 eI))]), (15, .p (.bool v12.1)), (152, .p (.bool ((!(v28.2 == v29.2)) || ((v28.1 != v29.1) || (if v28.2 then ((!(v12.1 == (v29.1 == 0))) || ((!v30.2) || (v12.1 && (v30.1 != 0)))) else ((!(v12.1 == false)) || ((!v30.2) || (v12.1 && (v30.1 != 0)))))))))]) (r_gq [(1, .d false [.sl none (a1.map (eU .u8))]), (12, .ov false [.sl (some 26) (v10.map (eO 3 eI))]), (15, .p (.bool v12.1)), (152, .p (.bool true))] [(4, gF), (5, gF), (6, gF), (7, bF), (9, gF), (10, gF), (11, gF), (12, gT), (13, gT), (14, {g := some false, b := some true}), (15, gF), (16, bF), (18, gT), (19, gT), (20, bT), (22, gT), (23, gT), (26, gT), (27, bT)] (B6 ha4 ha4 ha4 ha4 ha5 ha5 (B6 ha5 ha6 ha6 ha5 ha6 ha5 (B6 ha5 ha7 ha7 ha7 (show true = true from rfl) (show true = true from rfl) (A2 (show true = true from rfl) (show true = true from rfl)))))) (by (try rw [ha4]); (try rw [ha5]); (try rw [ha6]); (try rw [ha7]); all_goals (first | rfl | simp [ha4, ha5, ha6, ha7]))
             ·rcases ft (!v30.2) with ha8 | ha8
              ·exact RegOk.of_eq (l2 := [(1, .d false [.sl none (a1.map (eU .u8))]), (12, .ov false [.sl (some 26) (v10.map (eO 3 eI))]), (15, .p (.bool v12.1)), (152, .p (.bool ((!(v28.2 == v29.2)) || ((v28.1 != v29.1) || (if v28.2 then ((!(v12.1 == (v29.1 == 0))) || ((!v30.2) || (v12.1 && (v30.1 != 0)))) else ((!(v12.1 == false)) || ((!v30.2) || (v12.1 && (v30.1 != 0)))))))))]) (r_gq [(1, .d false [.sl none (a1.map (eU .u8))]), (12, .ov false [.sl (some 26) (v10.map (eO 3 eI))]), (15, .p (.bool v12.1)), (152, .p (.bool true))] [(4, gF), (5, gF), (6, gF), (7, bF), (9, gF), (10, gF), (11, gF), (12, gT), (13, gT), (14, {g := some false, b := some true}), (15, gF), (16, bF), (18, gF), (19, gF), (20, bF), (22, gT), (23, gT), (26, gT), (27, bT)] (B6 ha4 ha4 ha4 ha4 ha5 ha5 (B6 ha5 ha6 ha6 ha5 ha6 ha5 (B6 ha5 ha7 ha7 ha7 ha8 ha8 (A2 ha8 ha8))))) (by (try rw [ha4]); (try rw [ha5]); (try rw [ha6]); (try rw [ha7]); (try rw [ha8]); all_goals (first | rfl | simp [ha4, ha5, ha6, ha7, ha8]))
              ·rcases ft v12.1 with ha9 | ha9
               ·exact RegOk.of_eq (l2 := [(1, .d false [.sl none (a1.map (eU .u8))]), (12, .ov false [.sl (some 26) (v10.map (eO 3 eI))]), (15, .p (.bool v12.1)), (152, .p (.bool ((!(v28.2 == v29.2)) || ((v28.1 != v29.1) || (if v28.2 then ((!(v12.1 == (v29.1 == 0))) || ((!v30.2) || (v12.1 && (v30.1 != 0)))) else ((!(v12.1 == false)) || ((!v30.2) || (v12.1 && (v30.1 != 0)))))))))]) (r_gq [(1, .d false [.sl none (a1.map (eU .u8))]), (12, .ov false [.sl (some 26) (v10.map (eO 3 eI))]), (15, .p (.bool v12.1)), (152, .p (.bool (v30.1 != 0)))] [(4, gF), (5, gF), (6, gF), (7, bF), (9, gF), (10, gF), (11, gF), (12, gT), (13, gT), (14, {g := some false, b := some true}), (15, gF), (16, bF), (18, gF), (19, gF), (20, bF), (22, gF), (23, gF), (24, gT), (25, gT), (26, {g := some false, b := some true}), (27, bF)] (B6 ha4 ha4 ha4 ha4 ha5 ha5 (B6 ha5 ha6 ha6 ha5 ha6 ha5 (B6 ha5 ha7 ha7 ha7 ha8 ha8 (A5 ha9 ha9 ha8 ha9 ha8))))) (by (try rw [ha4]); (try rw [ha5]); (try rw [ha6]); (try rw [ha7]); (try rw [ha8]); (try rw [ha9]); all_goals (first | rfl | simp [ha4, ha5, ha6, ha7, ha8, ha9]))
               ·exact RegOk.of_eq (l2 := [(1, .d false [.sl none (a1.map (eU .u8))]), (12, .ov false [.sl (some 26) (v10.map (eO 3 eI))]), (15, .p (.bool v12.1)), (152, .p (.bool ((!(v28.2 == v29.2)) || ((v28.1 != v29.1) || (if v28.2 then ((!(v12.1 == (v29.1 == 0))) || ((!v30.2) || (v12.1 && (v30.1 != 0)))) else ((!(v12.1 == false)) || ((!v30.2) || (v12.1 && (v30.1 != 0)))))))))]) (r_gq [(1, .d false [.sl none (a1.map (eU .u8))]), (12, .ov false [.sl (some 26) (v10.map (eO 3 eI))]), (15, .p (.bool v12.1)), (152, .p (.bool false))] [(4, gF), (5, gF), (6, gF), (7, bF), (9, gF), (10, gF), (11, gF), (12, gT), (13, gT), (14, {g := some false, b := some true}), (15, gF), (16, bF), (18, gF), (19, gF), (20, bF), (22, gF), (23, gF), (24, gF), (25, gF), (26, {g := some false, b := some false}), (27, bF)] (B6 ha4 ha4 ha4 ha4 ha5 ha5 (B6 ha5 ha6 ha6 ha5 ha6 ha5 (B6 ha5 ha7 ha7 ha7 ha8 ha8 (A5 ha9 ha9 ha8 ha9 ha8))))) (by (try rw [ha4]); (try rw [ha5]); (try rw [ha6]); (try rw [ha7]); (try rw [ha8]); (try rw [ha9]); all_goals (first | rfl | simp [ha4, ha5, ha6, ha7, ha8, ha9]))
            ·rcases ft (!(v12.1 == false)) with ha7 | ha7
             ·exact RegOk.of_eq (l2 := [(1, .d false [.sl none (a1.map (eU .u8))]), (12, .ov false [.sl (some 26) (v10.map (eO 3 eI))]), (15, .p (.bool v12.1)), (152, .p (.bool ((!(v28.2 == v29.2)) || ((v28.1 != v29.1) || (if v28.2 then ((!(v12.1 == (v29.1 == 0))) || ((!v30.2) || (v12.1 && (v30.1 != 0)))) else ((!(v12.1 == false)) || ((!v30.2) || (v12.1 && (v30.1 != 0)))))))))]) (r_gq [(1, .d false [.sl none (a1.map (eU .u8))]), (12, .ov false [.sl (some 26) (v10.map (eO 3 eI))]), (15, .p (.bool v12.1)), (152, .p (.bool true))] [(4, gF), (5, gF), (6, gF), (7, bF), (9, gF), (10, gF), (11, gF), (12, gF), (13, gF), (14, {g := some false, b := some false}), (15, gF), (16, bF), (18, gT), (19, gT), (20, bT), (22, gT), (23, gT), (26, gT), (27, bT)] (B6 ha4 ha4 ha4 ha4 ha5 ha5 (B6 ha5 ha6 ha6 ha5 ha6 ha5 (B6 ha5 ha7 ha7 ha7 (show true = true from rfl) (show true = true from rfl) (A2 (show true = true from rfl) (show true = true from rfl)))))) (by (try rw [ha4]); (try rw [ha5]); (try rw [ha6]); (try rw [ha7]); all_goals (first | rfl | simp [ha4, ha5, ha6, ha7]))
             ·rcases ft (!v30.2) with ha8 | ha8
              ·exact RegOk.of_eq (l2 := [(1, .d false [.sl none (a1.map (eU .u8))]), (12, .ov false [.sl (some 26) (v10.map (eO 3 eI))]), (15, .p (.bool v12.1)), (152, .p (.bool ((!(v28.2 == v29.2)) || ((v28.1 != v29.1) || (if v28.2 then ((!(v12.1 == (v29.1 == 0))) || ((!v30.2) || (v12.1 && (v30.1 != 0)))) else ((!(v12.1 == false)) || ((!v30.2) || (v12.1 && (v30.1 != 0)))))))))]) (r_gq [(1, .d false [.sl none (a1.map (eU .u8))]), (12, .ov false [.sl (some 26) (v10.map (eO 3 eI))]), (15, .p (.bool v12.1)), (152, .p (.bool true))] [(4, gF), (5, gF), (6, gF), (7, bF), (9, gF), (10, gF), (11, gF), (12, gF), (13, gF), (14, {g := some false, b := some false}), (15, gF), (16, bF), (18, gF), (19, gF), (20, bF), (22, gT), (23, gT), (26, gT), (27, bT)] (B6 ha4 ha4 ha4 ha4 ha5 ha5 (B6 ha5 ha6 ha6 ha5 ha6 ha5 (B6 ha5 ha7 ha7 ha7 ha8 ha8 (A2 ha8 ha8))))) (by (try rw [ha4]); (try rw [ha5]); (try rw [ha6]); (try rw [ha7]); (try rw [ha8]); all_goals (first | rfl | simp [ha4, ha5, ha6, ha7, ha8]))
              ·rcases ft v12.1 with ha9 | ha9
               ·exact RegOk.of_eq (l2 := [(1, .d false [.sl none (a1.map (eU .u8))]), (12, .ov false [.sl (some 26) (v10.map (eO 3 eI))]), (15, .p (.bool v12.1)), (152, .p (.bool ((!(v28.2 == v29.2)) || ((v28.1 != v29.1) || (if v28.2 then ((!(v12.1 == (v29.1 == 0))) || ((!v30.2) || (v12.1 && (v30.1 != 0)))) else ((!(v12.1 == false)) || ((!v30.2) || (v12.1 && (v30.1 != 0)))))))))]) (r_gq [(1, .d false [.sl none (a1.map (eU .u8))]), (12, .ov false [.sl (some 26) (v10.map (eO 3 eI))]), (15, .p (.bool v12.1)), (152, .p (.bool (v30.1 != 0)))] [(4, gF), (5, gF), (6, gF), (7, bF), (9, gF), (10, gF), (11, gF), (12, gF), (13, gF), (14, {g := some false, b := some false}), (15, gF), (16, bF), (18, gF), (19, gF), (20, bF), (22, gF), (23, gF), (24, gT), (25, gT), (26, {g := some false, b := some true}), (27, bF)] (B6 ha4 ha4 ha4 ha4 ha5 ha5 (B6 ha5 ha6 ha6 ha5 ha6 ha5 (B6 ha5 ha7 ha7 ha7 ha8 ha8 (A5 ha9 ha9 ha8 ha9 ha8))))) (by (try rw [ha4]); (try rw [ha5]); (try rw [ha6]); (try rw [ha7]); (try rw [ha8]); (try rw [ha9]); all_goals (first | rfl | simp [ha4, ha5, ha6, ha7, ha8, ha9]))
               ·exact RegOk.of_eq (l2 := [(1, .d false [.sl none (a1.map (eU .u8))]), (12, .ov false [.sl (some 26) (v10.map (eO 3 eI))]), (15, .p (.bool v12.1)), (152, .p (.bool ((!(v28.2 == v29.2)) || ((v28.1 != v29.1) || (if v28.2 then ((!(v12.1 == (v29.1 == 0))) || ((!v30.2) || (v12.1 && (v30.1 != 0)))) else ((!(v12.1 == false)) || ((!v30.2) || (v12.1 && (v30.1 != 0)))))))))]) (r_gq [(1, .d false [.sl none (a1.map (eU .u8))]), (12, .ov false [.sl (some 26) (v10.map (eO 3 eI))]), (15, .p (.bool v12.1)), (152, .p (.bool false))] [(4, gF), (5, gF), (6, gF), (7, bF), (9, gF), (10, gF), (11, gF), (12, gF), (13, gF), (14, {g := some false, b := some false}), (15, gF), (16, bF), (18, gF), (19, gF), (20, bF), (22, gF), (23, gF), (24, gF), (25, gF), (26, {g := some false, b := some false}), (27, bF)] (B6 ha4 ha4 ha4 ha4 ha5 ha5 (B6 ha5 ha6 ha6 ha5 ha6 ha5 (B6 ha5 ha7 ha7 ha7 ha8 ha8 (A5 ha9 ha9 ha8 ha9 ha8))))) (by (try rw [ha4]); (try rw [ha5]); (try rw [ha6]); (try rw [ha7]); (try rw [ha8]); (try rw [ha9]); all_goals (first | rfl | simp [ha4, ha5, ha6, ha7, ha8, ha9]))
         ·refine kc ((!(v28.2 == v29.2)) || ((v28.1 != v29.1) || (if v28.2 then ((!(v12.1 == (v29.1 == 0))) || ((!v30.2) || (v12.1 && (v30.1 != 0)))) else ((!(v12.1 == false)) || ((!v30.2) || (v12.1 && (v30.1 != 0))))))) (fun hc3_30 => ?_) (fun hc3_30 => ?_)
          ·replace h := ite_t hc3_30 h
           refine k_sreg (r_gq [(4, .p (.bool false))] [] trivial) ?_
           refine k_ret ?_
           refine q_r ?_
           refine q_r ?_
           obtain rfl := oi h
           exact er [(.p (.bool false), 4)]
          ·replace h := ite_f hc3_30 h
           refine k_skip ?_
           refine q_n ?_
           refine k_sreg (r_gq [(1, .d false [.sl none (a1.map (eU .u8))]), (12, .ov false [.sl (some 26) (v10.map (eO 3 eI))]), (153, .p (.bool v12.1))] [] trivial) ?_
           refine kc v12.1 (fun hc2_31 => ?_) (fun hc2_31 => ?_)
           ·replace h := ite_t hc2_31 h
            replace h := bs h
            obtain ⟨v33, hv33, h⟩ := h
            refine k_sreg (r_gq [(1, .d false [.sl none (a1.map (eU .u8))]), (23, .ov false [.sl (some 3) (v33.1.map eI)]), (24, .p (.bool v33.2))] [(1, {call := some (some [.d false [.sl none (v10.map (eF eI))]], [.ov false [.sl (some 3) (v33.1.map eI)], .p (.bool v33.2)], true)})] (A3 (show ([.d false [.sl none (eraL (v10.map (eO 3 eI)))]] : List Arg) = [.d false [.sl none (v10.map (eF eI))]] from (by simp only [eraL_enc (h := (eF eI)) (era_O er_I)])) (wk_impl_ZetaDenominator hv33) (show List.all [.ov false [.sl (some 3) (v33.1.map eI)], .p (.bool v33.2)] simpleR = true from (sa_o (wnR1 (wnL_enc wn_I) rfl) (sa_p rfl))))) ?_
            replace h := bs h
            obtain ⟨w35, hw35, h⟩ := h
            refine k_sreg (l1 := [(1, .d false [.sl none (a1.map (eU .u8))]), (166, .p (.bool w35))]) ?_ ?_
            ·clear h
             rcases ft (!v33.2) with ha6 | ha6
             ·replace hw35 := ite_t ha6 hw35
              have hw35 := oi hw35
              subst hw35
              exact (r_gq [(1, .d false [.sl none (a1.map (eU .u8))]), (166, .p (.bool true))] [(3, gT), (4, gT), (5, gT), (6, gT), (7, bT)] (A5 ha6 ha6 ha6 ha6 ha6))
             ·replace hw35 := ite_f ha6 hw35
              replace hw35 := bs hw35
              obtain ⟨v34, hv34, hw35⟩ := hw35
              have hw35 := oi hw35
              subst hw35
              exact (r_gq [(1, .d false [.sl none (a1.map (eU .u8))]), (166, .p (.bool (!v34)))] [(3, gF), (4, gF), (5, {g := some false, call := some (some [.d false [.sl none (v33.1.map eI)], .d false [.sl none (([1]).map eI)]], [.p (.bool v34)], true)}), (6, gF), (7, bF)] (B6 ha6 ha6 ha6 (show ([.d false [.sl none (eraL (v33.1.map eI))], .d false [.sl none (eraL (([1]).map eI))]] : List Arg) = [.d false [.sl none (v33.1.map eI)], .d false [.sl none (([1]).map eI)]] from (by simp only [eraL_enc (h := eI) er_I, eraL_enc (h := eI) er_I])) (wk_laws_sameInts hv34) ha6 (A1 ha6)))
            ·refine kc w35 (fun hc2_35 => ?_) (fun hc2_35 => ?_)
             ·replace h := ite_t hc2_35 h
              refine k_sreg (r_gq [(4, .p (.bool false))] [] trivial) ?_
              refine k_ret ?_
              refine q_r ?_
              obtain rfl := oi h
              exact er [(.p (.bool false), 4)]
             ·replace h := ite_f hc2_35 h
              refine k_skip ?_
              refine q_n ?_
              exact jx () h
           ·replace h := ite_f hc2_31 h
            refine k_skip ?_
            refine q_n ?_
            exact jx () h
        ·replace h := ite_f hc2_26 h
         refine k_skip ?_
         refine q_n ?_
         exact jx () h
    ·refine k_sreg (r_gq [(1, .d false [.sl none (a1.map (eU .u8))]), (5, .ov false [.sl (some 3) (v3.map eI)]), (6, .ov false [.sl (some 26) (v4.1.map (eO 3 eI))]), (66, .p (.bool v4.2))] [] trivial) ?_
     refine kc v4.2 (fun hc2_36 => ?_) (fun hc2_36 => ?_)
     ·replace h := ite_t hc2_36 h
      replace h := bs h
      obtain ⟨v38, hv38, h⟩ := h
      refine k_sreg (r_gq [(1, .d false [.sl none (a1.map (eU .u8))]), (5, .ov false [.sl (some 3) (v3.map eI)]), (6, .ov false [.sl (some 26) (v4.1.map (eO 3 eI))]), (10, .ov false [.sl (some 3) (v38.1.map eI)]), (11, .p (.bool v38.2))] [(1, {call := some (some [.d false [.sl none (v4.1.map (eF eI))]], [.ov false [.sl (some 3) (v38.1.map eI)], .p (.bool v38.2)], true)})] (A3 (show ([.d false [.sl none (eraL (v4.1.map (eO 3 eI)))]] : List Arg) = [.d false [.sl none (v4.1.map (eF eI))]] from (by simp only [eraL_enc (h := (eF eI)) (era_O er_I)])) (wk_impl_CharacteristicOf hv38) (show List.all [.ov false [.sl (some 3) (v38.1.map eI)], .p (.bool v38.2)] simpleR = true from (sa_o (wnR1 (wnL_enc wn_I) rfl) (sa_p rfl))))) ?_
      replace h := bs h
      obtain ⟨w41, hw41, h⟩ := h
      refine k_sreg (l1 := [(1, .d false [.sl none (a1.map (eU .u8))]), (84, .p (.bool w41))]) ?_ ?_
      ·clear h
       rcases ft (!v38.2) with ha3 | ha3
       ·replace hw41 := ite_t ha3 hw41
        have hw41 := oi hw41
        subst hw41
        exact (r_gq [(1, .d false [.sl none (a1.map (eU .u8))]), (84, .p (.bool true))] [(3, gT), (4, gT), (5, gT), (6, gT), (7, bT), (9, gT), (10, gT), (11, gT), (12, bT)] (B6 ha3 ha3 ha3 ha3 ha3 (show true = true from rfl) (A3 (show true = true from rfl) (show true = true from rfl) (show true = true from rfl))))
       ·replace hw41 := ite_f ha3 hw41
        replace hw41 := bs hw41
        obtain ⟨v39, hv39, hw41⟩ := hw41
        rcases ft (!v39) with ha4 | ha4
        ·replace hw41 := ite_t ha4 hw41
         have hw41 := oi hw41
         subst hw41
         exact (r_gq [(1, .d false [.sl none (a1.map (eU .u8))]), (84, .p (.bool true))] [(3, gF), (4, gF), (5, {g := some false, call := some (some [.d false [.sl none (v38.1.map eI)], .d false [.sl none (v3.map eI)]], [.p (.bool v39)], true)}), (6, gF), (7, bF), (9, gT), (10, gT), (11, gT), (12, bT)] (B6 ha3 ha3 ha3 (show ([.d false [.sl none (eraL (v38.1.map eI))], .d false [.sl none (eraL (v3.map eI))]] : List Arg) = [.d false [.sl none (v38.1.map eI)], .d false [.sl none (v3.map eI)]] from (by simp only [eraL_enc (h := eI) er_I, eraL_enc (h := eI) er_I])) (wk_laws_sameInts hv39) ha3 (A5 ha3 ha4 ha4 ha4 ha4)))
        ·replace hw41 := ite_f ha4 hw41
         replace hw41 := bs hw41
         obtain ⟨v40, hv40, hw41⟩ := hw41
         have hw41 := oi hw41
         subst hw41
         exact (r_gq [(1, .d false [.sl none (a1.map (eU .u8))]), (84, .p (.bool (!v40)))] [(3, gF), (4, gF), (5, {g := some false, call := some (some [.d false [.sl none (v38.1.map eI)], .d false [.sl none (v3.map eI)]], [.p (.bool v39)], true)}), (6, gF), (7, bF), (9, gF), (10, {g := some false, call := some (some [.d false [.sl none (v4.1.map (eF eI))]], [.p (.bool v40)], true)}), (11, gF), (12, bF)] (B6 ha3 ha3 ha3 (show ([.d false [.sl none (eraL (v38.1.map eI))], .d false [.sl none (eraL (v3.map eI))]] : List Arg) = [.d false [.sl none (v38.1.map eI)], .d false [.sl none (v3.map eI)]] from (by simp only [eraL_enc (h := eI) er_I, eraL_enc (h := eI) er_I])) (wk_laws_sameInts hv39) ha3 (B6 ha3 ha4 ha4 (show ([.d false [.sl none (eraL (v4.1.map (eO 3 eI)))]] : List Arg) = [.d false [.sl none (v4.1.map (eF eI))]] from (by simp only [eraL_enc (h := (eF eI)) (era_O er_I)])) (wk_impl_IsGraph hv40) ha4 (A1 ha4))))
      ·refine kc w41 (fun hc2_41 => ?_) (fun hc2_41 => ?_)
       ·replace h := ite_t hc2_41 h
        refine k_sreg (r_gq [(4, .p (.bool false))] [] trivial) ?_
        refine k_ret ?_
        refine q_r ?_
        obtain rfl := oi h
        exact er [(.p (.bool false), 4)]
       ·replace h := ite_f hc2_41 h
        refine k_skip ?_
        refine q_n ?_
        exact jx () h
     ·replace h := ite_f hc2_36 h
      refine k_skip ?_
      refine q_n ?_
      exact jx () h
end Go.PV

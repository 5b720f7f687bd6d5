/-
  Walks through the functions that the law reaches: each answers as its plain definition does.
  Conditions: none.
-/
import Derived.KernelRfl
import Derived.Test.YtbdedaimgddjoaaDf
import Derived.Test.YtbdedaimgddjoaaProg
import Derived.Test.YtbdedaimgddjoaaPvCx
open Go Go.PV Go.Proofs
set_option linter.all false
namespace Go.PV
attribute [local irreducible] pvC pvL pvD sOp seqQ blockQ Meets MeetsB Ok OkL RegOk agree endQ seqL blockL loopQ endL endLB
theorem Try_mixed : Try.prog.follows .mixedOrders = true := by kernel_rfl
theorem Try_und3 : Try.prog.underlying 3 = some (.int .i64) := by kernel_rfl
theorem Try_und72 : Try.prog.underlying 72 = some (.int .u64) := by kernel_rfl
theorem wk_laws_szIntS {a0 : (List Int)} {a1 : Int}  {r : Int} (h : laws_szIntS a0 a1 = some r) : Meets Try.prog 58 [.d false [.sl none (a0.map eI)], wI a1] { vals := [.p (iV r)] } := by
 refine mo Try.func58 [(0, .d false [.sl none (a0.map eI)]), (1, .p (iV a1))] ?_
 unfold laws_szIntS at h
 refine k_sreg (r_gq [(0, .d false [.sl none (a0.map eI)]), (1, .p (iV a1))] [] trivial) ?_
 refine k_sreg (r_gq [(1, .p (iV (w64 (a1 - (a0.length : Int)))))] [(2, {n := some a0.length})] (A1 (show (a0.map eI).length = a0.length from (List.length_map ..)))) ?_
 refine k_seq ?_
 refine k_sreg (r_gq [(1, .p (iV (w64 (a1 - (a0.length : Int))))), (10, .p (.bool (decide ((w64 (a1 - (a0.length : Int))) < 0))))] [] trivial) ?_
 refine kc (decide ((w64 (a1 - (a0.length : Int))) < 0)) (fun hc2_0 => ?_) (fun hc2_0 => ?_)
 ·replace h := ite_t hc2_0 h
  refine k_sreg (r_gq [(4, .p (iV (-1)))] [] trivial) ?_
  refine k_ret ?_
  refine q_r ?_
  obtain rfl := oi h
  exact er [(.p (iV (-1)), 4)]
 ·replace h := ite_f hc2_0 h
  refine k_skip ?_
  refine q_n ?_
  refine k_sreg (r_gq [(4, .p (iV (w64 (a1 - (a0.length : Int)))))] [] trivial) ?_
  refine k_ret ?_
  obtain rfl := oi h
  exact er [(.p (iV (w64 (a1 - (a0.length : Int)))), 4)]
theorem wk_laws_szIntSS {a0 : (List (List Int))} {a1 : Int}  {r : Int} (h : laws_szIntSS a0 a1 = some r) : Meets Try.prog 23 [.d false [.sl none (a0.map (eF eI))], wI a1] { vals := [.p (iV r)] } := by
 refine mo Try.func23 [(0, .d false [.sl none (a0.map (eF eI))]), (1, .p (iV a1))] ?_
 unfold laws_szIntSS at h
 refine k_sreg (r_gq [(0, .d false [.sl none (a0.map (eF eI))]), (1, .p (iV a1))] [] trivial) ?_
 refine k_sreg (r_gq [(0, .d false [.sl none (a0.map (eF eI))]), (1, .p (iV (w64 (a1 - (a0.length : Int)))))] [(2, {n := some a0.length})] (A1 (show (a0.map (eF eI)).length = a0.length from (List.length_map ..)))) ?_
 refine k_seq ?_
 refine k_sreg (r_gq [(0, .d false [.sl none (a0.map (eF eI))]), (1, .p (iV (w64 (a1 - (a0.length : Int))))), (11, .p (.bool (decide ((w64 (a1 - (a0.length : Int))) < 0))))] [] trivial) ?_
 refine kc (decide ((w64 (a1 - (a0.length : Int))) < 0)) (fun hc2_0 => ?_) (fun hc2_0 => ?_)
 ·replace h := ite_t hc2_0 h
  refine k_sreg (r_gq [(4, .p (iV (-1)))] [] trivial) ?_
  refine k_ret ?_
  refine q_r ?_
  obtain rfl := oi h
  exact er [(.p (iV (-1)), 4)]
 ·replace h := ite_f hc2_0 h
  refine k_skip ?_
  refine q_n ?_
  refine k_join (J := fun (x : Int) => [(1, .p (iV x))]) (K := fun x => laws_szIntSS_k1 x = some r) (fun x2 h => ?_) ?_
  ·unfold laws_szIntSS_k1 at h
   refine k_sreg (r_gq [(4, .p (iV x2))] [] trivial) ?_
   refine k_ret ?_
   obtain rfl := oi h
   exact er [(.p (iV x2), 4)]
  ·refine k_sreg (r_gq [(0, .d false [.sl none (a0.map (eF eI))]), (1, .p (iV (w64 (a1 - (a0.length : Int))))), (5, .p (iV 0))] [] trivial) ?_
   refine k_block ?_
   obtain ⟨y4, hl_x3, hk_x3⟩ := bs h
   clear h
   refine k_loop (J := fun (x : Qr) => [(0, .d false [.sl none (a0.map (eF eI))]), (1, .p (iV x.1)), (5, .p (iV x.2))]) hl_x3 (wk_of (by kernel_rfl) (by kernel_rfl)) (fun x3 o_x3 h hy_x3 => ?_)
   unfold laws_szIntSS_b1 at h
   refine k_seq ?_
   refine k_sreg (r_gq [(0, .d false [.sl none (a0.map (eF eI))]), (1, .p (iV x3.1)), (5, .p (iV x3.2)), (15, .p (.bool (decide (x3.2 < (a0.length : Int)))))] [(2, {n := some a0.length})] (A1 (show (a0.map (eF eI)).length = a0.length from (List.length_map ..)))) ?_
   refine kc (decide (x3.2 < (a0.length : Int))) (fun hc5_4 => ?_) (fun hc5_4 => ?_)
   ·replace h := ite_t hc5_4 h
    refine k_skip ?_
    refine q_n ?_
    refine k_seq ?_
    refine k_block ?_
    replace h := bs h
    obtain ⟨v6, hv6, h⟩ := h
    replace h := bs h
    obtain ⟨v7, hv7, h⟩ := h
    refine k_sreg (r_gq [(0, .d false [.sl none (a0.map (eF eI))]), (1, .p (iV v7)), (5, .p (iV x3.2))] [(2, {row := some [.sl none (v6.map eI)]}), (5, {call := some (none, [.p (iV v7)], true)})] (A3 (idxO_some hv6).1 (map_get (eF eI) (idxO_some hv6).2) (wk_laws_szIntS hv7))) ?_
    refine k_sreg (r_gq [(0, .d false [.sl none (a0.map (eF eI))]), (1, .p (iV v7)), (5, .p (iV x3.2)), (25, .p (.bool (decide (v7 < 0))))] [] trivial) ?_
    refine kc (decide (v7 < 0)) (fun hc6_7 => ?_) (fun hc6_7 => ?_)
    ·replace h := ite_t hc6_7 h
     refine k_sreg (r_gq [(4, .p (iV (-1)))] [] trivial) ?_
     refine k_ret ?_
     refine b_r ?_
     refine q_r ?_
     refine lq_r ?_
     refine b_r ?_
     refine q_r ?_
     have hyy := hy_x3 _ (oi h).symm
     subst hyy
     have h := hk_x3
     dsimp only [Sum.elim] at h
     obtain rfl := oi h
     exact er [(.p (iV (-1)), 4)]
    ·replace h := ite_f hc6_7 h
     refine k_skip ?_
     refine b_n ?_
     refine q_n ?_
     refine k_reg (r_gq [(0, .d false [.sl none (a0.map (eF eI))]), (1, .p (iV v7)), (5, .p (iV (w64 (x3.2 + 1))))] [] trivial) ?_
     exact lqn (v7, (w64 (x3.2 + 1))) h
   ·replace h := ite_f hc5_4 h
    refine k_exit ?_
    refine q_x ?_
    refine lq_x ?_
    refine b_x ?_
    have hyy := hy_x3 _ (oi h).symm
    subst hyy
    have h := hk_x3
    dsimp only [Sum.elim] at h
    refine q_n ?_
    exact jx x3.1 h
theorem wk_laws_toIntS {a0 : (List Int)}  {r : (List Int)} (h : laws_toIntS a0 = some r) : Meets Try.prog 16 [.d false [.sl none (a0.map eI)]] { vals := [.ov false [.sl (some 3) (r.map eI)]] } := by
 refine mo Try.func16 [(0, .d false [.sl none (a0.map eI)])] ?_
 unfold laws_toIntS at h
 refine k_sreg (r_gq [(0, .d false [.sl none (a0.map eI)])] [] trivial) ?_
 replace h := bs h
 obtain ⟨u1, hu1, h⟩ := h
 refine k_sreg (r_gq [(0, .d false [.sl none (a0.map eI)]), (3, .ov false [.sl (some 3) ((List.replicate (Int.toNat (a0.length : Int)) (0 : Int)).map eI)])] [(1, {n := some a0.length}), (2, {fix := some (7, .ov false [.sl (some 3) ((List.replicate (Int.toNat (a0.length : Int)) (0 : Int)).map eI)])})] (A5 (show (a0.map eI).length = a0.length from (List.length_map ..)) (show (a0.length : Int) = (a0.length : Int) from rfl) (guardO_some hu1).1 (guardO_some hu1).2 (show (SV.ov false [.sl (some 3) (List.replicate (Int.toNat (a0.length : Int)) [rI 0])] : SV) = .ov false [.sl (some 3) ((List.replicate (Int.toNat (a0.length : Int)) (0 : Int)).map eI)] from (congrArg (fun z => SV.ov false [.sl (some 3) z]) (rep_fix eI (0 : Int)))))) ?_
 refine k_join (J := fun (x : (List Int)) => [(3, .ov false [.sl (some 3) (x.map eI)])]) (K := fun x => laws_toIntS_k1 x = some r) (fun x2 h => ?_) ?_
 ·unfold laws_toIntS_k1 at h
  refine k_sreg (r_gq [(2, .ov false [.sl (some 3) (x2.map eI)])] [] trivial) ?_
  refine k_ret ?_
  obtain rfl := oi h
  exact er [(.ov false [.sl (some 3) (x2.map eI)], 2)]
 ·refine k_sreg (r_gq [(0, .d false [.sl none (a0.map eI)]), (3, .ov false [.sl (some 3) ((List.replicate (Int.toNat (a0.length : Int)) (0 : Int)).map eI)]), (4, .p (iV 0))] [] trivial) ?_
  refine k_block ?_
  obtain ⟨y4, hl_x3, hk_x3⟩ := bs h
  clear h
  refine k_loop (J := fun (x : ((List Int) × Int)) => [(0, .d false [.sl none (a0.map eI)]), (3, .ov false [.sl (some 3) (x.1.map eI)]), (4, .p (iV x.2))]) hl_x3 (wk_of (by kernel_rfl) (by kernel_rfl)) (fun x3 o_x3 h hy_x3 => ?_)
  unfold laws_toIntS_b1 at h
  refine k_seq ?_
  refine k_sreg (r_gq [(0, .d false [.sl none (a0.map eI)]), (3, .ov false [.sl (some 3) (x3.1.map eI)]), (4, .p (iV x3.2)), (11, .p (.bool (decide (x3.2 < (a0.length : Int)))))] [(2, {n := some a0.length})] (A1 (show (a0.map eI).length = a0.length from (List.length_map ..)))) ?_
  refine kc (decide (x3.2 < (a0.length : Int))) (fun hc5_4 => ?_) (fun hc5_4 => ?_)
  ·replace h := ite_t hc5_4 h
   refine k_skip ?_
   refine q_n ?_
   refine k_seq ?_
   refine k_block ?_
   replace h := bs h
   obtain ⟨v6, hv6, h⟩ := h
   replace h := bs h
   obtain ⟨v7, hv7, h⟩ := h
   refine k_reg (r_gq [(0, .d false [.sl none (a0.map eI)]), (3, .ov false [.sl (some 3) ((x3.1.set (Int.toNat x3.2) v6).map eI)]), (4, .p (iV x3.2))] [(4, {row := some (eI v6)}), (6, {row := some (eI v7)}), (7, {row := some (eI v7), fix := some (3, .ov false [.sl (some 3) ((x3.1.set (Int.toNat x3.2) v6).map eI)])})] (A6 (idxO_some hv6).1 (map_get eI (idxO_some hv6).2) (idxO_some hv7).1 (map_get eI (idxO_some hv7).2) (show getRow [[.sl (some 3) (x3.1.map eI)]] [(0, 0), ((Int.toNat x3.2), 0)] = some (eI v7) from ((gr0 rfl).trans (gre (map_get eI (idxO_some hv7).2)))) (show (SV.ov false [.sl (some 3) (setL (x3.1.map eI) [((Int.toNat x3.2), 0)] (eI v6))] : SV) = .ov false [.sl (some 3) ((x3.1.set (Int.toNat x3.2) v6).map eI)] from (congrArg (fun z => SV.ov false [.sl (some 3) z]) (set1 (f := eI) (y := v6) (idxO_some hv7).2 rfl))))) ?_
   refine b_n ?_
   refine q_n ?_
   refine k_reg (r_gq [(0, .d false [.sl none (a0.map eI)]), (3, .ov false [.sl (some 3) ((x3.1.set (Int.toNat x3.2) v6).map eI)]), (4, .p (iV (w64 (x3.2 + 1))))] [] trivial) ?_
   exact lqn ((x3.1.set (Int.toNat x3.2) v6), (w64 (x3.2 + 1))) h
  ·replace h := ite_f hc5_4 h
   refine k_exit ?_
   refine q_x ?_
   refine lq_x ?_
   refine b_x ?_
   have hyy := hy_x3 _ (oi h).symm
   subst hyy
   have h := hk_x3
   refine q_n ?_
   exact jx x3.1 h
theorem wk_laws_toIntSS {a0 : (List (List Int))}  {r : (List (List Int))} (h : laws_toIntSS a0 = some r) : Meets Try.prog 25 [.d false [.sl none (a0.map (eF eI))]] { vals := [.ov false [.sl (some 22) (r.map (eO 3 eI))]] } := by
 refine mo Try.func25 [(0, .d false [.sl none (a0.map (eF eI))])] ?_
 unfold laws_toIntSS at h
 refine k_sreg (r_gq [(0, .d false [.sl none (a0.map (eF eI))])] [] trivial) ?_
 replace h := bs h
 obtain ⟨u1, hu1, h⟩ := h
 refine k_sreg (r_gq [(0, .d false [.sl none (a0.map (eF eI))]), (3, .ov false [.sl (some 22) ((List.replicate (Int.toNat (a0.length : Int)) ([] : (List Int))).map (eO 3 eI))])] [(1, {n := some a0.length}), (2, {fix := some (7, .ov false [.sl (some 22) ((List.replicate (Int.toNat (a0.length : Int)) ([] : (List Int))).map (eO 3 eI))])})] (A5 (show (a0.map (eF eI)).length = a0.length from (List.length_map ..)) (show (a0.length : Int) = (a0.length : Int) from rfl) (guardO_some hu1).1 (guardO_some hu1).2 (show (SV.ov false [.sl (some 22) (List.replicate (Int.toNat (a0.length : Int)) [.sl (some 3) []])] : SV) = .ov false [.sl (some 22) ((List.replicate (Int.toNat (a0.length : Int)) ([] : (List Int))).map (eO 3 eI))] from (congrArg (fun z => SV.ov false [.sl (some 22) z]) (rep_fix (eO 3 eI) ([] : (List Int))))))) ?_
 refine k_join (J := fun (x : (List (List Int))) => [(3, .ov false [.sl (some 22) (x.map (eO 3 eI))])]) (K := fun x => laws_toIntSS_k1 x = some r) (fun x2 h => ?_) ?_
 ·unfold laws_toIntSS_k1 at h
  refine k_sreg (r_gq [(2, .ov false [.sl (some 22) (x2.map (eO 3 eI))])] [] trivial) ?_
  refine k_ret ?_
  obtain rfl := oi h
  exact er [(.ov false [.sl (some 22) (x2.map (eO 3 eI))], 2)]
 ·refine k_sreg (r_gq [(0, .d false [.sl none (a0.map (eF eI))]), (3, .ov false [.sl (some 22) ((List.replicate (Int.toNat (a0.length : Int)) ([] : (List Int))).map (eO 3 eI))]), (4, .p (iV 0))] [] trivial) ?_
  refine k_block ?_
  obtain ⟨y4, hl_x3, hk_x3⟩ := bs h
  clear h
  refine k_loop (J := fun (x : ((List (List Int)) × Int)) => [(0, .d false [.sl none (a0.map (eF eI))]), (3, .ov false [.sl (some 22) (x.1.map (eO 3 eI))]), (4, .p (iV x.2))]) hl_x3 (wk_of (by kernel_rfl) (by kernel_rfl)) (fun x3 o_x3 h hy_x3 => ?_)
  unfold laws_toIntSS_b1 at h
  refine k_seq ?_
  refine k_sreg (r_gq [(0, .d false [.sl none (a0.map (eF eI))]), (3, .ov false [.sl (some 22) (x3.1.map (eO 3 eI))]), (4, .p (iV x3.2)), (11, .p (.bool (decide (x3.2 < (a0.length : Int)))))] [(2, {n := some a0.length})] (A1 (show (a0.map (eF eI)).length = a0.length from (List.length_map ..)))) ?_
  refine kc (decide (x3.2 < (a0.length : Int))) (fun hc5_4 => ?_) (fun hc5_4 => ?_)
  ·replace h := ite_t hc5_4 h
   refine k_skip ?_
   refine q_n ?_
   refine k_seq ?_
   refine k_block ?_
   replace h := bs h
   obtain ⟨v6, hv6, h⟩ := h
   replace h := bs h
   obtain ⟨v7, hv7, h⟩ := h
   replace h := bs h
   obtain ⟨v8, hv8, h⟩ := h
   refine k_reg (r_gq [(0, .d false [.sl none (a0.map (eF eI))]), (3, .ov false [.sl (some 22) ((x3.1.set (Int.toNat x3.2) v7).map (eO 3 eI))]), (4, .p (iV x3.2))] [(4, {row := some [.sl none (v6.map eI)]}), (6, {call := some (none, [.ov false [.sl (some 3) (v7.map eI)]], true)}), (7, {row := some [.sl (some 3) (v8.map eI)]}), (8, {row := some [.sl (some 3) (v8.map eI)], fix := some (3, .ov false [.sl (some 22) ((x3.1.set (Int.toNat x3.2) v7).map (eO 3 eI))])})] (B6 (idxO_some hv6).1 (map_get (eF eI) (idxO_some hv6).2) (wk_laws_toIntS hv7) (show List.all [.ov false [.sl (some 3) (v7.map eI)]] simpleR = true from (sa_o (wnR1 (wnL_enc wn_I) rfl) rfl)) (idxO_some hv8).1 (map_get (eO 3 eI) (idxO_some hv8).2) (A2 (show getRow [[.sl (some 22) (x3.1.map (eO 3 eI))]] [(0, 0), ((Int.toNat x3.2), 0)] = some [.sl (some 3) (v8.map eI)] from ((gr0 rfl).trans (gre (map_get (eO 3 eI) (idxO_some hv8).2)))) (show (SV.ov false [.sl (some 22) (setL (x3.1.map (eO 3 eI)) [((Int.toNat x3.2), 0)] [.sl (some 3) (v7.map eI)])] : SV) = .ov false [.sl (some 22) ((x3.1.set (Int.toNat x3.2) v7).map (eO 3 eI))] from (congrArg (fun z => SV.ov false [.sl (some 22) z]) (set1 (f := (eO 3 eI)) (y := v7) (idxO_some hv8).2 rfl)))))) ?_
   refine b_n ?_
   refine q_n ?_
   refine k_reg (r_gq [(0, .d false [.sl none (a0.map (eF eI))]), (3, .ov false [.sl (some 22) ((x3.1.set (Int.toNat x3.2) v7).map (eO 3 eI))]), (4, .p (iV (w64 (x3.2 + 1))))] [] trivial) ?_
   exact lqn ((x3.1.set (Int.toNat x3.2) v7), (w64 (x3.2 + 1))) h
  ·replace h := ite_f hc5_4 h
   refine k_exit ?_
   refine q_x ?_
   refine lq_x ?_
   refine b_x ?_
   have hyy := hy_x3 _ (oi h).symm
   subst hyy
   have h := hk_x3
   refine q_n ?_
   exact jx x3.1 h
theorem wk_spec_l1In {a0 : Int} {a1 : Int} {a2 : Int}  {r : Bool} (h : spec_l1In a0 a1 a2 = some r) : Meets Try.prog 86 [wI a0, wI a1, wI a2] { vals := [.p (.bool r)] } := by
 refine mo Try.func86 [(0, .p (iV a0)), (1, .p (iV a1)), (2, .p (iV a2))] ?_
 unfold spec_l1In at h
 refine k_sreg (r_gq [(0, .p (iV a0)), (1, .p (iV a1)), (2, .p (iV a2))] [] trivial) ?_
 refine k_sreg (l1 := [(6, .p (.bool ((decide (a0 ≥ a1)) && (decide (a0 ≤ a2)))))]) ?_ ?_
 ·rcases ft (decide (a0 ≥ a1)) with ha0 | ha0
  ·exact RegOk.of_eq (l2 := [(6, .p (.bool ((decide (a0 ≥ a1)) && (decide (a0 ≤ a2)))))]) (r_gq [(6, .p (.bool (decide (a0 ≤ a2))))] [(4, gT), (5, gT), (6, gT), (7, bT)] (A4 ha0 ha0 ha0 ha0)) (by simp [ha0])
  ·exact RegOk.of_eq (l2 := [(6, .p (.bool ((decide (a0 ≥ a1)) && (decide (a0 ≤ a2)))))]) (r_gq [(6, .p (.bool false))] [(4, gF), (5, gF), (6, gF), (7, bF)] (A4 ha0 ha0 ha0 ha0)) (by simp [ha0])
 ·refine k_ret ?_
  obtain rfl := oi h
  exact er [(.p (.bool ((decide (a0 ≥ a1)) && (decide (a0 ≤ a2)))), 6)]
theorem wk_spec_l1All {a0 : (List Int)} {a1 : Int} {a2 : Int}  {r : Bool} (h : spec_l1All a0 a1 a2 = some r) : Meets Try.prog 87 [.d false [.sl none (a0.map eI)], wI a1, wI a2] { vals := [.p (.bool r)] } := by
 refine mo Try.func87 [(0, .d false [.sl none (a0.map eI)]), (1, .p (iV a1)), (2, .p (iV a2))] ?_
 unfold spec_l1All at h
 refine k_sreg (r_gq [(0, .d false [.sl none (a0.map eI)]), (1, .p (iV a1)), (2, .p (iV a2))] [] trivial) ?_
 refine k_join (J := fun (x : Unit) => []) (K := fun x => spec_l1All_k1 x = some r) (fun x1 h => ?_) ?_
 ·unfold spec_l1All_k1 at h
  refine k_sreg (r_gq [(6, .p (.bool true))] [] trivial) ?_
  refine k_ret ?_
  obtain rfl := oi h
  exact er [(.p (.bool true), 6)]
 ·refine k_sreg (r_gq [(1, .p (iV a1)), (2, .p (iV a2)), (9, .d false [.sl none (a0.map eI)]), (10, .p (iV (a0.length : Int))), (11, .p (iV 0))] [(1, {n := some a0.length})] (A1 (show (a0.map eI).length = a0.length from (List.length_map ..)))) ?_
  refine k_block ?_
  obtain ⟨y3, hl_x2, hk_x2⟩ := bs h
  clear h
  refine k_loop (J := fun (x : Int) => [(1, .p (iV a1)), (2, .p (iV a2)), (9, .d false [.sl none (a0.map eI)]), (10, .p (iV (a0.length : Int))), (11, .p (iV x))]) hl_x2 (wk_of (by kernel_rfl) (by kernel_rfl)) (fun x2 o_x2 h hy_x2 => ?_)
  unfold spec_l1All_b1 at h
  refine k_sreg (r_gq [(1, .p (iV a1)), (2, .p (iV a2)), (9, .d false [.sl none (a0.map eI)]), (10, .p (iV (a0.length : Int))), (11, .p (iV x2)), (12, .p (.bool (decide (x2 < (a0.length : Int)))))] [] trivial) ?_
  refine k_seq ?_
  refine kc (decide (x2 < (a0.length : Int))) (fun hc5_3 => ?_) (fun hc5_3 => ?_)
  ·replace h := ite_t hc5_3 h
   refine k_skip ?_
   refine q_n ?_
   refine k_seq ?_
   refine k_block ?_
   replace h := bs h
   obtain ⟨v5, hv5, h⟩ := h
   refine k_sreg (r_gq [(1, .p (iV a1)), (2, .p (iV a2)), (8, .p (iV v5)), (9, .d false [.sl none (a0.map eI)]), (10, .p (iV (a0.length : Int))), (11, .p (iV x2))] [(0, {row := some (eI v5)})] (A2 (idxO_some hv5).1 (map_get eI (idxO_some hv5).2))) ?_
   replace h := bs h
   obtain ⟨v6, hv6, h⟩ := h
   refine k_sreg (r_gq [(1, .p (iV a1)), (2, .p (iV a2)), (9, .d false [.sl none (a0.map eI)]), (10, .p (iV (a0.length : Int))), (11, .p (iV x2)), (19, .p (.bool (!v6)))] [(3, {call := some (none, [.p (.bool v6)], true)})] (A1 (wk_spec_l1In hv6))) ?_
   refine kc (!v6) (fun hc6_6 => ?_) (fun hc6_6 => ?_)
   ·replace h := ite_t hc6_6 h
    refine k_sreg (r_gq [(6, .p (.bool false))] [] trivial) ?_
    refine k_ret ?_
    refine b_r ?_
    refine q_r ?_
    refine lq_r ?_
    refine b_r ?_
    refine q_r ?_
    have hyy := hy_x2 _ (oi h).symm
    subst hyy
    have h := hk_x2
    dsimp only [Sum.elim] at h
    obtain rfl := oi h
    exact er [(.p (.bool false), 6)]
   ·replace h := ite_f hc6_6 h
    refine k_skip ?_
    refine b_n ?_
    refine q_n ?_
    refine k_reg (r_gq [(1, .p (iV a1)), (2, .p (iV a2)), (9, .d false [.sl none (a0.map eI)]), (10, .p (iV (a0.length : Int))), (11, .p (iV (w64 (x2 + 1))))] [] trivial) ?_
    exact lqn (w64 (x2 + 1)) h
  ·replace h := ite_f hc5_3 h
   refine k_exit ?_
   refine q_x ?_
   refine lq_x ?_
   refine b_x ?_
   have hyy := hy_x2 _ (oi h).symm
   subst hyy
   have h := hk_x2
   dsimp only [Sum.elim] at h
   refine q_n ?_
   exact jx () h
theorem wk_spec_grGood {a0 : (List (List Int))}  {r : Bool} (h : spec_grGood a0 = some r) : Meets Try.prog 63 [.d false [.sl none (a0.map (eF eI))]] { vals := [.p (.bool r)] } := by
 refine mo Try.func63 [(0, .d false [.sl none (a0.map (eF eI))])] ?_
 unfold spec_grGood at h
 refine k_sreg (r_gq [(0, .d false [.sl none (a0.map (eF eI))])] [] trivial) ?_
 refine k_seq ?_
 replace h := bs h
 obtain ⟨v1, hv1, h⟩ := h
 refine k_sreg (r_gq [(0, .d false [.sl none (a0.map (eF eI))]), (8, .p (.bool (!v1)))] [(1, {n := some a0.length}), (2, {call := some (none, [.p (.bool v1)], true)})] (A2 (show (a0.map (eF eI)).length = a0.length from (List.length_map ..)) (wk_spec_l1In hv1))) ?_
 refine kc (!v1) (fun hc2_1 => ?_) (fun hc2_1 => ?_)
 ·replace h := ite_t hc2_1 h
  refine k_sreg (r_gq [(2, .p (.bool false))] [] trivial) ?_
  refine k_ret ?_
  refine q_r ?_
  obtain rfl := oi h
  exact er [(.p (.bool false), 2)]
 ·replace h := ite_f hc2_1 h
  refine k_skip ?_
  refine q_n ?_
  refine k_join (J := fun (x : Unit) => []) (K := fun x => spec_grGood_k1 x = some r) (fun x3 h => ?_) ?_
  ·unfold spec_grGood_k1 at h
   refine k_sreg (r_gq [(2, .p (.bool true))] [] trivial) ?_
   refine k_ret ?_
   obtain rfl := oi h
   exact er [(.p (.bool true), 2)]
  ·refine k_sreg (r_gq [(0, .d false [.sl none (a0.map (eF eI))]), (9, .d false [.sl none (a0.map (eF eI))]), (10, .p (iV (a0.length : Int))), (11, .p (iV 0))] [(1, {n := some a0.length})] (A1 (show (a0.map (eF eI)).length = a0.length from (List.length_map ..)))) ?_
   refine k_block ?_
   obtain ⟨y5, hl_x4, hk_x4⟩ := bs h
   clear h
   refine k_loop (J := fun (x : Int) => [(0, .d false [.sl none (a0.map (eF eI))]), (9, .d false [.sl none (a0.map (eF eI))]), (10, .p (iV (a0.length : Int))), (11, .p (iV x))]) hl_x4 (wk_of (by kernel_rfl) (by kernel_rfl)) (fun x4 o_x4 h hy_x4 => ?_)
   unfold spec_grGood_b1 at h
   refine k_sreg (r_gq [(0, .d false [.sl none (a0.map (eF eI))]), (9, .d false [.sl none (a0.map (eF eI))]), (10, .p (iV (a0.length : Int))), (11, .p (iV x4)), (12, .p (.bool (decide (x4 < (a0.length : Int)))))] [] trivial) ?_
   refine k_seq ?_
   refine kc (decide (x4 < (a0.length : Int))) (fun hc5_5 => ?_) (fun hc5_5 => ?_)
   ·replace h := ite_t hc5_5 h
    refine k_skip ?_
    refine q_n ?_
    refine k_seq ?_
    refine k_block ?_
    replace h := bs h
    obtain ⟨v7, hv7, h⟩ := h
    refine k_sreg (r_gq [(0, .d false [.sl none (a0.map (eF eI))]), (4, .d false [.sl none (v7.map eI)]), (9, .d false [.sl none (a0.map (eF eI))]), (10, .p (iV (a0.length : Int))), (11, .p (iV x4))] [(0, {row := some [.sl none (v7.map eI)]})] (A2 (idxO_some hv7).1 (map_get (eF eI) (idxO_some hv7).2))) ?_
    replace h := bs h
    obtain ⟨w9, hw9, h⟩ := h
    refine k_sreg (l1 := [(0, .d false [.sl none (a0.map (eF eI))]), (9, .d false [.sl none (a0.map (eF eI))]), (10, .p (iV (a0.length : Int))), (11, .p (iV x4)), (24, .p (.bool w9))]) ?_ ?_
    ·clear h
     rcases ft ((v7.length : Int) != (a0.length : Int)) with ha2 | ha2
     ·replace hw9 := ite_t ha2 hw9
      have hw9 := oi hw9
      subst hw9
      exact (r_gq [(0, .d false [.sl none (a0.map (eF eI))]), (9, .d false [.sl none (a0.map (eF eI))]), (10, .p (iV (a0.length : Int))), (11, .p (iV x4)), (24, .p (.bool true))] [(1, {n := some v7.length}), (3, {n := some a0.length}), (6, gT), (7, gT), (8, gT), (9, bT)] (A6 (show (v7.map eI).length = v7.length from (List.length_map ..)) (show (a0.map (eF eI)).length = a0.length from (List.length_map ..)) ha2 ha2 ha2 ha2))
     ·replace hw9 := ite_f ha2 hw9
      replace hw9 := bs hw9
      obtain ⟨v8, hv8, hw9⟩ := hw9
      have hw9 := oi hw9
      subst hw9
      exact (r_gq [(0, .d false [.sl none (a0.map (eF eI))]), (9, .d false [.sl none (a0.map (eF eI))]), (10, .p (iV (a0.length : Int))), (11, .p (iV x4)), (24, .p (.bool (!v8)))] [(1, {n := some v7.length}), (3, {n := some a0.length}), (6, gF), (7, {g := some false, call := some (none, [.p (.bool v8)], true)}), (8, gF), (9, bF)] (B6 (show (v7.map eI).length = v7.length from (List.length_map ..)) (show (a0.map (eF eI)).length = a0.length from (List.length_map ..)) ha2 ha2 (wk_spec_l1All hv8) ha2 (A1 ha2)))
    ·refine kc w9 (fun hc6_9 => ?_) (fun hc6_9 => ?_)
     ·replace h := ite_t hc6_9 h
      refine k_sreg (r_gq [(2, .p (.bool false))] [] trivial) ?_
      refine k_ret ?_
      refine b_r ?_
      refine q_r ?_
      refine lq_r ?_
      refine b_r ?_
      refine q_r ?_
      have hyy := hy_x4 _ (oi h).symm
      subst hyy
      have h := hk_x4
      dsimp only [Sum.elim] at h
      obtain rfl := oi h
      exact er [(.p (.bool false), 2)]
     ·replace h := ite_f hc6_9 h
      refine k_skip ?_
      refine b_n ?_
      refine q_n ?_
      refine k_reg (r_gq [(0, .d false [.sl none (a0.map (eF eI))]), (9, .d false [.sl none (a0.map (eF eI))]), (10, .p (iV (a0.length : Int))), (11, .p (iV (w64 (x4 + 1))))] [] trivial) ?_
      exact lqn (w64 (x4 + 1)) h
   ·replace h := ite_f hc5_5 h
    refine k_exit ?_
    refine q_x ?_
    refine lq_x ?_
    refine b_x ?_
    have hyy := hy_x4 _ (oi h).symm
    subst hyy
    have h := hk_x4
    dsimp only [Sum.elim] at h
    refine q_n ?_
    exact jx () h
theorem wk_spec_gwSteps {a0 : Int}  {r : Bool} (h : spec_gwSteps a0 = some r) : Meets Try.prog 74 [wI a0] { vals := [.p (.bool r)] } := by
 refine mo Try.func74 [(0, .p (iV a0))] ?_
 unfold spec_gwSteps at h
 refine k_sreg (r_gq [(0, .p (iV a0))] [] trivial) ?_
 replace h := bs h
 obtain ⟨v1, hv1, h⟩ := h
 refine k_sreg (r_gq [(2, .p (.bool v1))] [(1, {call := some (none, [.p (.bool v1)], true)})] (A1 (wk_spec_l1In hv1))) ?_
 refine k_ret ?_
 obtain rfl := oi h
 exact er [(.p (.bool v1), 2)]
theorem wk_spec_gwTimes {a0 : (List (List Int))} {a1 : (List Int)}  {r : (List Int)} (h : spec_gwTimes a0 a1 = some r) : Meets Try.prog 60 [.d false [.sl none (a0.map (eF eI))], .d false [.sl none (a1.map eI)]] { vals := [.ov false [.sl (some 3) (r.map eI)]] } := by
 refine mo Try.func60 [(0, .d false [.sl none (a0.map (eF eI))]), (1, .d false [.sl none (a1.map eI)])] ?_
 unfold spec_gwTimes at h
 refine k_sreg (r_gq [(0, .d false [.sl none (a0.map (eF eI))]), (1, .d false [.sl none (a1.map eI)])] [] trivial) ?_
 refine k_sreg (r_gq [(0, .d false [.sl none (a0.map (eF eI))]), (1, .d false [.sl none (a1.map eI)]), (5, .ov false [.sl (some 3) []])] [] trivial) ?_
 refine k_join (J := fun (x : (List Int)) => [(5, .ov false [.sl (some 3) (x.map eI)])]) (K := fun x => spec_gwTimes_k1 x = some r) (fun x1 h => ?_) ?_
 ·unfold spec_gwTimes_k1 at h
  refine k_sreg (r_gq [(4, .ov false [.sl (some 3) (x1.map eI)])] [] trivial) ?_
  refine k_ret ?_
  obtain rfl := oi h
  exact er [(.ov false [.sl (some 3) (x1.map eI)], 4)]
 ·refine k_sreg (r_gq [(1, .d false [.sl none (a1.map eI)]), (5, .ov false [.sl (some 3) []]), (11, .d false [.sl none (a0.map (eF eI))]), (12, .p (iV (a0.length : Int))), (13, .p (iV 0))] [(1, {n := some a0.length})] (A1 (show (a0.map (eF eI)).length = a0.length from (List.length_map ..)))) ?_
  refine k_block ?_
  obtain ⟨y3, hl_x2, hk_x2⟩ := bs h
  clear h
  refine k_loop (J := fun (x : ((List Int) × Int)) => [(1, .d false [.sl none (a1.map eI)]), (5, .ov false [.sl (some 3) (x.1.map eI)]), (11, .d false [.sl none (a0.map (eF eI))]), (12, .p (iV (a0.length : Int))), (13, .p (iV x.2))]) hl_x2 (wk_of (by kernel_rfl) (by kernel_rfl)) (fun x2 o_x2 h hy_x2 => ?_)
  unfold spec_gwTimes_b1 at h
  refine k_sreg (r_gq [(1, .d false [.sl none (a1.map eI)]), (5, .ov false [.sl (some 3) (x2.1.map eI)]), (11, .d false [.sl none (a0.map (eF eI))]), (12, .p (iV (a0.length : Int))), (13, .p (iV x2.2)), (14, .p (.bool (decide (x2.2 < (a0.length : Int)))))] [] trivial) ?_
  refine k_seq ?_
  refine kc (decide (x2.2 < (a0.length : Int))) (fun hc5_3 => ?_) (fun hc5_3 => ?_)
  ·replace h := ite_t hc5_3 h
   refine k_skip ?_
   refine q_n ?_
   refine k_join (J := fun (x : (List Int)) => [(1, .d false [.sl none (a1.map eI)]), (5, .ov false [.sl (some 3) (x.map eI)]), (11, .d false [.sl none (a0.map (eF eI))]), (12, .p (iV (a0.length : Int))), (13, .p (iV x2.2))]) (K := fun x => spec_gwTimes_k2 x2 x = some o_x2) (fun x5 h => ?_) ?_
   ·unfold spec_gwTimes_k2 at h
    refine k_reg (r_gq [(1, .d false [.sl none (a1.map eI)]), (5, .ov false [.sl (some 3) (x5.map eI)]), (11, .d false [.sl none (a0.map (eF eI))]), (12, .p (iV (a0.length : Int))), (13, .p (iV (w64 (x2.2 + 1))))] [] trivial) ?_
    exact lqn (x5, (w64 (x2.2 + 1))) h
   ·refine k_block ?_
    replace h := bs h
    obtain ⟨v6, hv6, h⟩ := h
    refine k_sreg (r_gq [(1, .d false [.sl none (a1.map eI)]), (5, .ov false [.sl (some 3) (x2.1.map eI)]), (7, .d false [.sl none (v6.map eI)]), (11, .d false [.sl none (a0.map (eF eI))]), (12, .p (iV (a0.length : Int))), (13, .p (iV x2.2))] [(0, {row := some [.sl none (v6.map eI)]})] (A2 (idxO_some hv6).1 (map_get (eF eI) (idxO_some hv6).2))) ?_
    refine k_sreg (r_gq [(1, .d false [.sl none (a1.map eI)]), (5, .ov false [.sl (some 3) (x2.1.map eI)]), (7, .d false [.sl none (v6.map eI)]), (8, .p (iV 0)), (11, .d false [.sl none (a0.map (eF eI))]), (12, .p (iV (a0.length : Int))), (13, .p (iV x2.2))] [] trivial) ?_
    refine k_join (J := fun (x : Int) => [(1, .d false [.sl none (a1.map eI)]), (5, .ov false [.sl (some 3) (x2.1.map eI)]), (8, .p (iV x)), (11, .d false [.sl none (a0.map (eF eI))]), (12, .p (iV (a0.length : Int))), (13, .p (iV x2.2))]) (K := fun x => spec_gwTimes_k3 x2 x = some o_x2) (fun x7 h => ?_) ?_
    ·unfold spec_gwTimes_k3 at h
     replace h := bs h
     obtain ⟨u8, hu8, h⟩ := h
     refine k_reg (r_gq [(1, .d false [.sl none (a1.map eI)]), (5, .ov false [.sl (some 3) ((x2.1 ++ [x7]).map eI)]), (11, .d false [.sl none (a0.map (eF eI))]), (12, .p (iV (a0.length : Int))), (13, .p (iV x2.2))] [(3, {fix := some (36, .ov false [.sl (some 3) ((x2.1 ++ [x7]).map eI)])})] (A3 (show List.length ((x2.1.map eI) : List (List C)) + List.length ((([x7]).map eI) : List (List C)) ≤ 1099511627776 from (by have hg := (guardO_some hu8); simpa using hg)) (show ∀ row ∈ ((([x7]).map eI) : List (List C)), row.length = 1 from (rows_len fun _ => rfl)) (show (SV.ov false [.sl (some 3) ((x2.1.map eI) ++ (([x7]).map eI))] : SV) = .ov false [.sl (some 3) ((x2.1 ++ [x7]).map eI)] from (congrArg (fun z => SV.ov false [.sl (some 3) z]) (List.map_append ..).symm)))) ?_
     refine b_n ?_
     refine q_n ?_
     exact jx (x2.1 ++ [x7]) h
    ·refine k_sreg (r_gq [(1, .d false [.sl none (a1.map eI)]), (5, .ov false [.sl (some 3) (x2.1.map eI)]), (8, .p (iV 0)), (11, .d false [.sl none (a0.map (eF eI))]), (12, .p (iV (a0.length : Int))), (13, .p (iV x2.2)), (17, .d false [.sl none (v6.map eI)]), (18, .p (iV (v6.length : Int))), (19, .p (iV 0))] [(1, {n := some v6.length})] (A1 (show (v6.map eI).length = v6.length from (List.length_map ..)))) ?_
     refine k_block ?_
     obtain ⟨y10, hl_x9, hk_x9⟩ := bs h
     clear h
     refine k_loop (J := fun (x : Qr) => [(1, .d false [.sl none (a1.map eI)]), (5, .ov false [.sl (some 3) (x2.1.map eI)]), (8, .p (iV x.1)), (11, .d false [.sl none (a0.map (eF eI))]), (12, .p (iV (a0.length : Int))), (13, .p (iV x2.2)), (17, .d false [.sl none (v6.map eI)]), (18, .p (iV (v6.length : Int))), (19, .p (iV x.2))]) hl_x9 (wk_of (by kernel_rfl) (by kernel_rfl)) (fun x9 o_x9 h hy_x9 => ?_)
     unfold spec_gwTimes_b2 at h
     refine k_sreg (r_gq [(1, .d false [.sl none (a1.map eI)]), (5, .ov false [.sl (some 3) (x2.1.map eI)]), (8, .p (iV x9.1)), (11, .d false [.sl none (a0.map (eF eI))]), (12, .p (iV (a0.length : Int))), (13, .p (iV x2.2)), (17, .d false [.sl none (v6.map eI)]), (18, .p (iV (v6.length : Int))), (19, .p (iV x9.2)), (20, .p (.bool (decide (x9.2 < (v6.length : Int)))))] [] trivial) ?_
     refine k_seq ?_
     refine kc (decide (x9.2 < (v6.length : Int))) (fun hc10_10 => ?_) (fun hc10_10 => ?_)
     ·replace h := ite_t hc10_10 h
      refine k_skip ?_
      refine q_n ?_
      refine k_seq ?_
      refine k_block ?_
      replace h := bs h
      obtain ⟨v12, hv12, h⟩ := h
      refine k_sreg (r_gq [(1, .d false [.sl none (a1.map eI)]), (5, .ov false [.sl (some 3) (x2.1.map eI)]), (8, .p (iV x9.1)), (9, .p (iV x9.2)), (10, .p (iV v12)), (11, .d false [.sl none (a0.map (eF eI))]), (12, .p (iV (a0.length : Int))), (13, .p (iV x2.2)), (17, .d false [.sl none (v6.map eI)]), (18, .p (iV (v6.length : Int))), (19, .p (iV x9.2))] [(1, {row := some (eI v12)})] (A2 (idxO_some hv12).1 (map_get eI (idxO_some hv12).2))) ?_
      replace h := bs h
      obtain ⟨v13, hv13, h⟩ := h
      refine k_reg (r_gq [(1, .d false [.sl none (a1.map eI)]), (5, .ov false [.sl (some 3) (x2.1.map eI)]), (8, .p (iV (w64 (x9.1 + (w64 (v12 * v13)))))), (11, .d false [.sl none (a0.map (eF eI))]), (12, .p (iV (a0.length : Int))), (13, .p (iV x2.2)), (17, .d false [.sl none (v6.map eI)]), (18, .p (iV (v6.length : Int))), (19, .p (iV x9.2))] [(4, {row := some (eI v13)})] (A2 (idxO_some hv13).1 (map_get eI (idxO_some hv13).2))) ?_
      refine b_n ?_
      refine q_n ?_
      refine k_reg (r_gq [(1, .d false [.sl none (a1.map eI)]), (5, .ov false [.sl (some 3) (x2.1.map eI)]), (8, .p (iV (w64 (x9.1 + (w64 (v12 * v13)))))), (11, .d false [.sl none (a0.map (eF eI))]), (12, .p (iV (a0.length : Int))), (13, .p (iV x2.2)), (17, .d false [.sl none (v6.map eI)]), (18, .p (iV (v6.length : Int))), (19, .p (iV (w64 (x9.2 + 1))))] [] trivial) ?_
      exact lqn ((w64 (x9.1 + (w64 (v12 * v13)))), (w64 (x9.2 + 1))) h
     ·replace h := ite_f hc10_10 h
      refine k_exit ?_
      refine q_x ?_
      refine lq_x ?_
      refine b_x ?_
      have hyy := hy_x9 _ (oi h).symm
      subst hyy
      have h := hk_x9
      refine q_n ?_
      exact jx x9.1 h
  ·replace h := ite_f hc5_3 h
   refine k_exit ?_
   refine q_x ?_
   refine lq_x ?_
   refine b_x ?_
   have hyy := hy_x2 _ (oi h).symm
   subst hyy
   have h := hk_x2
   refine q_n ?_
   exact jx x2.1 h
theorem wk_spec_gwVector {a0 : (List Int)}  {r : Bool} (h : spec_gwVector a0 = some r) : Meets Try.prog 49 [.d false [.sl none (a0.map eI)]] { vals := [.p (.bool r)] } := by
 refine mo Try.func49 [(0, .d false [.sl none (a0.map eI)])] ?_
 unfold spec_gwVector at h
 refine k_sreg (r_gq [(0, .d false [.sl none (a0.map eI)])] [] trivial) ?_
 replace h := bs h
 obtain ⟨v1, hv1, h⟩ := h
 replace h := bs h
 obtain ⟨w3, hw3, h⟩ := h
 refine k_sreg (l1 := [(2, .p (.bool w3))]) ?_ ?_
 ·clear h
  rcases ft v1 with ha0 | ha0
  ·replace hw3 := ite_t ha0 hw3
   replace hw3 := bs hw3
   obtain ⟨v2, hv2, hw3⟩ := hw3
   have hw3 := oi hw3
   subst hw3
   exact (r_gq [(2, .p (.bool v2))] [(1, {n := some a0.length}), (2, {call := some (none, [.p (.bool v1)], true)}), (4, gT), (5, {g := some true, call := some (none, [.p (.bool v2)], true)}), (6, bT)] (A6 (show (a0.map eI).length = a0.length from (List.length_map ..)) (wk_spec_l1In hv1) ha0 ha0 (wk_spec_l1All hv2) ha0))
  ·replace hw3 := ite_f ha0 hw3
   have hw3 := oi hw3
   subst hw3
   exact (r_gq [(2, .p (.bool false))] [(1, {n := some a0.length}), (2, {call := some (none, [.p (.bool v1)], true)}), (4, gF), (5, gF), (6, bF)] (A5 (show (a0.map eI).length = a0.length from (List.length_map ..)) (wk_spec_l1In hv1) ha0 ha0 ha0))
 ·refine k_ret ?_
  obtain rfl := oi h
  exact er [(.p (.bool w3), 2)]
theorem wk_spec_gwWalks {a0 : (List (List Int))} {a1 : Int}  {r : ((List Int) × Bool)} (h : spec_gwWalks a0 a1 = some r) : Meets Try.prog 75 [.d false [.sl none (a0.map (eF eI))], wI a1] { vals := [.ov false [.sl (some 3) (r.1.map eI)], .p (.bool r.2)] } := by
 refine mo Try.func75 [(0, .d false [.sl none (a0.map (eF eI))]), (1, .p (iV a1))] ?_
 unfold spec_gwWalks at h
 refine k_sreg (r_gq [(0, .d false [.sl none (a0.map (eF eI))]), (1, .p (iV a1))] [] trivial) ?_
 replace h := bs h
 obtain ⟨u1, hu1, h⟩ := h
 refine k_sreg (r_gq [(0, .d false [.sl none (a0.map (eF eI))]), (1, .p (iV a1)), (6, .ov false [.sl (some 3) ((List.replicate (Int.toNat (a0.length : Int)) (0 : Int)).map eI)])] [(1, {n := some a0.length}), (2, {fix := some (12, .ov false [.sl (some 3) ((List.replicate (Int.toNat (a0.length : Int)) (0 : Int)).map eI)])})] (A5 (show (a0.map (eF eI)).length = a0.length from (List.length_map ..)) (show (a0.length : Int) = (a0.length : Int) from rfl) (guardO_some hu1).1 (guardO_some hu1).2 (show (SV.ov false [.sl (some 3) (List.replicate (Int.toNat (a0.length : Int)) [rI 0])] : SV) = .ov false [.sl (some 3) ((List.replicate (Int.toNat (a0.length : Int)) (0 : Int)).map eI)] from (congrArg (fun z => SV.ov false [.sl (some 3) z]) (rep_fix eI (0 : Int)))))) ?_
 refine k_join (J := fun (x : (List Int)) => [(0, .d false [.sl none (a0.map (eF eI))]), (1, .p (iV a1)), (6, .ov false [.sl (some 3) (x.map eI)])]) (K := fun x => spec_gwWalks_k1 a0 a1 x = some r) (fun x2 h => ?_) ?_
 ·unfold spec_gwWalks_k1 at h
  refine k_join (J := fun (x : (List Int)) => [(6, .ov false [.sl (some 3) (x.map eI)])]) (K := fun x => spec_gwWalks_k2 x = some r) (fun x3 h => ?_) ?_
  ·unfold spec_gwWalks_k2 at h
   refine k_sreg (r_gq [(4, .ov false [.sl (some 3) (x3.map eI)]), (5, .p (.bool true))] [] trivial) ?_
   refine k_ret ?_
   obtain rfl := oi h
   exact er [(.ov false [.sl (some 3) (x3.map eI)], 4), (.p (.bool true), 5)]
  ·refine k_block ?_
   obtain ⟨y5, hl_x4, hk_x4⟩ := bs h
   clear h
   refine k_loop (J := fun (x : (Int × (List Int))) => [(0, .d false [.sl none (a0.map (eF eI))]), (1, .p (iV x.1)), (6, .ov false [.sl (some 3) (x.2.map eI)])]) hl_x4 (wk_of (by kernel_rfl) (by kernel_rfl)) (fun x4 o_x4 h hy_x4 => ?_)
   unfold spec_gwWalks_b1 at h
   refine k_seq ?_
   refine k_sreg (r_gq [(0, .d false [.sl none (a0.map (eF eI))]), (1, .p (iV x4.1)), (6, .ov false [.sl (some 3) (x4.2.map eI)]), (23, .p (.bool (decide (x4.1 > 0))))] [] trivial) ?_
   refine kc (decide (x4.1 > 0)) (fun hc5_5 => ?_) (fun hc5_5 => ?_)
   ·replace h := ite_t hc5_5 h
    refine k_skip ?_
    refine q_n ?_
    refine k_join (J := fun (x : (List Int)) => [(0, .d false [.sl none (a0.map (eF eI))]), (1, .p (iV x4.1)), (6, .ov false [.sl (some 3) (x.map eI)])]) (K := fun x => spec_gwWalks_k3 x4 x = some o_x4) (fun x7 h => ?_) ?_
    ·unfold spec_gwWalks_k3 at h
     refine k_reg (r_gq [(0, .d false [.sl none (a0.map (eF eI))]), (1, .p (iV (w64 (x4.1 - 1)))), (6, .ov false [.sl (some 3) (x7.map eI)])] [] trivial) ?_
     exact lqn ((w64 (x4.1 - 1)), x7) h
    ·refine k_block ?_
     refine k_join (J := fun (x : (List Int)) => [(0, .d false [.sl none (a0.map (eF eI))]), (1, .p (iV x4.1)), (6, .ov false [.sl (some 3) (x.map eI)])]) (K := fun x => spec_gwWalks_k4 x4 x = some o_x4) (fun x8 h => ?_) ?_
     ·unfold spec_gwWalks_k4 at h
      replace h := bs h
      obtain ⟨v9, hv9, h⟩ := h
      refine k_sreg (r_gq [(0, .d false [.sl none (a0.map (eF eI))]), (1, .p (iV x4.1)), (6, .ov false [.sl (some 3) (x8.map eI)]), (45, .p (.bool (!v9)))] [(1, {call := some (some [.d false [.sl none (x8.map eI)]], [.p (.bool v9)], true)})] (A2 (show ([.d false [.sl none (eraL (x8.map eI))]] : List Arg) = [.d false [.sl none (x8.map eI)]] from (by simp only [eraL_enc (h := eI) er_I])) (wk_spec_gwVector hv9))) ?_
      refine kc (!v9) (fun hc6_9 => ?_) (fun hc6_9 => ?_)
      ·replace h := ite_t hc6_9 h
       refine k_sreg (r_gq [(4, .ov false [.sl (some 3) []]), (5, .p (.bool false))] [] trivial) ?_
       refine k_ret ?_
       refine b_r ?_
       refine q_r ?_
       refine lq_r ?_
       refine b_r ?_
       refine q_r ?_
       have hyy := hy_x4 _ (oi h).symm
       subst hyy
       have h := hk_x4
       dsimp only [Sum.elim] at h
       obtain rfl := oi h
       exact er [(.ov false [.sl (some 3) []], 4), (.p (.bool false), 5)]
      ·replace h := ite_f hc6_9 h
       refine k_skip ?_
       refine b_n ?_
       refine q_n ?_
       exact jx x8 h
     ·replace h := bs h
      obtain ⟨v11, hv11, h⟩ := h
      refine k_sreg (r_gq [(0, .d false [.sl none (a0.map (eF eI))]), (1, .p (iV x4.1)), (6, .ov false [.sl (some 3) (x4.2.map eI)]), (28, .ov false [.sl (some 3) (v11.map eI)]), (29, .p (iV (v11.length : Int))), (30, .p (iV 0))] [(2, {call := some (some [.d false [.sl none (a0.map (eF eI))], .d false [.sl none (x4.2.map eI)]], [.ov false [.sl (some 3) (v11.map eI)]], true)}), (3, {n := some v11.length})] (A4 (show ([.d false [.sl none (a0.map (eF eI))], .d false [.sl none (eraL (x4.2.map eI))]] : List Arg) = [.d false [.sl none (a0.map (eF eI))], .d false [.sl none (x4.2.map eI)]] from (by simp only [eraL_enc (h := eI) er_I])) (wk_spec_gwTimes hv11) (show List.all [.ov false [.sl (some 3) (v11.map eI)]] simpleR = true from (sa_o (wnR1 (wnL_enc wn_I) rfl) rfl)) (show (v11.map eI).length = v11.length from (List.length_map ..)))) ?_
      refine k_block ?_
      obtain ⟨y13, hl_x12, hk_x12⟩ := bs h
      clear h
      refine k_loop (J := fun (x : ((List Int) × Int)) => [(0, .d false [.sl none (a0.map (eF eI))]), (1, .p (iV x4.1)), (6, .ov false [.sl (some 3) (x.1.map eI)]), (28, .ov false [.sl (some 3) (v11.map eI)]), (29, .p (iV (v11.length : Int))), (30, .p (iV x.2))]) hl_x12 (wk_of (by kernel_rfl) (by kernel_rfl)) (fun x12 o_x12 h hy_x12 => ?_)
      unfold spec_gwWalks_b2 at h
      refine k_sreg (r_gq [(0, .d false [.sl none (a0.map (eF eI))]), (1, .p (iV x4.1)), (6, .ov false [.sl (some 3) (x12.1.map eI)]), (28, .ov false [.sl (some 3) (v11.map eI)]), (29, .p (iV (v11.length : Int))), (30, .p (iV x12.2)), (31, .p (.bool (decide (x12.2 < (v11.length : Int)))))] [] trivial) ?_
      refine k_seq ?_
      refine kc (decide (x12.2 < (v11.length : Int))) (fun hc10_13 => ?_) (fun hc10_13 => ?_)
      ·replace h := ite_t hc10_13 h
       refine k_skip ?_
       refine q_n ?_
       refine k_seq ?_
       refine k_block ?_
       replace h := bs h
       obtain ⟨v15, hv15, h⟩ := h
       refine k_sreg (r_gq [(0, .d false [.sl none (a0.map (eF eI))]), (1, .p (iV x4.1)), (6, .ov false [.sl (some 3) (x12.1.map eI)]), (8, .p (iV x12.2)), (9, .p (iV v15)), (28, .ov false [.sl (some 3) (v11.map eI)]), (29, .p (iV (v11.length : Int))), (30, .p (iV x12.2))] [(1, {row := some (eI v15)}), (2, {row := some (eI v15)})] (A3 (idxO_some hv15).1 (map_get eI (idxO_some hv15).2) (show getRow [[.sl (some 3) (v11.map eI)]] [(0, 0), ((Int.toNat x12.2), 0)] = some (eI v15) from ((gr0 rfl).trans (gre (map_get eI (idxO_some hv15).2)))))) ?_
       replace h := bs h
       obtain ⟨v16, hv16, h⟩ := h
       refine k_reg (r_gq [(0, .d false [.sl none (a0.map (eF eI))]), (1, .p (iV x4.1)), (6, .ov false [.sl (some 3) ((x12.1.set (Int.toNat x12.2) (w64 (v16 + v15))).map eI)]), (28, .ov false [.sl (some 3) (v11.map eI)]), (29, .p (iV (v11.length : Int))), (30, .p (iV x12.2))] [(2, {row := some (eI v16)}), (3, {row := some (eI v16)}), (6, {row := some (eI v16)}), (7, {row := some (eI v16), fix := some (6, .ov false [.sl (some 3) ((x12.1.set (Int.toNat x12.2) (w64 (v16 + v15))).map eI)])})] (B6 (idxO_some hv16).1 (map_get eI (idxO_some hv16).2) (show getRow [[.sl (some 3) (x12.1.map eI)]] [(0, 0), ((Int.toNat x12.2), 0)] = some (eI v16) from ((gr0 rfl).trans (gre (map_get eI (idxO_some hv16).2)))) (idxO_some hv16).1 (map_get eI (idxO_some hv16).2) (show getRow [[.sl (some 3) (x12.1.map eI)]] [(0, 0), ((Int.toNat x12.2), 0)] = some (eI v16) from ((gr0 rfl).trans (gre (map_get eI (idxO_some hv16).2)))) (A1 (show (SV.ov false [.sl (some 3) (setL (x12.1.map eI) [((Int.toNat x12.2), 0)] [rI (w64 (v16 + v15))])] : SV) = .ov false [.sl (some 3) ((x12.1.set (Int.toNat x12.2) (w64 (v16 + v15))).map eI)] from (congrArg (fun z => SV.ov false [.sl (some 3) z]) (set1 (f := eI) (y := (w64 (v16 + v15))) (idxO_some hv16).2 rfl)))))) ?_
       refine b_n ?_
       refine q_n ?_
       refine k_reg (r_gq [(0, .d false [.sl none (a0.map (eF eI))]), (1, .p (iV x4.1)), (6, .ov false [.sl (some 3) ((x12.1.set (Int.toNat x12.2) (w64 (v16 + v15))).map eI)]), (28, .ov false [.sl (some 3) (v11.map eI)]), (29, .p (iV (v11.length : Int))), (30, .p (iV (w64 (x12.2 + 1))))] [] trivial) ?_
       exact lqn ((x12.1.set (Int.toNat x12.2) (w64 (v16 + v15))), (w64 (x12.2 + 1))) h
      ·replace h := ite_f hc10_13 h
       refine k_exit ?_
       refine q_x ?_
       refine lq_x ?_
       refine b_x ?_
       have hyy := hy_x12 _ (oi h).symm
       subst hyy
       have h := hk_x12
       refine q_n ?_
       exact jx x12.1 h
   ·replace h := ite_f hc5_5 h
    refine k_exit ?_
    refine q_x ?_
    refine lq_x ?_
    refine b_x ?_
    have hyy := hy_x4 _ (oi h).symm
    subst hyy
    have h := hk_x4
    dsimp only [Sum.elim] at h
    refine q_n ?_
    exact jx x4.2 h
 ·refine k_sreg (r_gq [(0, .d false [.sl none (a0.map (eF eI))]), (1, .p (iV a1)), (6, .ov false [.sl (some 3) ((List.replicate (Int.toNat (a0.length : Int)) (0 : Int)).map eI)]), (14, .p (iV ((List.replicate (Int.toNat (a0.length : Int)) (0 : Int)).length : Int))), (15, .p (iV 0))] [(1, {n := some (List.replicate (Int.toNat (a0.length : Int)) (0 : Int)).length})] (A1 (show ((List.replicate (Int.toNat (a0.length : Int)) (0 : Int)).map eI).length = (List.replicate (Int.toNat (a0.length : Int)) (0 : Int)).length from (List.length_map ..)))) ?_
  refine k_block ?_
  obtain ⟨y18, hl_x17, hk_x17⟩ := bs h
  clear h
  refine k_loop (J := fun (x : ((List Int) × Int)) => [(0, .d false [.sl none (a0.map (eF eI))]), (1, .p (iV a1)), (6, .ov false [.sl (some 3) (x.1.map eI)]), (14, .p (iV ((List.replicate (Int.toNat (a0.length : Int)) (0 : Int)).length : Int))), (15, .p (iV x.2))]) hl_x17 (wk_of (by kernel_rfl) (by kernel_rfl)) (fun x17 o_x17 h hy_x17 => ?_)
  unfold spec_gwWalks_b3 at h
  refine k_sreg (r_gq [(0, .d false [.sl none (a0.map (eF eI))]), (1, .p (iV a1)), (6, .ov false [.sl (some 3) (x17.1.map eI)]), (14, .p (iV ((List.replicate (Int.toNat (a0.length : Int)) (0 : Int)).length : Int))), (15, .p (iV x17.2)), (16, .p (.bool (decide (x17.2 < ((List.replicate (Int.toNat (a0.length : Int)) (0 : Int)).length : Int)))))] [] trivial) ?_
  refine k_seq ?_
  refine kc (decide (x17.2 < ((List.replicate (Int.toNat (a0.length : Int)) (0 : Int)).length : Int))) (fun hc5_18 => ?_) (fun hc5_18 => ?_)
  ·replace h := ite_t hc5_18 h
   refine k_skip ?_
   refine q_n ?_
   refine k_seq ?_
   refine k_block ?_
   refine k_sreg (r_gq [(0, .d false [.sl none (a0.map (eF eI))]), (1, .p (iV a1)), (6, .ov false [.sl (some 3) (x17.1.map eI)]), (7, .p (iV x17.2)), (14, .p (iV ((List.replicate (Int.toNat (a0.length : Int)) (0 : Int)).length : Int))), (15, .p (iV x17.2))] [] trivial) ?_
   replace h := bs h
   obtain ⟨v20, hv20, h⟩ := h
   refine k_reg (r_gq [(0, .d false [.sl none (a0.map (eF eI))]), (1, .p (iV a1)), (6, .ov false [.sl (some 3) ((x17.1.set (Int.toNat x17.2) 1).map eI)]), (14, .p (iV ((List.replicate (Int.toNat (a0.length : Int)) (0 : Int)).length : Int))), (15, .p (iV x17.2))] [(2, {row := some (eI v20)}), (3, {row := some (eI v20), fix := some (6, .ov false [.sl (some 3) ((x17.1.set (Int.toNat x17.2) 1).map eI)])})] (A4 (idxO_some hv20).1 (map_get eI (idxO_some hv20).2) (show getRow [[.sl (some 3) (x17.1.map eI)]] [(0, 0), ((Int.toNat x17.2), 0)] = some (eI v20) from ((gr0 rfl).trans (gre (map_get eI (idxO_some hv20).2)))) (show (SV.ov false [.sl (some 3) (setL (x17.1.map eI) [((Int.toNat x17.2), 0)] [rI 1])] : SV) = .ov false [.sl (some 3) ((x17.1.set (Int.toNat x17.2) 1).map eI)] from (congrArg (fun z => SV.ov false [.sl (some 3) z]) (set1 (f := eI) (y := 1) (idxO_some hv20).2 rfl))))) ?_
   refine b_n ?_
   refine q_n ?_
   refine k_reg (r_gq [(0, .d false [.sl none (a0.map (eF eI))]), (1, .p (iV a1)), (6, .ov false [.sl (some 3) ((x17.1.set (Int.toNat x17.2) 1).map eI)]), (14, .p (iV ((List.replicate (Int.toNat (a0.length : Int)) (0 : Int)).length : Int))), (15, .p (iV (w64 (x17.2 + 1))))] [] trivial) ?_
   exact lqn ((x17.1.set (Int.toNat x17.2) 1), (w64 (x17.2 + 1))) h
  ·replace h := ite_f hc5_18 h
   refine k_exit ?_
   refine q_x ?_
   refine lq_x ?_
   refine b_x ?_
   have hyy := hy_x17 _ (oi h).symm
   subst hyy
   have h := hk_x17
   refine q_n ?_
   exact jx x17.1 h
theorem wk_spec_WalkVector {a0 : (List (List Int))} {a1 : Int}  {r : ((List Int) × Bool)} (h : spec_WalkVector a0 a1 = some r) : Meets Try.prog 39 [.d false [.sl none (a0.map (eF eI))], wI a1] { vals := [.ov false [.sl (some 3) (r.1.map eI)], .p (.bool r.2)] } := by
 refine mo Try.func39 [(0, .d false [.sl none (a0.map (eF eI))]), (1, .p (iV a1))] ?_
 unfold spec_WalkVector at h
 refine k_sreg (r_gq [(0, .d false [.sl none (a0.map (eF eI))]), (1, .p (iV a1))] [] trivial) ?_
 refine k_seq ?_
 replace h := bs h
 obtain ⟨v1, hv1, h⟩ := h
 replace h := bs h
 obtain ⟨w3, hw3, h⟩ := h
 refine k_sreg (l1 := [(0, .d false [.sl none (a0.map (eF eI))]), (1, .p (iV a1)), (13, .p (.bool w3))]) ?_ ?_
 ·clear h
  rcases ft (!v1) with ha0 | ha0
  ·replace hw3 := ite_t ha0 hw3
   have hw3 := oi hw3
   subst hw3
   exact (r_gq [(0, .d false [.sl none (a0.map (eF eI))]), (1, .p (iV a1)), (13, .p (.bool true))] [(1, {call := some (none, [.p (.bool v1)], true)}), (4, gT), (5, gT), (6, gT), (7, bT)] (A5 (wk_spec_grGood hv1) ha0 ha0 ha0 ha0))
  ·replace hw3 := ite_f ha0 hw3
   replace hw3 := bs hw3
   obtain ⟨v2, hv2, hw3⟩ := hw3
   have hw3 := oi hw3
   subst hw3
   exact (r_gq [(0, .d false [.sl none (a0.map (eF eI))]), (1, .p (iV a1)), (13, .p (.bool (!v2)))] [(1, {call := some (none, [.p (.bool v1)], true)}), (4, gF), (5, {g := some false, call := some (none, [.p (.bool v2)], true)}), (6, gF), (7, bF)] (A6 (wk_spec_grGood hv1) ha0 ha0 (wk_spec_gwSteps hv2) ha0 ha0))
 ·refine kc w3 (fun hc2_3 => ?_) (fun hc2_3 => ?_)
  ·replace h := ite_t hc2_3 h
   refine k_sreg (r_gq [(4, .ov false [.sl (some 3) []]), (5, .p (.bool false))] [] trivial) ?_
   refine k_ret ?_
   refine q_r ?_
   obtain rfl := oi h
   exact er [(.ov false [.sl (some 3) []], 4), (.p (.bool false), 5)]
  ·replace h := ite_f hc2_3 h
   refine k_skip ?_
   refine q_n ?_
   replace h := bs h
   obtain ⟨v5, hv5, h⟩ := h
   refine k_sreg (r_gq [(4, .ov false [.sl (some 3) (v5.1.map eI)]), (5, .p (.bool v5.2))] [(2, {call := some (none, [.ov false [.sl (some 3) (v5.1.map eI)], .p (.bool v5.2)], true)})] (A2 (wk_spec_gwWalks hv5) (show List.all [.ov false [.sl (some 3) (v5.1.map eI)], .p (.bool v5.2)] simpleR = true from (sa_o (wnR1 (wnL_enc wn_I) rfl) (sa_p rfl))))) ?_
   refine k_ret ?_
   obtain rfl := oi h
   exact er [(.ov false [.sl (some 3) (v5.1.map eI)], 4), (.p (.bool v5.2), 5)]
theorem wk_impl_within {a0 : Int} {a1 : Int} {a2 : Int}  {r : Bool} (h : impl_within a0 a1 a2 = some r) : Meets Try.prog 76 [wI a0, wI a1, wI a2] { vals := [.p (.bool r)] } := by
 refine mo Try.func76 [(0, .p (iV a0)), (1, .p (iV a1)), (2, .p (iV a2))] ?_
 unfold impl_within at h
 refine k_sreg (r_gq [(0, .p (iV a0)), (1, .p (iV a1)), (2, .p (iV a2))] [] trivial) ?_
 refine k_sreg (l1 := [(6, .p (.bool ((decide (a1 ≤ a0)) && (decide (a0 ≤ a2)))))]) ?_ ?_
 ·rcases ft (decide (a1 ≤ a0)) with ha0 | ha0
  ·exact RegOk.of_eq (l2 := [(6, .p (.bool ((decide (a1 ≤ a0)) && (decide (a0 ≤ a2)))))]) (r_gq [(6, .p (.bool (decide (a0 ≤ a2))))] [(4, gT), (5, gT), (6, gT), (7, bT)] (A4 ha0 ha0 ha0 ha0)) (by simp [ha0])
  ·exact RegOk.of_eq (l2 := [(6, .p (.bool ((decide (a1 ≤ a0)) && (decide (a0 ≤ a2)))))]) (r_gq [(6, .p (.bool false))] [(4, gF), (5, gF), (6, gF), (7, bF)] (A4 ha0 ha0 ha0 ha0)) (by simp [ha0])
 ·refine k_ret ?_
  obtain rfl := oi h
  exact er [(.p (.bool ((decide (a1 ≤ a0)) && (decide (a0 ≤ a2)))), 6)]
theorem wk_slices_IndexFunc_LLint_Lint_d {a0 : (List (List Int))} {a1 : ((List Int) → Option Bool)} {F1 : FuncId} {K1 : List (Bool × List C)} (hp1 : ∀ x0 y, a1 x0 = some y → Meets Try.prog F1 ([.d false [.sl none (x0.map eI)]] ++ (K1.map fun (g, cs) => mkA g cs)) { vals := [.p (.bool y)] }) {r : Int} (h : slices_IndexFunc_LLint_Lint a0 a1 = some r) : Meets Try.prog 127 [.d false [.sl none (a0.map (eF eI))], .d false [.fn F1 K1]] { vals := [.p (iV r)] } := by
 refine mo Try.func127 [(0, .d false [.sl none (a0.map (eF eI))]), (1, .d false [.fn F1 K1])] ?_
 unfold slices_IndexFunc_LLint_Lint at h
 refine k_sreg (r_gq [(0, .d false [.sl none (a0.map (eF eI))]), (1, .d false [.fn F1 K1])] [] trivial) ?_
 refine k_join (J := fun (x : Unit) => []) (K := fun x => slices_IndexFunc_LLint_Lint_k1 x = some r) (fun x1 h => ?_) ?_
 ·unfold slices_IndexFunc_LLint_Lint_k1 at h
  refine k_sreg (r_gq [(4, .p (iV (-1)))] [] trivial) ?_
  refine k_ret ?_
  obtain rfl := oi h
  exact er [(.p (iV (-1)), 4)]
 ·refine k_sreg (r_gq [(0, .d false [.sl none (a0.map (eF eI))]), (1, .d false [.fn F1 K1]), (7, .p (iV (a0.length : Int))), (8, .p (iV 0))] [(1, {n := some a0.length})] (A1 (show (a0.map (eF eI)).length = a0.length from (List.length_map ..)))) ?_
  refine k_block ?_
  obtain ⟨y3, hl_x2, hk_x2⟩ := bs h
  clear h
  refine k_loop (J := fun (x : Int) => [(0, .d false [.sl none (a0.map (eF eI))]), (1, .d false [.fn F1 K1]), (7, .p (iV (a0.length : Int))), (8, .p (iV x))]) hl_x2 (wk_of (by kernel_rfl) (by kernel_rfl)) (fun x2 o_x2 h hy_x2 => ?_)
  unfold slices_IndexFunc_LLint_Lint_b1 at h
  refine k_sreg (r_gq [(0, .d false [.sl none (a0.map (eF eI))]), (1, .d false [.fn F1 K1]), (7, .p (iV (a0.length : Int))), (8, .p (iV x2)), (9, .p (.bool (decide (x2 < (a0.length : Int)))))] [] trivial) ?_
  refine k_seq ?_
  refine kc (decide (x2 < (a0.length : Int))) (fun hc5_3 => ?_) (fun hc5_3 => ?_)
  ·replace h := ite_t hc5_3 h
   refine k_skip ?_
   refine q_n ?_
   refine k_seq ?_
   refine k_block ?_
   refine k_sreg (r_gq [(0, .d false [.sl none (a0.map (eF eI))]), (1, .d false [.fn F1 K1]), (5, .p (iV x2)), (7, .p (iV (a0.length : Int))), (8, .p (iV x2))] [] trivial) ?_
   replace h := bs h
   obtain ⟨v5, hv5, h⟩ := h
   replace h := bs h
   obtain ⟨v6, hv6, h⟩ := h
   refine k_sreg (r_gq [(0, .d false [.sl none (a0.map (eF eI))]), (1, .d false [.fn F1 K1]), (5, .p (iV x2)), (7, .p (iV (a0.length : Int))), (8, .p (iV x2)), (16, .p (.bool v6))] [(3, {row := some [.sl none (v5.map eI)]}), (5, {call := some (none, [.p (.bool v6)], true)})] (A3 (idxO_some hv5).1 (map_get (eF eI) (idxO_some hv5).2) (hp1 _ _ hv6))) ?_
   refine kc v6 (fun hc6_6 => ?_) (fun hc6_6 => ?_)
   ·replace h := ite_t hc6_6 h
    refine k_sreg (r_gq [(4, .p (iV x2))] [] trivial) ?_
    refine k_ret ?_
    refine b_r ?_
    refine q_r ?_
    refine lq_r ?_
    refine b_r ?_
    refine q_r ?_
    have hyy := hy_x2 _ (oi h).symm
    subst hyy
    have h := hk_x2
    dsimp only [Sum.elim] at h
    obtain rfl := oi h
    exact er [(.p (iV x2), 4)]
   ·replace h := ite_f hc6_6 h
    refine k_skip ?_
    refine b_n ?_
    refine q_n ?_
    refine k_reg (r_gq [(0, .d false [.sl none (a0.map (eF eI))]), (1, .d false [.fn F1 K1]), (7, .p (iV (a0.length : Int))), (8, .p (iV (w64 (x2 + 1))))] [] trivial) ?_
    exact lqn (w64 (x2 + 1)) h
  ·replace h := ite_f hc5_3 h
   refine k_exit ?_
   refine q_x ?_
   refine lq_x ?_
   refine b_x ?_
   have hyy := hy_x2 _ (oi h).symm
   subst hyy
   have h := hk_x2
   dsimp only [Sum.elim] at h
   refine q_n ?_
   exact jx () h
theorem wk_slices_ContainsFunc_LLint_Lint_d {a0 : (List (List Int))} {a1 : ((List Int) → Option Bool)} {F1 : FuncId} {K1 : List (Bool × List C)} (hp1 : ∀ x0 y, a1 x0 = some y → Meets Try.prog F1 ([.d false [.sl none (x0.map eI)]] ++ (K1.map fun (g, cs) => mkA g cs)) { vals := [.p (.bool y)] }) {r : Bool} (h : slices_ContainsFunc_LLint_Lint a0 a1 = some r) : Meets Try.prog 100 [.d false [.sl none (a0.map (eF eI))], .d false [.fn F1 K1]] { vals := [.p (.bool r)] } := by
 refine mo Try.func100 [(0, .d false [.sl none (a0.map (eF eI))]), (1, .d false [.fn F1 K1])] ?_
 unfold slices_ContainsFunc_LLint_Lint at h
 refine k_sreg (r_gq [(0, .d false [.sl none (a0.map (eF eI))]), (1, .d false [.fn F1 K1])] [] trivial) ?_
 replace h := bs h
 obtain ⟨v1, hv1, h⟩ := h
 refine k_sreg (r_gq [(4, .p (.bool (decide (v1 ≥ 0))))] [(2, {call := some (none, [.p (iV v1)], true)})] (A1 (show Meets Try.prog 127 ([.d false [.sl none (a0.map (eF eI))], .d false [.fn F1 K1]] ++ []) { vals := [.p (iV v1)] } from (wk_slices_IndexFunc_LLint_Lint_d hp1 hv1)))) ?_
 refine k_ret ?_
 obtain rfl := oi h
 exact er [(.p (.bool (decide (v1 ≥ 0))), 4)]
theorem wk_slices_IndexFunc_Lint_int_v {a0 : (List Int)} {a1 : (Int → Option Bool)} {F1 : FuncId} (hp1 : ∀ x0 y, a1 x0 = some y → Meets Try.prog F1 ([wI x0] ++ []) { vals := [.p (.bool y)] }) {r : Int} (h : slices_IndexFunc_Lint_int a0 a1 = some r) : Meets Try.prog 121 [.d false [.sl none (a0.map eI)], .v (.func (.func F1) #[] #[])] { vals := [.p (iV r)] } := by
 refine mo Try.func121 [(0, .d false [.sl none (a0.map eI)]), (1, .p (.func (.func F1) #[] #[]))] ?_
 unfold slices_IndexFunc_Lint_int at h
 refine k_sreg (r_gq [(0, .d false [.sl none (a0.map eI)]), (1, .p (.func (.func F1) #[] #[]))] [] trivial) ?_
 refine k_join (J := fun (x : Unit) => []) (K := fun x => slices_IndexFunc_Lint_int_k1 x = some r) (fun x1 h => ?_) ?_
 ·unfold slices_IndexFunc_Lint_int_k1 at h
  refine k_sreg (r_gq [(4, .p (iV (-1)))] [] trivial) ?_
  refine k_ret ?_
  obtain rfl := oi h
  exact er [(.p (iV (-1)), 4)]
 ·refine k_sreg (r_gq [(0, .d false [.sl none (a0.map eI)]), (1, .p (.func (.func F1) #[] #[])), (7, .p (iV (a0.length : Int))), (8, .p (iV 0))] [(1, {n := some a0.length})] (A1 (show (a0.map eI).length = a0.length from (List.length_map ..)))) ?_
  refine k_block ?_
  obtain ⟨y3, hl_x2, hk_x2⟩ := bs h
  clear h
  refine k_loop (J := fun (x : Int) => [(0, .d false [.sl none (a0.map eI)]), (1, .p (.func (.func F1) #[] #[])), (7, .p (iV (a0.length : Int))), (8, .p (iV x))]) hl_x2 (wk_of (by kernel_rfl) (by kernel_rfl)) (fun x2 o_x2 h hy_x2 => ?_)
  unfold slices_IndexFunc_Lint_int_b1 at h
  refine k_sreg (r_gq [(0, .d false [.sl none (a0.map eI)]), (1, .p (.func (.func F1) #[] #[])), (7, .p (iV (a0.length : Int))), (8, .p (iV x2)), (9, .p (.bool (decide (x2 < (a0.length : Int)))))] [] trivial) ?_
  refine k_seq ?_
  refine kc (decide (x2 < (a0.length : Int))) (fun hc5_3 => ?_) (fun hc5_3 => ?_)
  ·replace h := ite_t hc5_3 h
   refine k_skip ?_
   refine q_n ?_
   refine k_seq ?_
   refine k_block ?_
   refine k_sreg (r_gq [(0, .d false [.sl none (a0.map eI)]), (1, .p (.func (.func F1) #[] #[])), (5, .p (iV x2)), (7, .p (iV (a0.length : Int))), (8, .p (iV x2))] [] trivial) ?_
   replace h := bs h
   obtain ⟨v5, hv5, h⟩ := h
   replace h := bs h
   obtain ⟨v6, hv6, h⟩ := h
   refine k_sreg (r_gq [(0, .d false [.sl none (a0.map eI)]), (1, .p (.func (.func F1) #[] #[])), (5, .p (iV x2)), (7, .p (iV (a0.length : Int))), (8, .p (iV x2)), (16, .p (.bool v6))] [(3, {row := some (eI v5)}), (5, {call := some (none, [.p (.bool v6)], true)})] (A3 (idxO_some hv5).1 (map_get eI (idxO_some hv5).2) (hp1 _ _ hv6))) ?_
   refine kc v6 (fun hc6_6 => ?_) (fun hc6_6 => ?_)
   ·replace h := ite_t hc6_6 h
    refine k_sreg (r_gq [(4, .p (iV x2))] [] trivial) ?_
    refine k_ret ?_
    refine b_r ?_
    refine q_r ?_
    refine lq_r ?_
    refine b_r ?_
    refine q_r ?_
    have hyy := hy_x2 _ (oi h).symm
    subst hyy
    have h := hk_x2
    dsimp only [Sum.elim] at h
    obtain rfl := oi h
    exact er [(.p (iV x2), 4)]
   ·replace h := ite_f hc6_6 h
    refine k_skip ?_
    refine b_n ?_
    refine q_n ?_
    refine k_reg (r_gq [(0, .d false [.sl none (a0.map eI)]), (1, .p (.func (.func F1) #[] #[])), (7, .p (iV (a0.length : Int))), (8, .p (iV (w64 (x2 + 1))))] [] trivial) ?_
    exact lqn (w64 (x2 + 1)) h
  ·replace h := ite_f hc5_3 h
   refine k_exit ?_
   refine q_x ?_
   refine lq_x ?_
   refine b_x ?_
   have hyy := hy_x2 _ (oi h).symm
   subst hyy
   have h := hk_x2
   dsimp only [Sum.elim] at h
   refine q_n ?_
   exact jx () h
theorem wk_slices_ContainsFunc_Lint_int_v {a0 : (List Int)} {a1 : (Int → Option Bool)} {F1 : FuncId} (hp1 : ∀ x0 y, a1 x0 = some y → Meets Try.prog F1 ([wI x0] ++ []) { vals := [.p (.bool y)] }) {r : Bool} (h : slices_ContainsFunc_Lint_int a0 a1 = some r) : Meets Try.prog 88 [.d false [.sl none (a0.map eI)], .v (.func (.func F1) #[] #[])] { vals := [.p (.bool r)] } := by
 refine mo Try.func88 [(0, .d false [.sl none (a0.map eI)]), (1, .p (.func (.func F1) #[] #[]))] ?_
 unfold slices_ContainsFunc_Lint_int at h
 refine k_sreg (r_gq [(0, .d false [.sl none (a0.map eI)]), (1, .p (.func (.func F1) #[] #[]))] [] trivial) ?_
 replace h := bs h
 obtain ⟨v1, hv1, h⟩ := h
 refine k_sreg (r_gq [(4, .p (.bool (decide (v1 ≥ 0))))] [(2, {call := some (none, [.p (iV v1)], true)})] (A1 (show Meets Try.prog 121 ([.d false [.sl none (a0.map eI)], .v (.func (.func F1) #[] #[])] ++ []) { vals := [.p (iV v1)] } from (wk_slices_IndexFunc_Lint_int_v hp1 hv1)))) ?_
 refine k_ret ?_
 obtain rfl := oi h
 exact er [(.p (.bool (decide (v1 ≥ 0))), 4)]
theorem wk_impl_isGraph_1_1 {a0 : Int}  {r : Bool} (h : impl_isGraph_1_1 a0 = some r) : Meets Try.prog 102 [wI a0] { vals := [.p (.bool r)] } := by
 refine mo Try.func102 [(0, .p (iV a0))] ?_
 unfold impl_isGraph_1_1 at h
 refine k_sreg (r_gq [(0, .p (iV a0))] [] trivial) ?_
 replace h := bs h
 obtain ⟨v1, hv1, h⟩ := h
 refine k_sreg (r_gq [(2, .p (.bool (!v1)))] [(1, {call := some (none, [.p (.bool v1)], true)})] (A1 (wk_impl_within hv1))) ?_
 refine k_ret ?_
 obtain rfl := oi h
 exact er [(.p (.bool (!v1)), 2)]
theorem wk_impl_isGraph_1 {a0 : (List Int)} {c0 : (List (List Int))}  {r : Bool} (h : impl_isGraph_1 a0 c0 = some r) : Meets Try.prog 101 [.d false [.sl none (a0.map eI)], .d false [.pt [.sl none (c0.map (eF eI))]]] { vals := [.p (.bool r)] } := by
 refine mo Try.func101 [(0, .d false [.sl none (a0.map eI)]), (1, .d false [.pt [.sl none (c0.map (eF eI))]])] ?_
 unfold impl_isGraph_1 at h
 refine k_sreg (r_gq [(0, .d false [.sl none (a0.map eI)]), (1, .d false [.pt [.sl none (c0.map (eF eI))]])] [] trivial) ?_
 replace h := bs h
 obtain ⟨w2, hw2, h⟩ := h
 refine k_sreg (l1 := [(3, .p (.bool w2))]) ?_ ?_
 ·clear h
  rcases ft ((a0.length : Int) != (c0.length : Int)) with ha0 | ha0
  ·replace hw2 := ite_t ha0 hw2
   have hw2 := oi hw2
   subst hw2
   exact (r_gq [(3, .p (.bool true))] [(1, {n := some a0.length}), (3, {n := some c0.length}), (6, gT), (7, gT), (8, bT)] (A5 (show (a0.map eI).length = a0.length from (List.length_map ..)) (show (c0.map (eF eI)).length = c0.length from (List.length_map ..)) ha0 ha0 ha0))
  ·replace hw2 := ite_f ha0 hw2
   replace hw2 := bs hw2
   obtain ⟨v1, hv1, hw2⟩ := hw2
   have hw2 := oi hw2
   subst hw2
   exact (r_gq [(3, .p (.bool v1))] [(1, {n := some a0.length}), (3, {n := some c0.length}), (6, gF), (7, {g := some false, call := some (none, [.p (.bool v1)], true)}), (8, bF)] (A6 (show (a0.map eI).length = a0.length from (List.length_map ..)) (show (c0.map (eF eI)).length = c0.length from (List.length_map ..)) ha0 ha0 (show Meets Try.prog 88 ([.d false [.sl none (a0.map eI)], .v (.func (.func 102) #[] #[])] ++ []) { vals := [.p (.bool v1)] } from (wk_slices_ContainsFunc_Lint_int_v (fun x0 y hy => wk_impl_isGraph_1_1 hy) hv1)) ha0))
 ·refine k_ret ?_
  obtain rfl := oi h
  exact er [(.p (.bool w2), 3)]
theorem wk_impl_isGraph {a0 : (List (List Int))}  {r : Bool} (h : impl_isGraph a0 = some r) : Meets Try.prog 68 [.d false [.sl none (a0.map (eF eI))]] { vals := [.p (.bool r)] } := by
 refine mo Try.func68 [(0, .d false [.sl none (a0.map (eF eI))])] ?_
 unfold impl_isGraph at h
 refine k_sreg (r_gq [(1, .box [.sl none (a0.map (eF eI))])] [] trivial) ?_
 refine k_frz 1 [.sl none (a0.map (eF eI))] [.sl none (a0.map (eF eI))] [(1, .d false [.pt [.sl none (a0.map (eF eI))]])] (by kernel_rfl) (erc_sl (eraL_enc (era_F er_I)) rfl) (by kernel_rfl) (by kernel_rfl) ?_
 replace h := bs h
 obtain ⟨v1, hv1, h⟩ := h
 replace h := bs h
 obtain ⟨w3, hw3, h⟩ := h
 refine k_sreg (l1 := [(2, .p (.bool w3))]) ?_ ?_
 ·clear h
  rcases ft v1 with ha0 | ha0
  ·replace hw3 := ite_t ha0 hw3
   replace hw3 := bs hw3
   obtain ⟨v2, hv2, hw3⟩ := hw3
   have hw3 := oi hw3
   subst hw3
   exact (r_gq [(2, .p (.bool (!v2)))] [(1, {n := some a0.length}), (2, {call := some (none, [.p (.bool v1)], true)}), (4, gT), (5, gT), (6, {g := some true, call := some (none, [.p (.bool v2)], true)}), (7, gT), (8, bT)] (B6 (show (a0.map (eF eI)).length = a0.length from (List.length_map ..)) (wk_impl_within hv1) ha0 ha0 ha0 (show Meets Try.prog 100 ([.d false [.sl none (a0.map (eF eI))], .d false [.fn 101 [(false, [.pt [.sl none (a0.map (eF eI))]])]]] ++ []) { vals := [.p (.bool v2)] } from (wk_slices_ContainsFunc_LLint_Lint_d (fun x0 y hy => wk_impl_isGraph_1 hy) hv2)) (A2 ha0 ha0)))
  ·replace hw3 := ite_f ha0 hw3
   have hw3 := oi hw3
   subst hw3
   exact (r_gq [(2, .p (.bool false))] [(1, {n := some a0.length}), (2, {call := some (none, [.p (.bool v1)], true)}), (4, gF), (5, gF), (6, gF), (7, gF), (8, bF)] (B6 (show (a0.map (eF eI)).length = a0.length from (List.length_map ..)) (wk_impl_within hv1) ha0 ha0 ha0 ha0 (A1 ha0)))
 ·refine k_ret ?_
  obtain rfl := oi h
  exact er [(.p (.bool w3), 2)]
theorem wk_math_bits_Mul64 {a0 : Int} {a1 : Int}  {r : Qr} (h : math_bits_Mul64 a0 a1 = some r) : Meets Try.prog 129 [.v (.int .u64 a0), .v (.int .u64 a1)] { vals := [.p (.int .u64 r.1), .p (.int .u64 r.2)] } := by
 refine mo Try.func129 [(0, .p (.int .u64 a0)), (1, .p (.int .u64 a1))] ?_
 unfold math_bits_Mul64 at h
 refine k_sreg (r_gq [(0, .p (.int .u64 a0)), (1, .p (.int .u64 a1))] [] trivial) ?_
 refine k_sreg (r_gq [(0, .p (.int .u64 a0)), (1, .p (.int .u64 a1)), (6, .p (.int .u64 (iand .u64 a0 4294967295)))] [(1, {pv := some (.int .u64 (iand .u64 a0 4294967295))})] (A1 (show PureAt Try.prog (.binOp .and 90 (.tmp 14) (.const (.int .u64 4294967295)) 90) [.int .u64 a0, .int .u64 4294967295] (.int .u64 (iand .u64 a0 4294967295)) from (pure_and)))) ?_
 refine k_sreg (r_gq [(0, .p (.int .u64 a0)), (1, .p (.int .u64 a1)), (6, .p (.int .u64 (iand .u64 a0 4294967295))), (7, .p (.int .u64 (ishr .u64 a0 32)))] [(1, {pv := some (.int .u64 (ishr .u64 a0 32))})] (A1 (show PureAt Try.prog (.binOp .shr 90 (.tmp 16) (.const (.int .u64 32)) 72) [.int .u64 a0, .int .u64 32] (.int .u64 (ishr .u64 a0 32)) from (pure_shr (by decide))))) ?_
 refine k_sreg (r_gq [(0, .p (.int .u64 a0)), (1, .p (.int .u64 a1)), (6, .p (.int .u64 (iand .u64 a0 4294967295))), (7, .p (.int .u64 (ishr .u64 a0 32))), (8, .p (.int .u64 (iand .u64 a1 4294967295)))] [(1, {pv := some (.int .u64 (iand .u64 a1 4294967295))})] (A1 (show PureAt Try.prog (.binOp .and 90 (.tmp 18) (.const (.int .u64 4294967295)) 90) [.int .u64 a1, .int .u64 4294967295] (.int .u64 (iand .u64 a1 4294967295)) from (pure_and)))) ?_
 refine k_sreg (r_gq [(0, .p (.int .u64 a0)), (1, .p (.int .u64 a1)), (6, .p (.int .u64 (iand .u64 a0 4294967295))), (7, .p (.int .u64 (ishr .u64 a0 32))), (8, .p (.int .u64 (iand .u64 a1 4294967295))), (9, .p (.int .u64 (ishr .u64 a1 32)))] [(1, {pv := some (.int .u64 (ishr .u64 a1 32))})] (A1 (show PureAt Try.prog (.binOp .shr 90 (.tmp 20) (.const (.int .u64 32)) 72) [.int .u64 a1, .int .u64 32] (.int .u64 (ishr .u64 a1 32)) from (pure_shr (by decide))))) ?_
 refine k_sreg (r_gq [(0, .p (.int .u64 a0)), (1, .p (.int .u64 a1)), (6, .p (.int .u64 (iand .u64 a0 4294967295))), (7, .p (.int .u64 (ishr .u64 a0 32))), (8, .p (.int .u64 (iand .u64 a1 4294967295))), (9, .p (.int .u64 (ishr .u64 a1 32))), (10, .p (.int .u64 (IntKind.wrap .u64 ((iand .u64 a0 4294967295) * (iand .u64 a1 4294967295)))))] [] trivial) ?_
 refine k_sreg (r_gq [(0, .p (.int .u64 a0)), (1, .p (.int .u64 a1)), (6, .p (.int .u64 (iand .u64 a0 4294967295))), (7, .p (.int .u64 (ishr .u64 a0 32))), (9, .p (.int .u64 (ishr .u64 a1 32))), (11, .p (.int .u64 (IntKind.wrap .u64 ((IntKind.wrap .u64 ((ishr .u64 a0 32) * (iand .u64 a1 4294967295))) + (ishr .u64 (IntKind.wrap .u64 ((iand .u64 a0 4294967295) * (iand .u64 a1 4294967295))) 32)))))] [(4, {pv := some (.int .u64 (ishr .u64 (IntKind.wrap .u64 ((iand .u64 a0 4294967295) * (iand .u64 a1 4294967295))) 32))})] (A1 (show PureAt Try.prog (.binOp .shr 90 (.tmp 28) (.const (.int .u64 32)) 72) [.int .u64 (IntKind.wrap .u64 ((iand .u64 a0 4294967295) * (iand .u64 a1 4294967295))), .int .u64 32] (.int .u64 (ishr .u64 (IntKind.wrap .u64 ((iand .u64 a0 4294967295) * (iand .u64 a1 4294967295))) 32)) from (pure_shr (by decide))))) ?_
 refine k_sreg (r_gq [(0, .p (.int .u64 a0)), (1, .p (.int .u64 a1)), (6, .p (.int .u64 (iand .u64 a0 4294967295))), (7, .p (.int .u64 (ishr .u64 a0 32))), (9, .p (.int .u64 (ishr .u64 a1 32))), (11, .p (.int .u64 (IntKind.wrap .u64 ((IntKind.wrap .u64 ((ishr .u64 a0 32) * (iand .u64 a1 4294967295))) + (ishr .u64 (IntKind.wrap .u64 ((iand .u64 a0 4294967295) * (iand .u64 a1 4294967295))) 32))))), (12, .p (.int .u64 (iand .u64 (IntKind.wrap .u64 ((IntKind.wrap .u64 ((ishr .u64 a0 32) * (iand .u64 a1 4294967295))) + (ishr .u64 (IntKind.wrap .u64 ((iand .u64 a0 4294967295) * (iand .u64 a1 4294967295))) 32))) 4294967295)))] [(1, {pv := some (.int .u64 (iand .u64 (IntKind.wrap .u64 ((IntKind.wrap .u64 ((ishr .u64 a0 32) * (iand .u64 a1 4294967295))) + (ishr .u64 (IntKind.wrap .u64 ((iand .u64 a0 4294967295) * (iand .u64 a1 4294967295))) 32))) 4294967295))})] (A1 (show PureAt Try.prog (.binOp .and 90 (.tmp 31) (.const (.int .u64 4294967295)) 90) [.int .u64 (IntKind.wrap .u64 ((IntKind.wrap .u64 ((ishr .u64 a0 32) * (iand .u64 a1 4294967295))) + (ishr .u64 (IntKind.wrap .u64 ((iand .u64 a0 4294967295) * (iand .u64 a1 4294967295))) 32))), .int .u64 4294967295] (.int .u64 (iand .u64 (IntKind.wrap .u64 ((IntKind.wrap .u64 ((ishr .u64 a0 32) * (iand .u64 a1 4294967295))) + (ishr .u64 (IntKind.wrap .u64 ((iand .u64 a0 4294967295) * (iand .u64 a1 4294967295))) 32))) 4294967295)) from (pure_and)))) ?_
 refine k_sreg (r_gq [(0, .p (.int .u64 a0)), (1, .p (.int .u64 a1)), (6, .p (.int .u64 (iand .u64 a0 4294967295))), (7, .p (.int .u64 (ishr .u64 a0 32))), (9, .p (.int .u64 (ishr .u64 a1 32))), (12, .p (.int .u64 (iand .u64 (IntKind.wrap .u64 ((IntKind.wrap .u64 ((ishr .u64 a0 32) * (iand .u64 a1 4294967295))) + (ishr .u64 (IntKind.wrap .u64 ((iand .u64 a0 4294967295) * (iand .u64 a1 4294967295))) 32))) 4294967295))), (13, .p (.int .u64 (ishr .u64 (IntKind.wrap .u64 ((IntKind.wrap .u64 ((ishr .u64 a0 32) * (iand .u64 a1 4294967295))) + (ishr .u64 (IntKind.wrap .u64 ((iand .u64 a0 4294967295) * (iand .u64 a1 4294967295))) 32))) 32)))] [(1, {pv := some (.int .u64 (ishr .u64 (IntKind.wrap .u64 ((IntKind.wrap .u64 ((ishr .u64 a0 32) * (iand .u64 a1 4294967295))) + (ishr .u64 (IntKind.wrap .u64 ((iand .u64 a0 4294967295) * (iand .u64 a1 4294967295))) 32))) 32))})] (A1 (show PureAt Try.prog (.binOp .shr 90 (.tmp 33) (.const (.int .u64 32)) 72) [.int .u64 (IntKind.wrap .u64 ((IntKind.wrap .u64 ((ishr .u64 a0 32) * (iand .u64 a1 4294967295))) + (ishr .u64 (IntKind.wrap .u64 ((iand .u64 a0 4294967295) * (iand .u64 a1 4294967295))) 32))), .int .u64 32] (.int .u64 (ishr .u64 (IntKind.wrap .u64 ((IntKind.wrap .u64 ((ishr .u64 a0 32) * (iand .u64 a1 4294967295))) + (ishr .u64 (IntKind.wrap .u64 ((iand .u64 a0 4294967295) * (iand .u64 a1 4294967295))) 32))) 32)) from (pure_shr (by decide))))) ?_
 refine k_sreg (r_gq [(0, .p (.int .u64 a0)), (1, .p (.int .u64 a1)), (7, .p (.int .u64 (ishr .u64 a0 32))), (9, .p (.int .u64 (ishr .u64 a1 32))), (12, .p (.int .u64 (IntKind.wrap .u64 ((iand .u64 (IntKind.wrap .u64 ((IntKind.wrap .u64 ((ishr .u64 a0 32) * (iand .u64 a1 4294967295))) + (ishr .u64 (IntKind.wrap .u64 ((iand .u64 a0 4294967295) * (iand .u64 a1 4294967295))) 32))) 4294967295) + (IntKind.wrap .u64 ((iand .u64 a0 4294967295) * (ishr .u64 a1 32))))))), (13, .p (.int .u64 (ishr .u64 (IntKind.wrap .u64 ((IntKind.wrap .u64 ((ishr .u64 a0 32) * (iand .u64 a1 4294967295))) + (ishr .u64 (IntKind.wrap .u64 ((iand .u64 a0 4294967295) * (iand .u64 a1 4294967295))) 32))) 32)))] [] trivial) ?_
 refine k_sreg (r_gq [(0, .p (.int .u64 a0)), (1, .p (.int .u64 a1)), (4, .p (.int .u64 (IntKind.wrap .u64 ((IntKind.wrap .u64 ((IntKind.wrap .u64 ((ishr .u64 a0 32) * (ishr .u64 a1 32))) + (ishr .u64 (IntKind.wrap .u64 ((IntKind.wrap .u64 ((ishr .u64 a0 32) * (iand .u64 a1 4294967295))) + (ishr .u64 (IntKind.wrap .u64 ((iand .u64 a0 4294967295) * (iand .u64 a1 4294967295))) 32))) 32))) + (ishr .u64 (IntKind.wrap .u64 ((iand .u64 (IntKind.wrap .u64 ((IntKind.wrap .u64 ((ishr .u64 a0 32) * (iand .u64 a1 4294967295))) + (ishr .u64 (IntKind.wrap .u64 ((iand .u64 a0 4294967295) * (iand .u64 a1 4294967295))) 32))) 4294967295) + (IntKind.wrap .u64 ((iand .u64 a0 4294967295) * (ishr .u64 a1 32))))) 32)))))] [(6, {pv := some (.int .u64 (ishr .u64 (IntKind.wrap .u64 ((iand .u64 (IntKind.wrap .u64 ((IntKind.wrap .u64 ((ishr .u64 a0 32) * (iand .u64 a1 4294967295))) + (ishr .u64 (IntKind.wrap .u64 ((iand .u64 a0 4294967295) * (iand .u64 a1 4294967295))) 32))) 4294967295) + (IntKind.wrap .u64 ((iand .u64 a0 4294967295) * (ishr .u64 a1 32))))) 32))})] (A1 (show PureAt Try.prog (.binOp .shr 90 (.tmp 45) (.const (.int .u64 32)) 72) [.int .u64 (IntKind.wrap .u64 ((iand .u64 (IntKind.wrap .u64 ((IntKind.wrap .u64 ((ishr .u64 a0 32) * (iand .u64 a1 4294967295))) + (ishr .u64 (IntKind.wrap .u64 ((iand .u64 a0 4294967295) * (iand .u64 a1 4294967295))) 32))) 4294967295) + (IntKind.wrap .u64 ((iand .u64 a0 4294967295) * (ishr .u64 a1 32))))), .int .u64 32] (.int .u64 (ishr .u64 (IntKind.wrap .u64 ((iand .u64 (IntKind.wrap .u64 ((IntKind.wrap .u64 ((ishr .u64 a0 32) * (iand .u64 a1 4294967295))) + (ishr .u64 (IntKind.wrap .u64 ((iand .u64 a0 4294967295) * (iand .u64 a1 4294967295))) 32))) 4294967295) + (IntKind.wrap .u64 ((iand .u64 a0 4294967295) * (ishr .u64 a1 32))))) 32)) from (pure_shr (by decide))))) ?_
 refine k_sreg (r_gq [(4, .p (.int .u64 (IntKind.wrap .u64 ((IntKind.wrap .u64 ((IntKind.wrap .u64 ((ishr .u64 a0 32) * (ishr .u64 a1 32))) + (ishr .u64 (IntKind.wrap .u64 ((IntKind.wrap .u64 ((ishr .u64 a0 32) * (iand .u64 a1 4294967295))) + (ishr .u64 (IntKind.wrap .u64 ((iand .u64 a0 4294967295) * (iand .u64 a1 4294967295))) 32))) 32))) + (ishr .u64 (IntKind.wrap .u64 ((iand .u64 (IntKind.wrap .u64 ((IntKind.wrap .u64 ((ishr .u64 a0 32) * (iand .u64 a1 4294967295))) + (ishr .u64 (IntKind.wrap .u64 ((iand .u64 a0 4294967295) * (iand .u64 a1 4294967295))) 32))) 4294967295) + (IntKind.wrap .u64 ((iand .u64 a0 4294967295) * (ishr .u64 a1 32))))) 32))))), (5, .p (.int .u64 (IntKind.wrap .u64 (a0 * a1))))] [] trivial) ?_
 refine k_ret ?_
 obtain rfl := oi h
 exact er [(.p (.int .u64 (IntKind.wrap .u64 ((IntKind.wrap .u64 ((IntKind.wrap .u64 ((ishr .u64 a0 32) * (ishr .u64 a1 32))) + (ishr .u64 (IntKind.wrap .u64 ((IntKind.wrap .u64 ((ishr .u64 a0 32) * (iand .u64 a1 4294967295))) + (ishr .u64 (IntKind.wrap .u64 ((iand .u64 a0 4294967295) * (iand .u64 a1 4294967295))) 32))) 32))) + (ishr .u64 (IntKind.wrap .u64 ((iand .u64 (IntKind.wrap .u64 ((IntKind.wrap .u64 ((ishr .u64 a0 32) * (iand .u64 a1 4294967295))) + (ishr .u64 (IntKind.wrap .u64 ((iand .u64 a0 4294967295) * (iand .u64 a1 4294967295))) 32))) 4294967295) + (IntKind.wrap .u64 ((iand .u64 a0 4294967295) * (ishr .u64 a1 32))))) 32)))), 4), (.p (.int .u64 (IntKind.wrap .u64 (a0 * a1))), 5)]
theorem wk_math_bits_Mul {a0 : Int} {a1 : Int}  {r : Qr} (h : math_bits_Mul a0 a1 = some r) : Meets Try.prog 103 [.v (.int .u64 a0), .v (.int .u64 a1)] { vals := [.p (.int .u64 r.1), .p (.int .u64 r.2)] } := by
 refine mo Try.func103 [(0, .p (.int .u64 a0)), (1, .p (.int .u64 a1))] ?_
 unfold math_bits_Mul at h
 refine k_sreg (r_gq [(0, .p (.int .u64 a0)), (1, .p (.int .u64 a1))] [] trivial) ?_
 refine k_seq ?_
 refine kc false (fun hno => by rw [show false = false from rfl] at hno; cases hno) (fun _ => ?_)
 refine k_skip ?_
 refine q_n ?_
 replace h := bs h
 obtain ⟨v2, hv2, h⟩ := h
 refine k_sreg (r_gq [(8, .p (.int .u64 v2.1)), (9, .p (.int .u64 v2.2))] [(2, {call := some (none, [.p (.int .u64 v2.1), .p (.int .u64 v2.2)], true)})] (A1 (wk_math_bits_Mul64 hv2))) ?_
 refine k_sreg (r_gq [(4, .p (.int .u64 v2.1)), (5, .p (.int .u64 v2.2))] [] trivial) ?_
 refine k_ret ?_
 obtain rfl := oi h
 exact er [(.p (.int .u64 v2.1), 4), (.p (.int .u64 v2.2), 5)]
theorem wk_slices_Repeat_Lint_int {a0 : (List Int)} {a1 : Int}  {r : (List Int)} (h : slices_Repeat_Lint_int a0 a1 = some r) : Meets Try.prog 69 [.d false [.sl none (a0.map eI)], wI a1] { vals := [.ov false [.sl (some 3) (r.map eI)]] } := by
 refine mo Try.func69 [(0, .d false [.sl none (a0.map eI)]), (1, .p (iV a1))] ?_
 unfold slices_Repeat_Lint_int at h
 refine k_sreg (r_gq [(0, .d false [.sl none (a0.map eI)]), (1, .p (iV a1))] [] trivial) ?_
 refine k_join (J := fun (x : Unit) => [(0, .d false [.sl none (a0.map eI)]), (1, .p (iV a1))]) (K := fun x => slices_Repeat_Lint_int_k1 a0 a1 x = some r) (fun x1 h => ?_) ?_
 ·unfold slices_Repeat_Lint_int_k1 at h
  replace h := bs h
  obtain ⟨v2, hv2, h⟩ := h
  refine k_sreg (r_gq [(0, .d false [.sl none (a0.map eI)]), (5, .p (.int .u64 v2.1)), (6, .p (.int .u64 v2.2))] [(1, {n := some a0.length}), (2, {pv := some (.int .u64 (IntKind.wrap .u64 (a0.length : Int)))}), (4, {pv := some (.int .u64 (IntKind.wrap .u64 a1))}), (5, {call := some (none, [.p (.int .u64 v2.1), .p (.int .u64 v2.2)], true)})] (A4 (show (a0.map eI).length = a0.length from (List.length_map ..)) (show PureAt Try.prog (.convert 3 72 (.tmp 14)) [.int .i64 (a0.length : Int)] (.int .u64 (IntKind.wrap .u64 (a0.length : Int))) from (pure_conv Try_und3 Try_und72)) (show PureAt Try.prog (.convert 3 72 (.tmp 16)) [.int .i64 a1] (.int .u64 (IntKind.wrap .u64 a1)) from (pure_conv Try_und3 Try_und72)) (wk_math_bits_Mul hv2))) ?_
  refine k_join (J := fun (x : Unit) => [(0, .d false [.sl none (a0.map eI)]), (6, .p (.int .u64 v2.2))]) (K := fun x => slices_Repeat_Lint_int_k2 a0 v2 x = some r) (fun x3 h => ?_) ?_
  ·unfold slices_Repeat_Lint_int_k2 at h
   replace h := bs h
   obtain ⟨u4, hu4, h⟩ := h
   refine k_sreg (r_gq [(0, .d false [.sl none (a0.map eI)]), (7, .ov false [.sl (some 3) ((List.replicate (Int.toNat (IntKind.wrap .i64 v2.2)) (0 : Int)).map eI)])] [(1, {pv := some (iV (IntKind.wrap .i64 v2.2))}), (2, {fix := some (30, .ov false [.sl (some 3) ((List.replicate (Int.toNat (IntKind.wrap .i64 v2.2)) (0 : Int)).map eI)])})] (A5 (show PureAt Try.prog (.convert 72 3 (.tmp 28)) [.int .u64 v2.2] (iV (IntKind.wrap .i64 v2.2)) from (pure_conv Try_und72 Try_und3)) (show (IntKind.wrap .i64 v2.2) = (IntKind.wrap .i64 v2.2) from rfl) (guardO_some hu4).1 (guardO_some hu4).2 (show (SV.ov false [.sl (some 3) (List.replicate (Int.toNat (IntKind.wrap .i64 v2.2)) [rI 0])] : SV) = .ov false [.sl (some 3) ((List.replicate (Int.toNat (IntKind.wrap .i64 v2.2)) (0 : Int)).map eI)] from (congrArg (fun z => SV.ov false [.sl (some 3) z]) (rep_fix eI (0 : Int)))))) ?_
   refine k_sreg (r_copy0 (t := 22) (e := 3) (rows := ((List.replicate (Int.toNat (IntKind.wrap .i64 v2.2)) (0 : Int)).map eI)) (rows2 := (a0.map eI)) (rows' := ((copyAt (List.replicate (Int.toNat (IntKind.wrap .i64 v2.2)) (0 : Int)) 0 a0).map eI)) (n := ((min a0.length (List.replicate (Int.toNat (IntKind.wrap .i64 v2.2)) (0 : Int)).length : Nat) : Int)) [(7, .ov false [.sl (some 3) ((copyAt (List.replicate (Int.toNat (IntKind.wrap .i64 v2.2)) (0 : Int)) 0 a0).map eI)]), (8, .p (iV ((min a0.length (List.replicate (Int.toNat (IntKind.wrap .i64 v2.2)) (0 : Int)).length : Nat) : Int)))] ⟨rfl, rfl, rfl⟩ ⟨rfl, rfl, rfl⟩ ⟨rfl, rfl, rfl⟩ ⟨rfl, rfl, rfl⟩ (by kernel_rfl) (by kernel_rfl) (by kernel_rfl) (by kernel_rfl) (by kernel_rfl) (by kernel_rfl) (raw_map fun _ => rfl) (raw_map1 fun _ => ⟨rfl, rfl⟩) (by simp) (copyAt_map eI (List.replicate (Int.toNat (IntKind.wrap .i64 v2.2)) (0 : Int)) a0 0)) ?_
   refine k_join (J := fun (x : (List Int)) => [(7, .ov false [.sl (some 3) (x.map eI)])]) (K := fun x => slices_Repeat_Lint_int_k3 x = some r) (fun x5 h => ?_) ?_
   ·unfold slices_Repeat_Lint_int_k3 at h
    refine k_sreg (r_gq [(4, .ov false [.sl (some 3) (x5.map eI)])] [] trivial) ?_
    refine k_ret ?_
    obtain rfl := oi h
    exact er [(.ov false [.sl (some 3) (x5.map eI)], 4)]
   ·refine k_block ?_
    obtain ⟨y7, hl_x6, hk_x6⟩ := bs h
    clear h
    refine k_loop (J := fun (x : ((List Int) × Int)) => [(7, .ov false [.sl (some 3) (x.1.map eI)]), (8, .p (iV x.2))]) hl_x6 (wk_of (by kernel_rfl) (by kernel_rfl)) (fun x6 o_x6 h hy_x6 => ?_)
    unfold slices_Repeat_Lint_int_b1 at h
    refine k_seq ?_
    refine k_sreg (r_gq [(7, .ov false [.sl (some 3) (x6.1.map eI)]), (8, .p (iV x6.2)), (37, .p (.bool (decide (x6.2 < (x6.1.length : Int)))))] [(2, {n := some x6.1.length})] (A1 (show (x6.1.map eI).length = x6.1.length from (List.length_map ..)))) ?_
    refine kc (decide (x6.2 < (x6.1.length : Int))) (fun hc5_7 => ?_) (fun hc5_7 => ?_)
    ·replace h := ite_t hc5_7 h
     refine k_skip ?_
     refine q_n ?_
     refine k_block ?_
     replace h := bs h
     obtain ⟨u9, hu9, h⟩ := h
     refine k_reg (r_copy1 (t := 22) (e := 3) (rows := (x6.1.map eI)) (rows' := ((copyAt x6.1 (Int.toNat x6.2) (x6.1.take (Int.toNat x6.2))).map eI)) (n := x6.2) (n' := (w64 (x6.2 + (min (Int.toNat x6.2) (x6.1.length - (Int.toNat x6.2)) : Nat)))) [(7, .ov false [.sl (some 3) ((copyAt x6.1 (Int.toNat x6.2) (x6.1.take (Int.toNat x6.2))).map eI)]), (8, .p (iV (w64 (x6.2 + (min (Int.toNat x6.2) (x6.1.length - (Int.toNat x6.2)) : Nat)))))] Try_mixed ⟨rfl, rfl⟩ ⟨rfl, rfl⟩ ⟨rfl, rfl⟩ ⟨rfl, rfl⟩ ⟨rfl, rfl⟩ ⟨rfl, rfl⟩ ⟨rfl, rfl⟩ ⟨rfl, rfl⟩ ⟨rfl, rfl⟩ ⟨rfl, rfl⟩ (by kernel_rfl) (by kernel_rfl) (by kernel_rfl) (by kernel_rfl) (by kernel_rfl) (by kernel_rfl) (raw_map fun _ => rfl) (guardO_some hu9).1 (by have hg := (guardO_some hu9).2; simpa using hg) (by simp) (by rw [← List.map_take]; exact copyAt_map eI x6.1 _ _)) ?_
     refine b_n ?_
     exact lqn ((copyAt x6.1 (Int.toNat x6.2) (x6.1.take (Int.toNat x6.2))), (w64 (x6.2 + (min (Int.toNat x6.2) (x6.1.length - (Int.toNat x6.2)) : Nat)))) h
    ·replace h := ite_f hc5_7 h
     refine k_exit ?_
     refine q_x ?_
     refine lq_x ?_
     refine b_x ?_
     have hyy := hy_x6 _ (oi h).symm
     subst hyy
     have h := hk_x6
     refine q_n ?_
     exact jx x6.1 h
  ·refine k_sreg (l1 := [(0, .d false [.sl none (a0.map eI)]), (6, .p (.int .u64 v2.2)), (26, .p (.bool ((decide (v2.1 > 0)) || (decide (v2.2 > 9223372036854775807)))))]) ?_ ?_
   ·rcases ft (decide (v2.1 > 0)) with ha0 | ha0
    ·exact RegOk.of_eq (l2 := [(0, .d false [.sl none (a0.map eI)]), (6, .p (.int .u64 v2.2)), (26, .p (.bool ((decide (v2.1 > 0)) || (decide (v2.2 > 9223372036854775807)))))]) (r_gq [(0, .d false [.sl none (a0.map eI)]), (6, .p (.int .u64 v2.2)), (26, .p (.bool true))] [(3, gT), (4, gT), (5, bT)] (A3 ha0 ha0 ha0)) (by simp [ha0])
    ·exact RegOk.of_eq (l2 := [(0, .d false [.sl none (a0.map eI)]), (6, .p (.int .u64 v2.2)), (26, .p (.bool ((decide (v2.1 > 0)) || (decide (v2.2 > 9223372036854775807)))))]) (r_gq [(0, .d false [.sl none (a0.map eI)]), (6, .p (.int .u64 v2.2)), (26, .p (.bool (decide (v2.2 > 9223372036854775807))))] [(3, gF), (4, gF), (5, bF)] (A3 ha0 ha0 ha0)) (by simp [ha0])
   ·refine kc ((decide (v2.1 > 0)) || (decide (v2.2 > 9223372036854775807))) (fun hc2_9 => ?_) (fun hc2_9 => ?_)
    ·replace h := ite_t hc2_9 h
     cases h
    ·replace h := ite_f hc2_9 h
     refine k_skip ?_
     refine q_n ?_
     exact jx () h
 ·refine k_sreg (r_gq [(0, .d false [.sl none (a0.map eI)]), (1, .p (iV a1)), (10, .p (.bool (decide (a1 < 0))))] [] trivial) ?_
  refine kc (decide (a1 < 0)) (fun hc2_10 => ?_) (fun hc2_10 => ?_)
  ·replace h := ite_t hc2_10 h
   cases h
  ·replace h := ite_f hc2_10 h
   refine k_skip ?_
   refine q_n ?_
   exact jx () h
theorem wk_impl_times {a0 : (List (List Int))} {a1 : (List Int)}  {r : (List Int)} (h : impl_times a0 a1 = some r) : Meets Try.prog 62 [.d false [.sl none (a0.map (eF eI))], .d false [.sl none (a1.map eI)]] { vals := [.ov false [.sl (some 3) (r.map eI)]] } := by
 refine mo Try.func62 [(0, .d false [.sl none (a0.map (eF eI))]), (1, .d false [.sl none (a1.map eI)])] ?_
 unfold impl_times at h
 refine k_sreg (r_gq [(0, .d false [.sl none (a0.map (eF eI))]), (1, .d false [.sl none (a1.map eI)])] [] trivial) ?_
 replace h := bs h
 obtain ⟨u1, hu1, h⟩ := h
 refine k_sreg (r_gq [(0, .d false [.sl none (a0.map (eF eI))]), (1, .d false [.sl none (a1.map eI)]), (5, .ov false [.sl (some 3) ((List.replicate (Int.toNat (a0.length : Int)) (0 : Int)).map eI)])] [(1, {n := some a0.length}), (2, {fix := some (12, .ov false [.sl (some 3) ((List.replicate (Int.toNat (a0.length : Int)) (0 : Int)).map eI)])})] (A5 (show (a0.map (eF eI)).length = a0.length from (List.length_map ..)) (show (a0.length : Int) = (a0.length : Int) from rfl) (guardO_some hu1).1 (guardO_some hu1).2 (show (SV.ov false [.sl (some 3) (List.replicate (Int.toNat (a0.length : Int)) [rI 0])] : SV) = .ov false [.sl (some 3) ((List.replicate (Int.toNat (a0.length : Int)) (0 : Int)).map eI)] from (congrArg (fun z => SV.ov false [.sl (some 3) z]) (rep_fix eI (0 : Int)))))) ?_
 refine k_join (J := fun (x : (List Int)) => [(5, .ov false [.sl (some 3) (x.map eI)])]) (K := fun x => impl_times_k1 x = some r) (fun x2 h => ?_) ?_
 ·unfold impl_times_k1 at h
  refine k_sreg (r_gq [(4, .ov false [.sl (some 3) (x2.map eI)])] [] trivial) ?_
  refine k_ret ?_
  obtain rfl := oi h
  exact er [(.ov false [.sl (some 3) (x2.map eI)], 4)]
 ·refine k_sreg (r_gq [(1, .d false [.sl none (a1.map eI)]), (5, .ov false [.sl (some 3) ((List.replicate (Int.toNat (a0.length : Int)) (0 : Int)).map eI)]), (13, .d false [.sl none (a0.map (eF eI))]), (14, .p (iV (a0.length : Int))), (15, .p (iV 0))] [(1, {n := some a0.length})] (A1 (show (a0.map (eF eI)).length = a0.length from (List.length_map ..)))) ?_
  refine k_block ?_
  obtain ⟨y4, hl_x3, hk_x3⟩ := bs h
  clear h
  refine k_loop (J := fun (x : ((List Int) × Int)) => [(1, .d false [.sl none (a1.map eI)]), (5, .ov false [.sl (some 3) (x.1.map eI)]), (13, .d false [.sl none (a0.map (eF eI))]), (14, .p (iV (a0.length : Int))), (15, .p (iV x.2))]) hl_x3 (wk_of (by kernel_rfl) (by kernel_rfl)) (fun x3 o_x3 h hy_x3 => ?_)
  unfold impl_times_b1 at h
  refine k_sreg (r_gq [(1, .d false [.sl none (a1.map eI)]), (5, .ov false [.sl (some 3) (x3.1.map eI)]), (13, .d false [.sl none (a0.map (eF eI))]), (14, .p (iV (a0.length : Int))), (15, .p (iV x3.2)), (16, .p (.bool (decide (x3.2 < (a0.length : Int)))))] [] trivial) ?_
  refine k_seq ?_
  refine kc (decide (x3.2 < (a0.length : Int))) (fun hc5_4 => ?_) (fun hc5_4 => ?_)
  ·replace h := ite_t hc5_4 h
   refine k_skip ?_
   refine q_n ?_
   refine k_join (J := fun (x : (List Int)) => [(1, .d false [.sl none (a1.map eI)]), (5, .ov false [.sl (some 3) (x.map eI)]), (13, .d false [.sl none (a0.map (eF eI))]), (14, .p (iV (a0.length : Int))), (15, .p (iV x3.2))]) (K := fun x => impl_times_k2 x3 x = some o_x3) (fun x6 h => ?_) ?_
   ·unfold impl_times_k2 at h
    refine k_reg (r_gq [(1, .d false [.sl none (a1.map eI)]), (5, .ov false [.sl (some 3) (x6.map eI)]), (13, .d false [.sl none (a0.map (eF eI))]), (14, .p (iV (a0.length : Int))), (15, .p (iV (w64 (x3.2 + 1))))] [] trivial) ?_
    exact lqn (x6, (w64 (x3.2 + 1))) h
   ·refine k_block ?_
    replace h := bs h
    obtain ⟨v7, hv7, h⟩ := h
    refine k_sreg (r_gq [(1, .d false [.sl none (a1.map eI)]), (5, .ov false [.sl (some 3) (x3.1.map eI)]), (6, .p (iV x3.2)), (7, .d false [.sl none (v7.map eI)]), (13, .d false [.sl none (a0.map (eF eI))]), (14, .p (iV (a0.length : Int))), (15, .p (iV x3.2))] [(1, {row := some [.sl none (v7.map eI)]})] (A2 (idxO_some hv7).1 (map_get (eF eI) (idxO_some hv7).2))) ?_
    refine k_sreg (r_gq [(1, .d false [.sl none (a1.map eI)]), (5, .ov false [.sl (some 3) (x3.1.map eI)]), (6, .p (iV x3.2)), (13, .d false [.sl none (a0.map (eF eI))]), (14, .p (iV (a0.length : Int))), (15, .p (iV x3.2)), (20, .d false [.sl none (v7.map eI)]), (21, .p (iV (v7.length : Int))), (22, .p (iV 0))] [(1, {n := some v7.length})] (A1 (show (v7.map eI).length = v7.length from (List.length_map ..)))) ?_
    refine k_block ?_
    obtain ⟨y9, hl_x8, hk_x8⟩ := bs h
    clear h
    refine k_loop (J := fun (x : ((List Int) × Int)) => [(1, .d false [.sl none (a1.map eI)]), (5, .ov false [.sl (some 3) (x.1.map eI)]), (6, .p (iV x3.2)), (13, .d false [.sl none (a0.map (eF eI))]), (14, .p (iV (a0.length : Int))), (15, .p (iV x3.2)), (20, .d false [.sl none (v7.map eI)]), (21, .p (iV (v7.length : Int))), (22, .p (iV x.2))]) hl_x8 (wk_of (by kernel_rfl) (by kernel_rfl)) (fun x8 o_x8 h hy_x8 => ?_)
    unfold impl_times_b2 at h
    refine k_sreg (r_gq [(1, .d false [.sl none (a1.map eI)]), (5, .ov false [.sl (some 3) (x8.1.map eI)]), (6, .p (iV x3.2)), (13, .d false [.sl none (a0.map (eF eI))]), (14, .p (iV (a0.length : Int))), (15, .p (iV x3.2)), (20, .d false [.sl none (v7.map eI)]), (21, .p (iV (v7.length : Int))), (22, .p (iV x8.2)), (23, .p (.bool (decide (x8.2 < (v7.length : Int)))))] [] trivial) ?_
    refine k_seq ?_
    refine kc (decide (x8.2 < (v7.length : Int))) (fun hc9_9 => ?_) (fun hc9_9 => ?_)
    ·replace h := ite_t hc9_9 h
     refine k_skip ?_
     refine q_n ?_
     refine k_seq ?_
     refine k_block ?_
     replace h := bs h
     obtain ⟨v11, hv11, h⟩ := h
     refine k_sreg (r_gq [(1, .d false [.sl none (a1.map eI)]), (5, .ov false [.sl (some 3) (x8.1.map eI)]), (6, .p (iV x3.2)), (8, .p (iV x8.2)), (9, .p (iV v11)), (13, .d false [.sl none (a0.map (eF eI))]), (14, .p (iV (a0.length : Int))), (15, .p (iV x3.2)), (20, .d false [.sl none (v7.map eI)]), (21, .p (iV (v7.length : Int))), (22, .p (iV x8.2))] [(1, {row := some (eI v11)})] (A2 (idxO_some hv11).1 (map_get eI (idxO_some hv11).2))) ?_
     replace h := bs h
     obtain ⟨v12, hv12, h⟩ := h
     replace h := bs h
     obtain ⟨v13, hv13, h⟩ := h
     refine k_reg (r_dq Try_mixed 10 [] [(1, .d false [.sl none (a1.map eI)]), (5, .ov false [.sl (some 3) ((x8.1.set (Int.toNat x3.2) (w64 (v12 + (w64 (v11 * v13))))).map eI)]), (6, .p (iV x3.2)), (13, .d false [.sl none (a0.map (eF eI))]), (14, .p (iV (a0.length : Int))), (15, .p (iV x3.2)), (20, .d false [.sl none (v7.map eI)]), (21, .p (iV (v7.length : Int))), (22, .p (iV x8.2))] [(2, {row := some (eI v12)}), (3, {row := some (eI v12)}), (7, {row := some (eI v13)}), (11, {row := some (eI v12)}), (12, {row := some (eI v12), fix := some (5, .ov false [.sl (some 3) ((x8.1.set (Int.toNat x3.2) (w64 (v12 + (w64 (v11 * v13))))).map eI)])})] (B6 (idxO_some hv12).1 (map_get eI (idxO_some hv12).2) (show getRow [[.sl (some 3) (x8.1.map eI)]] [(0, 0), ((Int.toNat x3.2), 0)] = some (eI v12) from ((gr0 rfl).trans (gre (map_get eI (idxO_some hv12).2)))) (idxO_some hv13).1 (map_get eI (idxO_some hv13).2) (idxO_some hv12).1 (A3 (map_get eI (idxO_some hv12).2) (show getRow [[.sl (some 3) (x8.1.map eI)]] [(0, 0), ((Int.toNat x3.2), 0)] = some (eI v12) from ((gr0 rfl).trans (gre (map_get eI (idxO_some hv12).2)))) (show (SV.ov false [.sl (some 3) (setL (x8.1.map eI) [((Int.toNat x3.2), 0)] [rI (w64 (v12 + (w64 (v11 * v13))))])] : SV) = .ov false [.sl (some 3) ((x8.1.set (Int.toNat x3.2) (w64 (v12 + (w64 (v11 * v13))))).map eI)] from (congrArg (fun z => SV.ov false [.sl (some 3) z]) (set1 (f := eI) (y := (w64 (v12 + (w64 (v11 * v13))))) (idxO_some hv12).2 rfl)))))) ?_
     refine b_n ?_
     refine q_n ?_
     refine k_reg (r_gq [(1, .d false [.sl none (a1.map eI)]), (5, .ov false [.sl (some 3) ((x8.1.set (Int.toNat x3.2) (w64 (v12 + (w64 (v11 * v13))))).map eI)]), (6, .p (iV x3.2)), (13, .d false [.sl none (a0.map (eF eI))]), (14, .p (iV (a0.length : Int))), (15, .p (iV x3.2)), (20, .d false [.sl none (v7.map eI)]), (21, .p (iV (v7.length : Int))), (22, .p (iV (w64 (x8.2 + 1))))] [] trivial) ?_
     exact lqn ((x8.1.set (Int.toNat x3.2) (w64 (v12 + (w64 (v11 * v13))))), (w64 (x8.2 + 1))) h
    ·replace h := ite_f hc9_9 h
     refine k_exit ?_
     refine q_x ?_
     refine lq_x ?_
     refine b_x ?_
     refine b_n ?_
     have hyy := hy_x8 _ (oi h).symm
     subst hyy
     have h := hk_x8
     refine q_n ?_
     exact jx x8.1 h
  ·replace h := ite_f hc5_4 h
   refine k_exit ?_
   refine q_x ?_
   refine lq_x ?_
   refine b_x ?_
   have hyy := hy_x3 _ (oi h).symm
   subst hyy
   have h := hk_x3
   refine q_n ?_
   exact jx x3.1 h
theorem wk_impl_isVector_1 {a0 : Int}  {r : Bool} (h : impl_isVector_1 a0 = some r) : Meets Try.prog 89 [wI a0] { vals := [.p (.bool r)] } := by
 refine mo Try.func89 [(0, .p (iV a0))] ?_
 unfold impl_isVector_1 at h
 refine k_sreg (r_gq [(0, .p (iV a0))] [] trivial) ?_
 replace h := bs h
 obtain ⟨v1, hv1, h⟩ := h
 refine k_sreg (r_gq [(2, .p (.bool (!v1)))] [(1, {call := some (none, [.p (.bool v1)], true)})] (A1 (wk_impl_within hv1))) ?_
 refine k_ret ?_
 obtain rfl := oi h
 exact er [(.p (.bool (!v1)), 2)]
theorem wk_impl_isVector {a0 : (List Int)}  {r : Bool} (h : impl_isVector a0 = some r) : Meets Try.prog 50 [.d false [.sl none (a0.map eI)]] { vals := [.p (.bool r)] } := by
 refine mo Try.func50 [(0, .d false [.sl none (a0.map eI)])] ?_
 unfold impl_isVector at h
 refine k_sreg (r_gq [(0, .d false [.sl none (a0.map eI)])] [] trivial) ?_
 replace h := bs h
 obtain ⟨v1, hv1, h⟩ := h
 replace h := bs h
 obtain ⟨w3, hw3, h⟩ := h
 refine k_sreg (l1 := [(2, .p (.bool w3))]) ?_ ?_
 ·clear h
  rcases ft v1 with ha0 | ha0
  ·replace hw3 := ite_t ha0 hw3
   replace hw3 := bs hw3
   obtain ⟨v2, hv2, hw3⟩ := hw3
   have hw3 := oi hw3
   subst hw3
   exact (r_gq [(2, .p (.bool (!v2)))] [(1, {n := some a0.length}), (2, {call := some (none, [.p (.bool v1)], true)}), (4, gT), (5, {g := some true, call := some (none, [.p (.bool v2)], true)}), (6, gT), (7, bT)] (B6 (show (a0.map eI).length = a0.length from (List.length_map ..)) (wk_impl_within hv1) ha0 ha0 (show Meets Try.prog 88 ([.d false [.sl none (a0.map eI)], .v (.func (.func 89) #[] #[])] ++ []) { vals := [.p (.bool v2)] } from (wk_slices_ContainsFunc_Lint_int_v (fun x0 y hy => wk_impl_isVector_1 hy) hv2)) ha0 (A1 ha0)))
  ·replace hw3 := ite_f ha0 hw3
   have hw3 := oi hw3
   subst hw3
   exact (r_gq [(2, .p (.bool false))] [(1, {n := some a0.length}), (2, {call := some (none, [.p (.bool v1)], true)}), (4, gF), (5, gF), (6, gF), (7, bF)] (A6 (show (a0.map eI).length = a0.length from (List.length_map ..)) (wk_impl_within hv1) ha0 ha0 ha0 ha0))
 ·refine k_ret ?_
  obtain rfl := oi h
  exact er [(.p (.bool w3), 2)]
theorem wk_impl_walkVectorsO {a0 : (List (List Int))} {a1 : Int}  {r : (List (List Int))} (h : impl_walkVectorsO a0 a1 = some r) : Meets Try.prog 77 [.d false [.sl none (a0.map (eF eI))], wI a1] { vals := [.ov false [.sl (some 22) (r.map (eO 3 eI))]] } := by
 refine mo Try.func77 [(0, .d false [.sl none (a0.map (eF eI))]), (1, .p (iV a1))] ?_
 unfold impl_walkVectorsO at h
 refine k_sreg (r_gq [(0, .d false [.sl none (a0.map (eF eI))]), (1, .p (iV a1))] [] trivial) ?_
 replace h := bs h
 obtain ⟨v1, hv1, h⟩ := h
 refine k_sreg (r_gq [(0, .d false [.sl none (a0.map (eF eI))]), (1, .p (iV a1)), (5, .ov false [.sl (some 3) (v1.map eI)])] [(2, {n := some a0.length}), (3, {call := some (some [.d false [.sl none (([1]).map eI)], wI (a0.length : Int)], [.ov false [.sl (some 3) (v1.map eI)]], true)})] (A4 (show (a0.map (eF eI)).length = a0.length from (List.length_map ..)) (show ([.d false [.sl none (eraL (([1]).map eI))], wI (a0.length : Int)] : List Arg) = [.d false [.sl none (([1]).map eI)], wI (a0.length : Int)] from (by simp only [eraL_enc (h := eI) er_I])) (wk_slices_Repeat_Lint_int hv1) (show List.all [.ov false [.sl (some 3) (v1.map eI)]] simpleR = true from (sa_o (wnR1 (wnL_enc wn_I) rfl) rfl)))) ?_
 refine k_sreg (r_link0 (t := 34) (e := 22) (e1 := 3) (row1 := (v1.map eI)) (k := (Int.toNat ((([v1]).length : Int) - 1))) [(0, .d false [.sl none (a0.map (eF eI))]), (1, .p (iV a1)), (5, .ref 6 [(0, 0), ((Int.toNat ((([v1]).length : Int) - 1)), 0)] none), (6, .ov false [.sl (some 22) (([v1]).map (eO 3 eI))])] ⟨rfl, rfl, rfl⟩ ⟨rfl, rfl, rfl⟩ ⟨rfl, rfl, rfl⟩ rfl (by decide) (by kernel_rfl) (by kernel_rfl) (by kernel_rfl) (by kernel_rfl) (by kernel_rfl) (by kernel_rfl) (by kernel_rfl) (by decide) (by kernel_rfl) rfl (by kernel_rfl)) ?_
 refine k_join (J := fun (x : (List (List Int))) => [(6, .ov false [.sl (some 22) (x.map (eO 3 eI))])]) (K := fun x => impl_walkVectorsO_k1 x = some r) (fun x2 h => ?_) ?_
 ·unfold impl_walkVectorsO_k1 at h
  refine k_sreg (r_gq [(4, .ov false [.sl (some 22) (x2.map (eO 3 eI))])] [] trivial) ?_
  refine k_ret ?_
  obtain rfl := oi h
  exact er [(.ov false [.sl (some 22) (x2.map (eO 3 eI))], 4)]
 ·refine k_sreg (r_gq [(0, .d false [.sl none (a0.map (eF eI))]), (5, .ref 6 [(0, 0), ((Int.toNat ((([v1]).length : Int) - 1)), 0)] none), (6, .ov false [.sl (some 22) (([v1]).map (eO 3 eI))]), (15, .p (iV a1)), (16, .p (iV 0))] [] trivial) ?_
  refine k_block ?_
  obtain ⟨y4, hl_x3, hk_x3⟩ := bs h
  clear h
  refine k_loop (J := fun (x : ((List (List Int)) × Int)) => [(0, .d false [.sl none (a0.map (eF eI))]), (5, .ref 6 [(0, 0), ((Int.toNat ((x.1.length : Int) - 1)), 0)] none), (6, .ov false [.sl (some 22) (x.1.map (eO 3 eI))]), (15, .p (iV a1)), (16, .p (iV x.2))]) hl_x3 (wk_of (by kernel_rfl) (by kernel_rfl)) (fun x3 o_x3 h hy_x3 => ?_)
  unfold impl_walkVectorsO_b1 at h
  refine k_sreg (r_gq [(0, .d false [.sl none (a0.map (eF eI))]), (5, .ref 6 [(0, 0), ((Int.toNat ((x3.1.length : Int) - 1)), 0)] none), (6, .ov false [.sl (some 22) (x3.1.map (eO 3 eI))]), (15, .p (iV a1)), (16, .p (iV x3.2)), (17, .p (.bool (decide (x3.2 < a1))))] [] trivial) ?_
  refine k_seq ?_
  refine kc (decide (x3.2 < a1)) (fun hc5_4 => ?_) (fun hc5_4 => ?_)
  ·replace h := ite_t hc5_4 h
   refine k_skip ?_
   refine q_n ?_
   refine k_join (J := fun (x : (List (List Int))) => [(0, .d false [.sl none (a0.map (eF eI))]), (5, .ref 6 [(0, 0), ((Int.toNat ((x.length : Int) - 1)), 0)] none), (6, .ov false [.sl (some 22) (x.map (eO 3 eI))]), (15, .p (iV a1)), (16, .p (iV x3.2))]) (K := fun x => impl_walkVectorsO_k2 x3 x = some o_x3) (fun x6 h => ?_) ?_
   ·unfold impl_walkVectorsO_k2 at h
    refine k_reg (r_gq [(0, .d false [.sl none (a0.map (eF eI))]), (5, .ref 6 [(0, 0), ((Int.toNat ((x6.length : Int) - 1)), 0)] none), (6, .ov false [.sl (some 22) (x6.map (eO 3 eI))]), (15, .p (iV a1)), (16, .p (iV (w64 (x3.2 + 1))))] [] trivial) ?_
    exact lqn (x6, (w64 (x3.2 + 1))) h
   ·refine k_block ?_
    replace h := bs h
    obtain ⟨v7, hv7, h⟩ := h
    replace h := bs h
    obtain ⟨v8, hv8, h⟩ := h
    refine k_sreg (r_gq [(0, .d false [.sl none (a0.map (eF eI))]), (5, .ref 6 [(0, 0), ((Int.toNat ((x3.1.length : Int) - 1)), 0)] none), (6, .ov false [.sl (some 22) (x3.1.map (eO 3 eI))]), (7, .ov false [.sl (some 3) (v8.map eI)]), (15, .p (iV a1)), (16, .p (iV x3.2))] [(2, {call := some (some [.d false [.sl none (a0.map (eF eI))], .d false [.sl none (v7.map eI)]], [.ov false [.sl (some 3) (v8.map eI)]], true), deep := some [.sl (some 3) (v7.map eI)]})] (A4 (show ([.d false [.sl none (a0.map (eF eI))], .d false [.sl none (eraL (v7.map eI))]] : List Arg) = [.d false [.sl none (a0.map (eF eI))], .d false [.sl none (v7.map eI)]] from (by simp only [eraL_enc (h := eI) er_I])) (wk_impl_times hv8) (show List.all [.ov false [.sl (some 3) (v8.map eI)]] simpleR = true from (sa_o (wnR1 (wnL_enc wn_I) rfl) rfl)) (show getRow [[.sl (some 22) (x3.1.map (eO 3 eI))]] [(0, 0), ((Int.toNat ((x3.1.length : Int) - 1)), 0)] = some [.sl (some 3) (v7.map eI)] from ((gr0 rfl).trans (gre (map_get (eO 3 eI) (idxO_some hv7).2)))))) ?_
    refine k_join (J := fun (x : (List Int)) => [(0, .d false [.sl none (a0.map (eF eI))]), (6, .ov false [.sl (some 22) (x3.1.map (eO 3 eI))]), (7, .ov false [.sl (some 3) (x.map eI)]), (15, .p (iV a1)), (16, .p (iV x3.2))]) (K := fun x => impl_walkVectorsO_k3 x3 x = some o_x3) (fun x9 h => ?_) ?_
    ·unfold impl_walkVectorsO_k3 at h
     refine k_seq ?_
     replace h := bs h
     obtain ⟨v10, hv10, h⟩ := h
     refine k_sreg (r_gq [(0, .d false [.sl none (a0.map (eF eI))]), (6, .ov false [.sl (some 22) (x3.1.map (eO 3 eI))]), (7, .ov false [.sl (some 3) (x9.map eI)]), (15, .p (iV a1)), (16, .p (iV x3.2)), (39, .p (.bool (!v10)))] [(1, {call := some (some [.d false [.sl none (x9.map eI)]], [.p (.bool v10)], true)})] (A2 (show ([.d false [.sl none (eraL (x9.map eI))]] : List Arg) = [.d false [.sl none (x9.map eI)]] from (by simp only [eraL_enc (h := eI) er_I])) (wk_impl_isVector hv10))) ?_
     refine kc (!v10) (fun hc7_10 => ?_) (fun hc7_10 => ?_)
     ·replace h := ite_t hc7_10 h
      refine k_exit ?_
      refine q_x ?_
      refine b_y rfl ?_
      refine q_x ?_
      refine lq_x ?_
      refine b_x ?_
      have hyy := hy_x3 _ (oi h).symm
      subst hyy
      have h := hk_x3
      refine q_n ?_
      exact jx x3.1 h
     ·replace h := ite_f hc7_10 h
      refine k_skip ?_
      refine q_n ?_
      replace h := bs h
      obtain ⟨u12, hu12, h⟩ := h
      refine k_sreg (r_link (t := 34) (e := 22) (e1 := 3) (rows := (x3.1.map (eO 3 eI))) (row1 := (x9.map eI)) (rows' := ((x3.1 ++ [x9]).map (eO 3 eI))) (k := (Int.toNat (((x3.1 ++ [x9]).length : Int) - 1))) [(0, .d false [.sl none (a0.map (eF eI))]), (6, .ov false [.sl (some 22) ((x3.1 ++ [x9]).map (eO 3 eI))]), (7, .ref 6 [(0, 0), ((Int.toNat (((x3.1 ++ [x9]).length : Int) - 1)), 0)] none), (15, .p (iV a1)), (16, .p (iV x3.2))] ⟨rfl, rfl, rfl⟩ ⟨rfl, rfl, rfl⟩ ⟨rfl, rfl, rfl⟩ ⟨rfl, rfl, rfl⟩ ⟨rfl, rfl, rfl⟩ rfl (by decide) (by kernel_rfl) (by kernel_rfl) (by kernel_rfl) (by kernel_rfl) (by kernel_rfl) (by kernel_rfl) (by kernel_rfl) (by have hg := (guardO_some hu12); simpa using hg) (by rw [List.map_append]; rfl) (by simp) (by kernel_rfl) (by kernel_rfl) (by decide) (by kernel_rfl) (by kernel_rfl)) ?_
      refine k_reg (r_gq [(0, .d false [.sl none (a0.map (eF eI))]), (5, .ref 6 [(0, 0), ((Int.toNat (((x3.1 ++ [x9]).length : Int) - 1)), 0)] none), (6, .ov false [.sl (some 22) ((x3.1 ++ [x9]).map (eO 3 eI))]), (15, .p (iV a1)), (16, .p (iV x3.2))] [] trivial) ?_
      refine b_n ?_
      refine q_n ?_
      exact jx (x3.1 ++ [x9]) h
    ·refine k_sreg (r_gq [(0, .d false [.sl none (a0.map (eF eI))]), (5, .ref 6 [(0, 0), ((Int.toNat ((x3.1.length : Int) - 1)), 0)] none), (6, .ov false [.sl (some 22) (x3.1.map (eO 3 eI))]), (7, .ov false [.sl (some 3) (v8.map eI)]), (15, .p (iV a1)), (16, .p (iV x3.2)), (22, .p (iV (v8.length : Int))), (23, .p (iV 0))] [(1, {n := some v8.length})] (A1 (show (v8.map eI).length = v8.length from (List.length_map ..)))) ?_
     refine k_block ?_
     obtain ⟨y14, hl_x13, hk_x13⟩ := bs h
     clear h
     refine k_loop (J := fun (x : ((List Int) × Int)) => [(0, .d false [.sl none (a0.map (eF eI))]), (5, .ref 6 [(0, 0), ((Int.toNat ((x3.1.length : Int) - 1)), 0)] none), (6, .ov false [.sl (some 22) (x3.1.map (eO 3 eI))]), (7, .ov false [.sl (some 3) (x.1.map eI)]), (15, .p (iV a1)), (16, .p (iV x3.2)), (22, .p (iV (v8.length : Int))), (23, .p (iV x.2))]) hl_x13 (wk_of (by kernel_rfl) (by kernel_rfl)) (fun x13 o_x13 h hy_x13 => ?_)
     unfold impl_walkVectorsO_b2 at h
     refine k_sreg (r_gq [(0, .d false [.sl none (a0.map (eF eI))]), (5, .ref 6 [(0, 0), ((Int.toNat ((x3.1.length : Int) - 1)), 0)] none), (6, .ov false [.sl (some 22) (x3.1.map (eO 3 eI))]), (7, .ov false [.sl (some 3) (x13.1.map eI)]), (15, .p (iV a1)), (16, .p (iV x3.2)), (22, .p (iV (v8.length : Int))), (23, .p (iV x13.2)), (24, .p (.bool (decide (x13.2 < (v8.length : Int)))))] [] trivial) ?_
     refine k_seq ?_
     refine kc (decide (x13.2 < (v8.length : Int))) (fun hc10_14 => ?_) (fun hc10_14 => ?_)
     ·replace h := ite_t hc10_14 h
      refine k_skip ?_
      refine q_n ?_
      refine k_seq ?_
      refine k_block ?_
      refine k_sreg (r_gq [(0, .d false [.sl none (a0.map (eF eI))]), (5, .ref 6 [(0, 0), ((Int.toNat ((x3.1.length : Int) - 1)), 0)] none), (6, .ov false [.sl (some 22) (x3.1.map (eO 3 eI))]), (7, .ov false [.sl (some 3) (x13.1.map eI)]), (8, .p (iV x13.2)), (15, .p (iV a1)), (16, .p (iV x3.2)), (22, .p (iV (v8.length : Int))), (23, .p (iV x13.2))] [] trivial) ?_
      replace h := bs h
      obtain ⟨v16, hv16, h⟩ := h
      replace h := bs h
      obtain ⟨v17, hv17, h⟩ := h
      refine k_reg (r_dq Try_mixed 8 [] [(0, .d false [.sl none (a0.map (eF eI))]), (5, .ref 6 [(0, 0), ((Int.toNat ((x3.1.length : Int) - 1)), 0)] none), (6, .ov false [.sl (some 22) (x3.1.map (eO 3 eI))]), (7, .ov false [.sl (some 3) ((x13.1.set (Int.toNat x13.2) (w64 (v16 + v17))).map eI)]), (15, .p (iV a1)), (16, .p (iV x3.2)), (22, .p (iV (v8.length : Int))), (23, .p (iV x13.2))] [(2, {row := some (eI v16)}), (3, {row := some (eI v16)}), (6, {deep := some [.sl (some 3) (v7.map eI)], row := some (eI v17)}), (7, {row := some (eI v17)}), (9, {row := some (eI v16)}), (10, {row := some (eI v16), fix := some (7, .ov false [.sl (some 3) ((x13.1.set (Int.toNat x13.2) (w64 (v16 + v17))).map eI)])})] (B6 (idxO_some hv16).1 (map_get eI (idxO_some hv16).2) (show getRow [[.sl (some 3) (x13.1.map eI)]] [(0, 0), ((Int.toNat x13.2), 0)] = some (eI v16) from ((gr0 rfl).trans (gre (map_get eI (idxO_some hv16).2)))) (idxO_some hv17).1 (map_get eI (idxO_some hv17).2) (show getRow [[.sl (some 22) (x3.1.map (eO 3 eI))]] [(0, 0), ((Int.toNat ((x3.1.length : Int) - 1)), 0)] = some [.sl (some 3) (v7.map eI)] from ((gr0 rfl).trans (gre (map_get (eO 3 eI) (idxO_some hv7).2)))) (A5 (show getRow [[.sl (some 22) (x3.1.map (eO 3 eI))]] [(0, 0), ((Int.toNat ((x3.1.length : Int) - 1)), 0), ((Int.toNat x13.2), 0)] = some (eI v17) from ((gr0 rfl).trans ((grs (map_get (eO 3 eI) (idxO_some hv7).2) rfl).trans (gre (map_get eI (idxO_some hv17).2))))) (idxO_some hv16).1 (map_get eI (idxO_some hv16).2) (show getRow [[.sl (some 3) (x13.1.map eI)]] [(0, 0), ((Int.toNat x13.2), 0)] = some (eI v16) from ((gr0 rfl).trans (gre (map_get eI (idxO_some hv16).2)))) (show (SV.ov false [.sl (some 3) (setL (x13.1.map eI) [((Int.toNat x13.2), 0)] [rI (w64 (v16 + v17))])] : SV) = .ov false [.sl (some 3) ((x13.1.set (Int.toNat x13.2) (w64 (v16 + v17))).map eI)] from (congrArg (fun z => SV.ov false [.sl (some 3) z]) (set1 (f := eI) (y := (w64 (v16 + v17))) (idxO_some hv16).2 rfl)))))) ?_
      refine b_n ?_
      refine q_n ?_
      refine k_reg (r_gq [(0, .d false [.sl none (a0.map (eF eI))]), (5, .ref 6 [(0, 0), ((Int.toNat ((x3.1.length : Int) - 1)), 0)] none), (6, .ov false [.sl (some 22) (x3.1.map (eO 3 eI))]), (7, .ov false [.sl (some 3) ((x13.1.set (Int.toNat x13.2) (w64 (v16 + v17))).map eI)]), (15, .p (iV a1)), (16, .p (iV x3.2)), (22, .p (iV (v8.length : Int))), (23, .p (iV (w64 (x13.2 + 1))))] [] trivial) ?_
      exact lqn ((x13.1.set (Int.toNat x13.2) (w64 (v16 + v17))), (w64 (x13.2 + 1))) h
     ·replace h := ite_f hc10_14 h
      refine k_exit ?_
      refine q_x ?_
      refine lq_x ?_
      refine b_x ?_
      have hyy := hy_x13 _ (oi h).symm
      subst hyy
      have h := hk_x13
      refine q_n ?_
      exact jx x13.1 h
  ·replace h := ite_f hc5_4 h
   refine k_exit ?_
   refine q_x ?_
   refine lq_x ?_
   refine b_x ?_
   have hyy := hy_x3 _ (oi h).symm
   subst hyy
   have h := hk_x3
   refine q_n ?_
   exact jx x3.1 h
theorem wk_impl_WalkVectorO {a0 : (List (List Int))} {a1 : Int}  {r : ((List Int) × Bool)} (h : impl_WalkVectorO a0 a1 = some r) : Meets Try.prog 40 [.d false [.sl none (a0.map (eF eI))], wI a1] { vals := [.ov false [.sl (some 3) (r.1.map eI)], .p (.bool r.2)] } := by
 refine mo Try.func40 [(0, .d false [.sl none (a0.map (eF eI))]), (1, .p (iV a1))] ?_
 unfold impl_WalkVectorO at h
 refine k_sreg (r_gq [(0, .d false [.sl none (a0.map (eF eI))]), (1, .p (iV a1))] [] trivial) ?_
 refine k_seq ?_
 replace h := bs h
 obtain ⟨v1, hv1, h⟩ := h
 replace h := bs h
 obtain ⟨w3, hw3, h⟩ := h
 refine k_sreg (l1 := [(0, .d false [.sl none (a0.map (eF eI))]), (1, .p (iV a1)), (14, .p (.bool w3))]) ?_ ?_
 ·clear h
  rcases ft (!v1) with ha0 | ha0
  ·replace hw3 := ite_t ha0 hw3
   have hw3 := oi hw3
   subst hw3
   exact (r_gq [(0, .d false [.sl none (a0.map (eF eI))]), (1, .p (iV a1)), (14, .p (.bool true))] [(1, {call := some (none, [.p (.bool v1)], true)}), (4, gT), (5, gT), (6, gT), (7, bT)] (A5 (wk_impl_isGraph hv1) ha0 ha0 ha0 ha0))
  ·replace hw3 := ite_f ha0 hw3
   replace hw3 := bs hw3
   obtain ⟨v2, hv2, hw3⟩ := hw3
   have hw3 := oi hw3
   subst hw3
   exact (r_gq [(0, .d false [.sl none (a0.map (eF eI))]), (1, .p (iV a1)), (14, .p (.bool (!v2)))] [(1, {call := some (none, [.p (.bool v1)], true)}), (4, gF), (5, {g := some false, call := some (none, [.p (.bool v2)], true)}), (6, gF), (7, bF)] (A6 (wk_impl_isGraph hv1) ha0 ha0 (wk_impl_within hv2) ha0 ha0))
 ·refine kc w3 (fun hc2_3 => ?_) (fun hc2_3 => ?_)
  ·replace h := ite_t hc2_3 h
   refine k_sreg (r_gq [(4, .ov false [.sl (some 3) []]), (5, .p (.bool false))] [] trivial) ?_
   refine k_ret ?_
   refine q_r ?_
   obtain rfl := oi h
   exact er [(.ov false [.sl (some 3) []], 4), (.p (.bool false), 5)]
  ·replace h := ite_f hc2_3 h
   refine k_skip ?_
   refine q_n ?_
   replace h := bs h
   obtain ⟨v5, hv5, h⟩ := h
   refine k_sreg (r_gq [(1, .p (iV a1)), (6, .ov false [.sl (some 22) (v5.map (eO 3 eI))])] [(2, {call := some (none, [.ov false [.sl (some 22) (v5.map (eO 3 eI))]], true)})] (A2 (wk_impl_walkVectorsO hv5) (show List.all [.ov false [.sl (some 22) (v5.map (eO 3 eI))]] simpleR = true from (sa_o (wnR1 (wnL_enc (wn_O wn_I)) rfl) rfl)))) ?_
   refine k_seq ?_
   refine k_sreg (r_gq [(1, .p (iV a1)), (6, .ov false [.sl (some 22) (v5.map (eO 3 eI))]), (21, .p (.bool (decide ((v5.length : Int) ≤ a1))))] [(1, {n := some v5.length})] (A1 (show (v5.map (eO 3 eI)).length = v5.length from (List.length_map ..)))) ?_
   refine kc (decide ((v5.length : Int) ≤ a1)) (fun hc2_5 => ?_) (fun hc2_5 => ?_)
   ·replace h := ite_t hc2_5 h
    refine k_sreg (r_gq [(4, .ov false [.sl (some 3) []]), (5, .p (.bool false))] [] trivial) ?_
    refine k_ret ?_
    refine q_r ?_
    obtain rfl := oi h
    exact er [(.ov false [.sl (some 3) []], 4), (.p (.bool false), 5)]
   ·replace h := ite_f hc2_5 h
    refine k_skip ?_
    refine q_n ?_
    replace h := bs h
    obtain ⟨v7, hv7, h⟩ := h
    refine k_sreg (r_gq [(4, .ov false [.sl (some 3) (v7.map eI)]), (5, .p (.bool true))] [(2, {row := some [.sl (some 3) (v7.map eI)]}), (3, {row := some [.sl (some 3) (v7.map eI)]}), (4, {deep := some [.sl (some 3) (v7.map eI)]})] (A5 (idxO_some hv7).1 (map_get (eO 3 eI) (idxO_some hv7).2) (show frR [.sl (some 3) (v7.map eI)] = false from rfl) (show getRow [[.sl (some 22) (v5.map (eO 3 eI))]] [(0, 0), ((Int.toNat a1), 0)] = some [.sl (some 3) (v7.map eI)] from ((gr0 rfl).trans (gre (map_get (eO 3 eI) (idxO_some hv7).2)))) (show getRow [[.sl (some 22) (v5.map (eO 3 eI))]] [(0, 0), ((Int.toNat a1), 0)] = some [.sl (some 3) (v7.map eI)] from ((gr0 rfl).trans (gre (map_get (eO 3 eI) (idxO_some hv7).2)))))) ?_
    refine k_ret ?_
    obtain rfl := oi h
    exact er [(.ov false [.sl (some 3) (v7.map eI)], 4), (.p (.bool true), 5)]
theorem wk_laws_eqIntS {a0 : (List Int)} {a1 : (List Int)}  {r : Bool} (h : laws_eqIntS a0 a1 = some r) : Meets Try.prog 18 [.d false [.sl none (a0.map eI)], .d false [.sl none (a1.map eI)]] { vals := [.p (.bool r)] } := by
 refine mo Try.func18 [(0, .d false [.sl none (a0.map eI)]), (1, .d false [.sl none (a1.map eI)])] ?_
 unfold laws_eqIntS at h
 refine k_sreg (r_gq [(0, .d false [.sl none (a0.map eI)]), (1, .d false [.sl none (a1.map eI)])] [] trivial) ?_
 refine k_seq ?_
 refine k_sreg (r_gq [(0, .d false [.sl none (a0.map eI)]), (1, .d false [.sl none (a1.map eI)]), (10, .p (.bool ((a0.length : Int) != (a1.length : Int))))] [(1, {n := some a0.length}), (3, {n := some a1.length})] (A2 (show (a0.map eI).length = a0.length from (List.length_map ..)) (show (a1.map eI).length = a1.length from (List.length_map ..)))) ?_
 refine kc ((a0.length : Int) != (a1.length : Int)) (fun hc2_0 => ?_) (fun hc2_0 => ?_)
 ·replace h := ite_t hc2_0 h
  refine k_sreg (r_gq [(4, .p (.bool false))] [] trivial) ?_
  refine k_ret ?_
  refine q_r ?_
  obtain rfl := oi h
  exact er [(.p (.bool false), 4)]
 ·replace h := ite_f hc2_0 h
  refine k_skip ?_
  refine q_n ?_
  refine k_join (J := fun (x : Unit) => []) (K := fun x => laws_eqIntS_k1 x = some r) (fun x2 h => ?_) ?_
  ·unfold laws_eqIntS_k1 at h
   refine k_sreg (r_gq [(4, .p (.bool true))] [] trivial) ?_
   refine k_ret ?_
   obtain rfl := oi h
   exact er [(.p (.bool true), 4)]
  ·refine k_sreg (r_gq [(0, .d false [.sl none (a0.map eI)]), (1, .d false [.sl none (a1.map eI)]), (5, .p (iV 0))] [] trivial) ?_
   refine k_block ?_
   obtain ⟨y4, hl_x3, hk_x3⟩ := bs h
   clear h
   refine k_loop (J := fun (x : Int) => [(0, .d false [.sl none (a0.map eI)]), (1, .d false [.sl none (a1.map eI)]), (5, .p (iV x))]) hl_x3 (wk_of (by kernel_rfl) (by kernel_rfl)) (fun x3 o_x3 h hy_x3 => ?_)
   unfold laws_eqIntS_b1 at h
   refine k_seq ?_
   refine k_sreg (r_gq [(0, .d false [.sl none (a0.map eI)]), (1, .d false [.sl none (a1.map eI)]), (5, .p (iV x3)), (14, .p (.bool (decide (x3 < (a0.length : Int)))))] [(2, {n := some a0.length})] (A1 (show (a0.map eI).length = a0.length from (List.length_map ..)))) ?_
   refine kc (decide (x3 < (a0.length : Int))) (fun hc5_4 => ?_) (fun hc5_4 => ?_)
   ·replace h := ite_t hc5_4 h
    refine k_skip ?_
    refine q_n ?_
    refine k_seq ?_
    refine k_block ?_
    replace h := bs h
    obtain ⟨v6, hv6, h⟩ := h
    replace h := bs h
    obtain ⟨v7, hv7, h⟩ := h
    refine k_sreg (r_dq Try_mixed 8 [] [(0, .d false [.sl none (a0.map eI)]), (1, .d false [.sl none (a1.map eI)]), (5, .p (iV x3)), (25, .p (.bool (v6 != v7)))] [(2, {row := some (eI v6)}), (6, {row := some (eI v7)})] (A4 (idxO_some hv6).1 (map_get eI (idxO_some hv6).2) (idxO_some hv7).1 (map_get eI (idxO_some hv7).2))) ?_
    refine kc (v6 != v7) (fun hc6_7 => ?_) (fun hc6_7 => ?_)
    ·replace h := ite_t hc6_7 h
     refine k_sreg (r_gq [(4, .p (.bool false))] [] trivial) ?_
     refine k_ret ?_
     refine b_r ?_
     refine q_r ?_
     refine lq_r ?_
     refine b_r ?_
     refine q_r ?_
     have hyy := hy_x3 _ (oi h).symm
     subst hyy
     have h := hk_x3
     dsimp only [Sum.elim] at h
     obtain rfl := oi h
     exact er [(.p (.bool false), 4)]
    ·replace h := ite_f hc6_7 h
     refine k_skip ?_
     refine b_n ?_
     refine q_n ?_
     refine k_reg (r_gq [(0, .d false [.sl none (a0.map eI)]), (1, .d false [.sl none (a1.map eI)]), (5, .p (iV (w64 (x3 + 1))))] [] trivial) ?_
     exact lqn (w64 (x3 + 1)) h
   ·replace h := ite_f hc5_4 h
    refine k_exit ?_
    refine q_x ?_
    refine lq_x ?_
    refine b_x ?_
    have hyy := hy_x3 _ (oi h).symm
    subst hyy
    have h := hk_x3
    dsimp only [Sum.elim] at h
    refine q_n ?_
    exact jx () h
theorem wk_laws_eqIntSS {a0 : (List (List Int))} {a1 : (List (List Int))}  {r : Bool} (h : laws_eqIntSS a0 a1 = some r) : Meets Try.prog 27 [.d false [.sl none (a0.map (eF eI))], .d false [.sl none (a1.map (eF eI))]] { vals := [.p (.bool r)] } := by
 refine mo Try.func27 [(0, .d false [.sl none (a0.map (eF eI))]), (1, .d false [.sl none (a1.map (eF eI))])] ?_
 unfold laws_eqIntSS at h
 refine k_sreg (r_gq [(0, .d false [.sl none (a0.map (eF eI))]), (1, .d false [.sl none (a1.map (eF eI))])] [] trivial) ?_
 refine k_seq ?_
 refine k_sreg (r_gq [(0, .d false [.sl none (a0.map (eF eI))]), (1, .d false [.sl none (a1.map (eF eI))]), (10, .p (.bool ((a0.length : Int) != (a1.length : Int))))] [(1, {n := some a0.length}), (3, {n := some a1.length})] (A2 (show (a0.map (eF eI)).length = a0.length from (List.length_map ..)) (show (a1.map (eF eI)).length = a1.length from (List.length_map ..)))) ?_
 refine kc ((a0.length : Int) != (a1.length : Int)) (fun hc2_0 => ?_) (fun hc2_0 => ?_)
 ·replace h := ite_t hc2_0 h
  refine k_sreg (r_gq [(4, .p (.bool false))] [] trivial) ?_
  refine k_ret ?_
  refine q_r ?_
  obtain rfl := oi h
  exact er [(.p (.bool false), 4)]
 ·replace h := ite_f hc2_0 h
  refine k_skip ?_
  refine q_n ?_
  refine k_join (J := fun (x : Unit) => []) (K := fun x => laws_eqIntSS_k1 x = some r) (fun x2 h => ?_) ?_
  ·unfold laws_eqIntSS_k1 at h
   refine k_sreg (r_gq [(4, .p (.bool true))] [] trivial) ?_
   refine k_ret ?_
   obtain rfl := oi h
   exact er [(.p (.bool true), 4)]
  ·refine k_sreg (r_gq [(0, .d false [.sl none (a0.map (eF eI))]), (1, .d false [.sl none (a1.map (eF eI))]), (5, .p (iV 0))] [] trivial) ?_
   refine k_block ?_
   obtain ⟨y4, hl_x3, hk_x3⟩ := bs h
   clear h
   refine k_loop (J := fun (x : Int) => [(0, .d false [.sl none (a0.map (eF eI))]), (1, .d false [.sl none (a1.map (eF eI))]), (5, .p (iV x))]) hl_x3 (wk_of (by kernel_rfl) (by kernel_rfl)) (fun x3 o_x3 h hy_x3 => ?_)
   unfold laws_eqIntSS_b1 at h
   refine k_seq ?_
   refine k_sreg (r_gq [(0, .d false [.sl none (a0.map (eF eI))]), (1, .d false [.sl none (a1.map (eF eI))]), (5, .p (iV x3)), (14, .p (.bool (decide (x3 < (a0.length : Int)))))] [(2, {n := some a0.length})] (A1 (show (a0.map (eF eI)).length = a0.length from (List.length_map ..)))) ?_
   refine kc (decide (x3 < (a0.length : Int))) (fun hc5_4 => ?_) (fun hc5_4 => ?_)
   ·replace h := ite_t hc5_4 h
    refine k_skip ?_
    refine q_n ?_
    refine k_seq ?_
    refine k_block ?_
    replace h := bs h
    obtain ⟨v6, hv6, h⟩ := h
    replace h := bs h
    obtain ⟨v7, hv7, h⟩ := h
    replace h := bs h
    obtain ⟨v8, hv8, h⟩ := h
    refine k_sreg (r_dq Try_mixed 8 [] [(0, .d false [.sl none (a0.map (eF eI))]), (1, .d false [.sl none (a1.map (eF eI))]), (5, .p (iV x3)), (26, .p (.bool (!v8)))] [(2, {row := some [.sl none (v6.map eI)]}), (6, {row := some [.sl none (v7.map eI)]}), (8, {call := some (none, [.p (.bool v8)], true)})] (A5 (idxO_some hv6).1 (map_get (eF eI) (idxO_some hv6).2) (idxO_some hv7).1 (map_get (eF eI) (idxO_some hv7).2) (wk_laws_eqIntS hv8))) ?_
    refine kc (!v8) (fun hc6_8 => ?_) (fun hc6_8 => ?_)
    ·replace h := ite_t hc6_8 h
     refine k_sreg (r_gq [(4, .p (.bool false))] [] trivial) ?_
     refine k_ret ?_
     refine b_r ?_
     refine q_r ?_
     refine lq_r ?_
     refine b_r ?_
     refine q_r ?_
     have hyy := hy_x3 _ (oi h).symm
     subst hyy
     have h := hk_x3
     dsimp only [Sum.elim] at h
     obtain rfl := oi h
     exact er [(.p (.bool false), 4)]
    ·replace h := ite_f hc6_8 h
     refine k_skip ?_
     refine b_n ?_
     refine q_n ?_
     refine k_reg (r_gq [(0, .d false [.sl none (a0.map (eF eI))]), (1, .d false [.sl none (a1.map (eF eI))]), (5, .p (iV (w64 (x3 + 1))))] [] trivial) ?_
     exact lqn (w64 (x3 + 1)) h
   ·replace h := ite_f hc5_4 h
    refine k_exit ?_
    refine q_x ?_
    refine lq_x ?_
    refine b_x ?_
    have hyy := hy_x3 _ (oi h).symm
    subst hyy
    have h := hk_x3
    dsimp only [Sum.elim] at h
    refine q_n ?_
    exact jx () h
theorem wk_laws_markIntS {a0 : (List Int)} {a1 : Int}  {r : (Int × (List Int))} (h : laws_markIntS a0 a1 = some r) : MeetsB Try.prog 29 (.ov false [.sl (some 3) (a0.map eI)]) [wI a1] [.p (iV r.1)] (.ov false [.sl (some 3) (r.2.map eI)]) := by
 refine mob Try.func29 [(0, .ov false [.sl (some 3) (a0.map eI)]), (1, .p (iV a1))] ?_
 unfold laws_markIntS at h
 refine k_sreg (r_gq [(0, .ov false [.sl (some 3) (a0.map eI)]), (1, .p (iV a1))] [] trivial) ?_
 refine k_join (J := fun (x : ((List Int) × Int)) => [(0, .ov false [.sl (some 3) (x.1.map eI)]), (1, .p (iV x.2))]) (K := fun x => laws_markIntS_k1 x = some r) (fun x1 h => ?_) ?_
 ·unfold laws_markIntS_k1 at h
  refine k_sreg (r_gq [(0, .ov false [.sl (some 3) (x1.1.map eI)]), (4, .p (iV x1.2))] [] trivial) ?_
  refine k_ret ?_
  obtain rfl := oi h
  exact ebr [(.p (iV x1.2), 4)]
 ·refine k_sreg (r_gq [(0, .ov false [.sl (some 3) (a0.map eI)]), (1, .p (iV a1)), (5, .p (iV 0))] [] trivial) ?_
  refine k_block ?_
  obtain ⟨y3, hl_x2, hk_x2⟩ := bs h
  clear h
  refine k_loop (J := fun (x : Cu) => [(0, .ov false [.sl (some 3) (x.1.map eI)]), (1, .p (iV x.2.1)), (5, .p (iV x.2.2))]) hl_x2 (wk_of (by kernel_rfl) (by kernel_rfl)) (fun x2 o_x2 h hy_x2 => ?_)
  unfold laws_markIntS_b1 at h
  refine k_seq ?_
  refine k_sreg (r_gq [(0, .ov false [.sl (some 3) (x2.1.map eI)]), (1, .p (iV x2.2.1)), (5, .p (iV x2.2.2)), (9, .p (.bool (decide (x2.2.2 < (x2.1.length : Int)))))] [(2, {n := some x2.1.length})] (A1 (show (x2.1.map eI).length = x2.1.length from (List.length_map ..)))) ?_
  refine kc (decide (x2.2.2 < (x2.1.length : Int))) (fun hc5_3 => ?_) (fun hc5_3 => ?_)
  ·replace h := ite_t hc5_3 h
   refine k_skip ?_
   refine q_n ?_
   refine k_seq ?_
   refine k_block ?_
   replace h := bs h
   obtain ⟨v5, hv5, h⟩ := h
   refine k_sreg (r_gq [(0, .ov false [.sl (some 3) ((x2.1.set (Int.toNat x2.2.2) x2.2.1).map eI)]), (1, .p (iV x2.2.1)), (5, .p (iV x2.2.2))] [(3, {row := some (eI v5)}), (4, {row := some (eI v5), fix := some (0, .ov false [.sl (some 3) ((x2.1.set (Int.toNat x2.2.2) x2.2.1).map eI)])})] (A4 (idxO_some hv5).1 (map_get eI (idxO_some hv5).2) (show getRow [[.sl (some 3) (x2.1.map eI)]] [(0, 0), ((Int.toNat x2.2.2), 0)] = some (eI v5) from ((gr0 rfl).trans (gre (map_get eI (idxO_some hv5).2)))) (show (SV.ov false [.sl (some 3) (setL (x2.1.map eI) [((Int.toNat x2.2.2), 0)] (eI x2.2.1))] : SV) = .ov false [.sl (some 3) ((x2.1.set (Int.toNat x2.2.2) x2.2.1).map eI)] from (congrArg (fun z => SV.ov false [.sl (some 3) z]) (set1 (f := eI) (y := x2.2.1) (idxO_some hv5).2 rfl))))) ?_
   refine k_reg (r_gq [(0, .ov false [.sl (some 3) ((x2.1.set (Int.toNat x2.2.2) x2.2.1).map eI)]), (1, .p (iV (w64 (x2.2.1 + 1)))), (5, .p (iV x2.2.2))] [] trivial) ?_
   refine b_n ?_
   refine q_n ?_
   refine k_reg (r_gq [(0, .ov false [.sl (some 3) ((x2.1.set (Int.toNat x2.2.2) x2.2.1).map eI)]), (1, .p (iV (w64 (x2.2.1 + 1)))), (5, .p (iV (w64 (x2.2.2 + 1))))] [] trivial) ?_
   exact lqn ((x2.1.set (Int.toNat x2.2.2) x2.2.1), (w64 (x2.2.1 + 1)), (w64 (x2.2.2 + 1))) h
  ·replace h := ite_f hc5_3 h
   refine k_exit ?_
   refine q_x ?_
   refine lq_x ?_
   refine b_x ?_
   have hyy := hy_x2 _ (oi h).symm
   subst hyy
   have h := hk_x2
   refine q_n ?_
   exact jx (x2.1, x2.2.1) h
theorem wk_laws_markIntSS {a0 : (List (List Int))} {a1 : Int}  {r : (Int × (List (List Int)))} (h : laws_markIntSS a0 a1 = some r) : MeetsB Try.prog 28 (.ov false [.sl (some 22) (a0.map (eO 3 eI))]) [wI a1] [.p (iV r.1)] (.ov false [.sl (some 22) (r.2.map (eO 3 eI))]) := by
 refine mob Try.func28 [(0, .ov false [.sl (some 22) (a0.map (eO 3 eI))]), (1, .p (iV a1))] ?_
 unfold laws_markIntSS at h
 refine k_sreg (r_gq [(0, .ov false [.sl (some 22) (a0.map (eO 3 eI))]), (1, .p (iV a1))] [] trivial) ?_
 refine k_join (J := fun (x : ((List (List Int)) × Int)) => [(0, .ov false [.sl (some 22) (x.1.map (eO 3 eI))]), (1, .p (iV x.2))]) (K := fun x => laws_markIntSS_k1 x = some r) (fun x1 h => ?_) ?_
 ·unfold laws_markIntSS_k1 at h
  refine k_sreg (r_gq [(0, .ov false [.sl (some 22) (x1.1.map (eO 3 eI))]), (4, .p (iV x1.2))] [] trivial) ?_
  refine k_ret ?_
  obtain rfl := oi h
  exact ebr [(.p (iV x1.2), 4)]
 ·refine k_sreg (r_gq [(0, .ov false [.sl (some 22) (a0.map (eO 3 eI))]), (1, .p (iV a1)), (5, .p (iV 0))] [] trivial) ?_
  refine k_block ?_
  obtain ⟨y3, hl_x2, hk_x2⟩ := bs h
  clear h
  refine k_loop (J := fun (x : ((List (List Int)) × Int × Int)) => [(0, .ov false [.sl (some 22) (x.1.map (eO 3 eI))]), (1, .p (iV x.2.1)), (5, .p (iV x.2.2))]) hl_x2 (wk_of (by kernel_rfl) (by kernel_rfl)) (fun x2 o_x2 h hy_x2 => ?_)
  unfold laws_markIntSS_b1 at h
  refine k_seq ?_
  refine k_sreg (r_gq [(0, .ov false [.sl (some 22) (x2.1.map (eO 3 eI))]), (1, .p (iV x2.2.1)), (5, .p (iV x2.2.2)), (9, .p (.bool (decide (x2.2.2 < (x2.1.length : Int)))))] [(2, {n := some x2.1.length})] (A1 (show (x2.1.map (eO 3 eI)).length = x2.1.length from (List.length_map ..)))) ?_
  refine kc (decide (x2.2.2 < (x2.1.length : Int))) (fun hc5_3 => ?_) (fun hc5_3 => ?_)
  ·replace h := ite_t hc5_3 h
   refine k_skip ?_
   refine q_n ?_
   refine k_seq ?_
   refine k_block ?_
   replace h := bs h
   obtain ⟨v5, hv5, h⟩ := h
   replace h := bs h
   obtain ⟨v6, hv6, h⟩ := h
   refine k_reg (r_gq [(0, .ov false [.sl (some 22) ((x2.1.set (Int.toNat x2.2.2) v6.2).map (eO 3 eI))]), (1, .p (iV v6.1)), (5, .p (iV x2.2.2))] [(2, {row := some [.sl (some 3) (v5.map eI)]}), (3, {row := some [.sl (some 3) (v5.map eI)]}), (5, {lend := some (none, [.p (iV v6.1)], .ov false [.sl (some 3) (v6.2.map eI)], true), deep := some [.sl (some 3) (v5.map eI)], fix := some (0, .ov false [.sl (some 22) ((x2.1.set (Int.toNat x2.2.2) v6.2).map (eO 3 eI))])})] (B6 (idxO_some hv5).1 (map_get (eO 3 eI) (idxO_some hv5).2) (show frR [.sl (some 3) (v5.map eI)] = false from rfl) (show getRow [[.sl (some 22) (x2.1.map (eO 3 eI))]] [(0, 0), ((Int.toNat x2.2.2), 0)] = some [.sl (some 3) (v5.map eI)] from ((gr0 rfl).trans (gre (map_get (eO 3 eI) (idxO_some hv5).2)))) (wk_laws_markIntS hv6) (show (List.all [.p (iV v6.1)] simpleR && wnS (.ov false [.sl (some 3) (v6.2.map eI)])) = true from (ls_t rfl (wnR1 (wnL_enc wn_I) rfl))) (A2 (show getRow [[.sl (some 22) (x2.1.map (eO 3 eI))]] [(0, 0), ((Int.toNat x2.2.2), 0)] = some [.sl (some 3) (v5.map eI)] from ((gr0 rfl).trans (gre (map_get (eO 3 eI) (idxO_some hv5).2)))) (show (SV.ov false [.sl (some 22) (setL (x2.1.map (eO 3 eI)) [((Int.toNat x2.2.2), 0)] [.sl (some 3) (v6.2.map eI)])] : SV) = .ov false [.sl (some 22) ((x2.1.set (Int.toNat x2.2.2) v6.2).map (eO 3 eI))] from (congrArg (fun z => SV.ov false [.sl (some 22) z]) (set1 (f := (eO 3 eI)) (y := v6.2) (idxO_some hv5).2 rfl)))))) ?_
   refine b_n ?_
   refine q_n ?_
   refine k_reg (r_gq [(0, .ov false [.sl (some 22) ((x2.1.set (Int.toNat x2.2.2) v6.2).map (eO 3 eI))]), (1, .p (iV v6.1)), (5, .p (iV (w64 (x2.2.2 + 1))))] [] trivial) ?_
   exact lqn ((x2.1.set (Int.toNat x2.2.2) v6.2), v6.1, (w64 (x2.2.2 + 1))) h
  ·replace h := ite_f hc5_3 h
   refine k_exit ?_
   refine q_x ?_
   refine lq_x ?_
   refine b_x ?_
   have hyy := hy_x2 _ (oi h).symm
   subst hyy
   have h := hk_x2
   refine q_n ?_
   exact jx (x2.1, x2.2.1) h
theorem wk_laws_heldIntS {a0 : (List Int)} {a1 : Int}  {r : Int} (h : laws_heldIntS a0 a1 = some r) : Meets Try.prog 30 [.d false [.sl none (a0.map eI)], wI a1] { vals := [.p (iV r)] } := by
 refine mo Try.func30 [(0, .d false [.sl none (a0.map eI)]), (1, .p (iV a1))] ?_
 unfold laws_heldIntS at h
 refine k_sreg (r_gq [(0, .d false [.sl none (a0.map eI)]), (1, .p (iV a1))] [] trivial) ?_
 refine k_join (J := fun (x : Int) => [(1, .p (iV x))]) (K := fun x => laws_heldIntS_k1 x = some r) (fun x1 h => ?_) ?_
 ·unfold laws_heldIntS_k1 at h
  refine k_sreg (r_gq [(4, .p (iV x1))] [] trivial) ?_
  refine k_ret ?_
  obtain rfl := oi h
  exact er [(.p (iV x1), 4)]
 ·refine k_sreg (r_gq [(0, .d false [.sl none (a0.map eI)]), (1, .p (iV a1)), (5, .p (iV 0))] [] trivial) ?_
  refine k_block ?_
  obtain ⟨y3, hl_x2, hk_x2⟩ := bs h
  clear h
  refine k_loop (J := fun (x : Qr) => [(0, .d false [.sl none (a0.map eI)]), (1, .p (iV x.1)), (5, .p (iV x.2))]) hl_x2 (wk_of (by kernel_rfl) (by kernel_rfl)) (fun x2 o_x2 h hy_x2 => ?_)
  unfold laws_heldIntS_b1 at h
  refine k_seq ?_
  refine k_sreg (r_gq [(0, .d false [.sl none (a0.map eI)]), (1, .p (iV x2.1)), (5, .p (iV x2.2)), (9, .p (.bool (decide (x2.2 < (a0.length : Int)))))] [(2, {n := some a0.length})] (A1 (show (a0.map eI).length = a0.length from (List.length_map ..)))) ?_
  refine kc (decide (x2.2 < (a0.length : Int))) (fun hc5_3 => ?_) (fun hc5_3 => ?_)
  ·replace h := ite_t hc5_3 h
   refine k_skip ?_
   refine q_n ?_
   refine k_seq ?_
   refine k_block ?_
   refine k_seq ?_
   replace h := bs h
   obtain ⟨v5, hv5, h⟩ := h
   refine k_sreg (r_gq [(0, .d false [.sl none (a0.map eI)]), (1, .p (iV x2.1)), (5, .p (iV x2.2)), (17, .p (.bool (v5 != x2.1)))] [(2, {row := some (eI v5)})] (A2 (idxO_some hv5).1 (map_get eI (idxO_some hv5).2))) ?_
   refine kc (v5 != x2.1) (fun hc7_5 => ?_) (fun hc7_5 => ?_)
   ·replace h := ite_t hc7_5 h
    refine k_sreg (r_gq [(4, .p (iV (-1)))] [] trivial) ?_
    refine k_ret ?_
    refine q_r ?_
    refine b_r ?_
    refine q_r ?_
    refine lq_r ?_
    refine b_r ?_
    refine q_r ?_
    have hyy := hy_x2 _ (oi h).symm
    subst hyy
    have h := hk_x2
    dsimp only [Sum.elim] at h
    obtain rfl := oi h
    exact er [(.p (iV (-1)), 4)]
   ·replace h := ite_f hc7_5 h
    refine k_skip ?_
    refine q_n ?_
    refine k_reg (r_gq [(0, .d false [.sl none (a0.map eI)]), (1, .p (iV (w64 (x2.1 + 1)))), (5, .p (iV x2.2))] [] trivial) ?_
    refine b_n ?_
    refine q_n ?_
    refine k_reg (r_gq [(0, .d false [.sl none (a0.map eI)]), (1, .p (iV (w64 (x2.1 + 1)))), (5, .p (iV (w64 (x2.2 + 1))))] [] trivial) ?_
    exact lqn ((w64 (x2.1 + 1)), (w64 (x2.2 + 1))) h
  ·replace h := ite_f hc5_3 h
   refine k_exit ?_
   refine q_x ?_
   refine lq_x ?_
   refine b_x ?_
   have hyy := hy_x2 _ (oi h).symm
   subst hyy
   have h := hk_x2
   dsimp only [Sum.elim] at h
   refine q_n ?_
   exact jx x2.1 h
theorem wk_laws_FnExactWalkVector {a0 : (List (List Int))} {a1 : Int}  {r : Bool} (h : laws_FnExactWalkVector a0 a1 = some r) : Meets Try.prog 10 [.d false [.sl none (a0.map (eF eI))], wI a1] { vals := [.p (.bool r)] } := by
 refine mo Try.func10 [(0, .d false [.sl none (a0.map (eF eI))]), (1, .p (iV a1))] ?_
 unfold laws_FnExactWalkVector at h
 refine k_sreg (r_gq [(0, .d false [.sl none (a0.map (eF eI))]), (1, .p (iV a1))] [] trivial) ?_
 refine k_sreg (r_gq [(0, .d false [.sl none (a0.map (eF eI))]), (1, .p (iV a1)), (5, .p (iV 1048576))] [] trivial) ?_
 replace h := bs h
 obtain ⟨v1, hv1, h⟩ := h
 refine k_sreg (r_gq [(0, .d false [.sl none (a0.map (eF eI))]), (1, .p (iV a1)), (5, .p (iV v1))] [(2, {call := some (none, [.p (iV v1)], true)})] (A1 (wk_laws_szIntSS hv1))) ?_
 refine k_seq ?_
 refine k_sreg (r_gq [(0, .d false [.sl none (a0.map (eF eI))]), (1, .p (iV a1)), (20, .p (.bool (decide (v1 < 0))))] [] trivial) ?_
 refine kc (decide (v1 < 0)) (fun hc2_1 => ?_) (fun hc2_1 => ?_)
 ·replace h := ite_t hc2_1 h
  refine k_sreg (r_gq [(4, .p (.bool true))] [] trivial) ?_
  refine k_ret ?_
  refine q_r ?_
  obtain rfl := oi h
  exact er [(.p (.bool true), 4)]
 ·replace h := ite_f hc2_1 h
  refine k_skip ?_
  refine q_n ?_
  replace h := bs h
  obtain ⟨v3, hv3, h⟩ := h
  replace h := bs h
  obtain ⟨v4, hv4, h⟩ := h
  refine k_sreg (r_gq [(0, .d false [.sl none (a0.map (eF eI))]), (1, .p (iV a1)), (6, .ov false [.sl (some 3) (v4.1.map eI)]), (7, .p (.bool v4.2))] [(1, {call := some (none, [.ov false [.sl (some 22) (v3.map (eO 3 eI))]], true)}), (3, {call := some (some [.d false [.sl none (v3.map (eF eI))], wI a1], [.ov false [.sl (some 3) (v4.1.map eI)], .p (.bool v4.2)], true)})] (A5 (wk_laws_toIntSS hv3) (show List.all [.ov false [.sl (some 22) (v3.map (eO 3 eI))]] simpleR = true from (sa_o (wnR1 (wnL_enc (wn_O wn_I)) rfl) rfl)) (show ([.d false [.sl none (eraL (v3.map (eO 3 eI)))], wI a1] : List Arg) = [.d false [.sl none (v3.map (eF eI))], wI a1] from (by simp only [eraL_enc (h := (eF eI)) (era_O er_I)])) (wk_spec_WalkVector hv4) (show List.all [.ov false [.sl (some 3) (v4.1.map eI)], .p (.bool v4.2)] simpleR = true from (sa_o (wnR1 (wnL_enc wn_I) rfl) (sa_p rfl))))) ?_
  replace h := bs h
  obtain ⟨v5, hv5, h⟩ := h
  refine k_sreg (r_gq [(0, .d false [.sl none (a0.map (eF eI))]), (1, .p (iV a1)), (6, .ov false [.sl (some 3) (v4.1.map eI)]), (7, .p (.bool v4.2)), (8, .ov false [.sl (some 22) (v5.map (eO 3 eI))])] [(1, {call := some (none, [.ov false [.sl (some 22) (v5.map (eO 3 eI))]], true)})] (A2 (wk_laws_toIntSS hv5) (show List.all [.ov false [.sl (some 22) (v5.map (eO 3 eI))]] simpleR = true from (sa_o (wnR1 (wnL_enc (wn_O wn_I)) rfl) rfl)))) ?_
  replace h := bs h
  obtain ⟨v6, hv6, h⟩ := h
  refine k_sreg (r_gq [(0, .d false [.sl none (a0.map (eF eI))]), (1, .p (iV a1)), (6, .ov false [.sl (some 3) (v4.1.map eI)]), (7, .p (.bool v4.2)), (8, .ov false [.sl (some 22) (v5.map (eO 3 eI))]), (9, .ov false [.sl (some 3) (v6.1.map eI)]), (10, .p (.bool v6.2))] [(2, {call := some (some [.d false [.sl none (v5.map (eF eI))], wI a1], [.ov false [.sl (some 3) (v6.1.map eI)], .p (.bool v6.2)], true)})] (A3 (show ([.d false [.sl none (eraL (v5.map (eO 3 eI)))], wI a1] : List Arg) = [.d false [.sl none (v5.map (eF eI))], wI a1] from (by simp only [eraL_enc (h := (eF eI)) (era_O er_I)])) (wk_impl_WalkVectorO hv6) (show List.all [.ov false [.sl (some 3) (v6.1.map eI)], .p (.bool v6.2)] simpleR = true from (sa_o (wnR1 (wnL_enc wn_I) rfl) (sa_p rfl))))) ?_
  refine k_seq ?_
  replace h := bs h
  obtain ⟨v7, hv7, h⟩ := h
  refine k_sreg (l1 := [(0, .d false [.sl none (a0.map (eF eI))]), (1, .p (iV a1)), (6, .ov false [.sl (some 3) (v4.1.map eI)]), (7, .p (.bool v4.2)), (8, .ov false [.sl (some 22) (v5.map (eO 3 eI))]), (9, .ov false [.sl (some 3) (v6.1.map eI)]), (10, .p (.bool v6.2)), (44, .p (.bool ((!v7) || (!(v6.2 == v4.2)))))]) ?_ ?_
  ·rcases ft (!v7) with ha1 | ha1
   ·exact RegOk.of_eq (l2 := [(0, .d false [.sl none (a0.map (eF eI))]), (1, .p (iV a1)), (6, .ov false [.sl (some 3) (v4.1.map eI)]), (7, .p (.bool v4.2)), (8, .ov false [.sl (some 22) (v5.map (eO 3 eI))]), (9, .ov false [.sl (some 3) (v6.1.map eI)]), (10, .p (.bool v6.2)), (44, .p (.bool ((!v7) || (!(v6.2 == v4.2)))))]) (r_gq [(0, .d false [.sl none (a0.map (eF eI))]), (1, .p (iV a1)), (6, .ov false [.sl (some 3) (v4.1.map eI)]), (7, .p (.bool v4.2)), (8, .ov false [.sl (some 22) (v5.map (eO 3 eI))]), (9, .ov false [.sl (some 3) (v6.1.map eI)]), (10, .p (.bool v6.2)), (44, .p (.bool true))] [(2, {call := some (some [.d false [.sl none (v6.1.map eI)], .d false [.sl none (v4.1.map eI)]], [.p (.bool v7)], true)}), (5, gT), (6, gT), (7, gT), (8, bT)] (A6 (show ([.d false [.sl none (eraL (v6.1.map eI))], .d false [.sl none (eraL (v4.1.map eI))]] : List Arg) = [.d false [.sl none (v6.1.map eI)], .d false [.sl none (v4.1.map eI)]] from (by simp only [eraL_enc (h := eI) er_I, eraL_enc (h := eI) er_I])) (wk_laws_eqIntS hv7) ha1 ha1 ha1 ha1)) (by simp [ha1])
   ·exact RegOk.of_eq (l2 := [(0, .d false [.sl none (a0.map (eF eI))]), (1, .p (iV a1)), (6, .ov false [.sl (some 3) (v4.1.map eI)]), (7, .p (.bool v4.2)), (8, .ov false [.sl (some 22) (v5.map (eO 3 eI))]), (9, .ov false [.sl (some 3) (v6.1.map eI)]), (10, .p (.bool v6.2)), (44, .p (.bool ((!v7) || (!(v6.2 == v4.2)))))]) (r_gq [(0, .d false [.sl none (a0.map (eF eI))]), (1, .p (iV a1)), (6, .ov false [.sl (some 3) (v4.1.map eI)]), (7, .p (.bool v4.2)), (8, .ov false [.sl (some 22) (v5.map (eO 3 eI))]), (9, .ov false [.sl (some 3) (v6.1.map eI)]), (10, .p (.bool v6.2)), (44, .p (.bool (!(v6.2 == v4.2))))] [(2, {call := some (some [.d false [.sl none (v6.1.map eI)], .d false [.sl none (v4.1.map eI)]], [.p (.bool v7)], true)}), (5, gF), (6, gF), (7, gF), (8, bF)] (A6 (show ([.d false [.sl none (eraL (v6.1.map eI))], .d false [.sl none (eraL (v4.1.map eI))]] : List Arg) = [.d false [.sl none (v6.1.map eI)], .d false [.sl none (v4.1.map eI)]] from (by simp only [eraL_enc (h := eI) er_I, eraL_enc (h := eI) er_I])) (wk_laws_eqIntS hv7) ha1 ha1 ha1 ha1)) (by simp [ha1])
  ·refine kc ((!v7) || (!(v6.2 == v4.2))) (fun hc2_7 => ?_) (fun hc2_7 => ?_)
   ·replace h := ite_t hc2_7 h
    refine k_sreg (r_gq [(4, .p (.bool false))] [] trivial) ?_
    refine k_ret ?_
    refine q_r ?_
    obtain rfl := oi h
    exact er [(.p (.bool false), 4)]
   ·replace h := ite_f hc2_7 h
    refine k_skip ?_
    refine q_n ?_
    refine k_seq ?_
    replace h := bs h
    obtain ⟨v9, hv9, h⟩ := h
    replace h := bs h
    obtain ⟨v10, hv10, h⟩ := h
    refine k_sreg (r_gq [(0, .d false [.sl none (a0.map (eF eI))]), (1, .p (iV a1)), (6, .ov false [.sl (some 3) (v4.1.map eI)]), (7, .p (.bool v4.2)), (8, .ov false [.sl (some 22) (v5.map (eO 3 eI))]), (9, .ov false [.sl (some 3) (v6.1.map eI)]), (10, .p (.bool v6.2)), (49, .p (.bool (!v10)))] [(2, {call := some (none, [.ov false [.sl (some 22) (v9.map (eO 3 eI))]], true)}), (3, {call := some (some [.d false [.sl none (v5.map (eF eI))], .d false [.sl none (v9.map (eF eI))]], [.p (.bool v10)], true)})] (A4 (wk_laws_toIntSS hv9) (show List.all [.ov false [.sl (some 22) (v9.map (eO 3 eI))]] simpleR = true from (sa_o (wnR1 (wnL_enc (wn_O wn_I)) rfl) rfl)) (show ([.d false [.sl none (eraL (v5.map (eO 3 eI)))], .d false [.sl none (eraL (v9.map (eO 3 eI)))]] : List Arg) = [.d false [.sl none (v5.map (eF eI))], .d false [.sl none (v9.map (eF eI))]] from (by simp only [eraL_enc (h := (eF eI)) (era_O er_I), eraL_enc (h := (eF eI)) (era_O er_I)])) (wk_laws_eqIntSS hv10))) ?_
    refine kc (!v10) (fun hc2_10 => ?_) (fun hc2_10 => ?_)
    ·replace h := ite_t hc2_10 h
     refine k_sreg (r_gq [(4, .p (.bool false))] [] trivial) ?_
     refine k_ret ?_
     refine q_r ?_
     obtain rfl := oi h
     exact er [(.p (.bool false), 4)]
    ·replace h := ite_f hc2_10 h
     refine k_skip ?_
     refine q_n ?_
     refine k_sreg (r_gq [(0, .d false [.sl none (a0.map (eF eI))]), (1, .p (iV a1)), (6, .ov false [.sl (some 3) (v4.1.map eI)]), (7, .p (.bool v4.2)), (8, .ov false [.sl (some 22) (v5.map (eO 3 eI))]), (9, .ov false [.sl (some 3) (v6.1.map eI)]), (10, .p (.bool v6.2)), (11, .p (iV 1))] [] trivial) ?_
     replace h := bs h
     obtain ⟨v12, hv12, h⟩ := h
     refine k_sreg (r_gq [(0, .d false [.sl none (a0.map (eF eI))]), (1, .p (iV a1)), (6, .ov false [.sl (some 3) (v4.1.map eI)]), (7, .p (.bool v4.2)), (9, .ov false [.sl (some 3) (v6.1.map eI)]), (10, .p (.bool v6.2)), (11, .p (iV v12.1))] [(2, {lend := some (none, [.p (iV v12.1)], .ov false [.sl (some 22) (v12.2.map (eO 3 eI))], true)})] (A2 (wk_laws_markIntSS hv12) (show (List.all [.p (iV v12.1)] simpleR && wnS (.ov false [.sl (some 22) (v12.2.map (eO 3 eI))])) = true from (ls_t rfl (wnR1 (wnL_enc (wn_O wn_I)) rfl))))) ?_
     refine k_seq ?_
     replace h := bs h
     obtain ⟨w14, hw14, h⟩ := h
     refine k_sreg (l1 := [(0, .d false [.sl none (a0.map (eF eI))]), (1, .p (iV a1)), (6, .ov false [.sl (some 3) (v4.1.map eI)]), (7, .p (.bool v4.2)), (9, .ov false [.sl (some 3) (v6.1.map eI)]), (65, .p (.bool w14))]) ?_ ?_
     ·clear h
      rcases ft (decide (v12.1 < 0)) with ha3 | ha3
      ·replace hw14 := ite_t ha3 hw14
       have hw14 := oi hw14
       subst hw14
       exact (r_gq [(0, .d false [.sl none (a0.map (eF eI))]), (1, .p (iV a1)), (6, .ov false [.sl (some 3) (v4.1.map eI)]), (7, .p (.bool v4.2)), (9, .ov false [.sl (some 3) (v6.1.map eI)]), (65, .p (.bool true))] [(3, gT), (4, gT), (5, gT), (6, gT), (7, bT), (9, gT), (10, gT), (11, gT), (12, bT)] (B6 ha3 ha3 ha3 ha3 ha3 (show true = true from rfl) (A3 (show true = true from rfl) (show true = true from rfl) (show true = true from rfl))))
      ·replace hw14 := ite_f ha3 hw14
       replace hw14 := bs hw14
       obtain ⟨v13, hv13, hw14⟩ := hw14
       rcases ft (!v13) with ha4 | ha4
       ·replace hw14 := ite_t ha4 hw14
        have hw14 := oi hw14
        subst hw14
        exact (r_gq [(0, .d false [.sl none (a0.map (eF eI))]), (1, .p (iV a1)), (6, .ov false [.sl (some 3) (v4.1.map eI)]), (7, .p (.bool v4.2)), (9, .ov false [.sl (some 3) (v6.1.map eI)]), (65, .p (.bool true))] [(3, gF), (4, gF), (5, {g := some false, call := some (some [.d false [.sl none (v6.1.map eI)], .d false [.sl none (v4.1.map eI)]], [.p (.bool v13)], true)}), (6, gF), (7, bF), (9, gT), (10, gT), (11, gT), (12, bT)] (B6 ha3 ha3 ha3 (show ([.d false [.sl none (eraL (v6.1.map eI))], .d false [.sl none (eraL (v4.1.map eI))]] : List Arg) = [.d false [.sl none (v6.1.map eI)], .d false [.sl none (v4.1.map eI)]] from (by simp only [eraL_enc (h := eI) er_I, eraL_enc (h := eI) er_I])) (wk_laws_eqIntS hv13) ha3 (A5 ha3 ha4 ha4 ha4 ha4)))
       ·replace hw14 := ite_f ha4 hw14
        have hw14 := oi hw14
        subst hw14
        exact (r_gq [(0, .d false [.sl none (a0.map (eF eI))]), (1, .p (iV a1)), (6, .ov false [.sl (some 3) (v4.1.map eI)]), (7, .p (.bool v4.2)), (9, .ov false [.sl (some 3) (v6.1.map eI)]), (65, .p (.bool (!(v6.2 == v4.2))))] [(3, gF), (4, gF), (5, {g := some false, call := some (some [.d false [.sl none (v6.1.map eI)], .d false [.sl none (v4.1.map eI)]], [.p (.bool v13)], true)}), (6, gF), (7, bF), (9, gF), (10, gF), (11, gF), (12, bF)] (B6 ha3 ha3 ha3 (show ([.d false [.sl none (eraL (v6.1.map eI))], .d false [.sl none (eraL (v4.1.map eI))]] : List Arg) = [.d false [.sl none (v6.1.map eI)], .d false [.sl none (v4.1.map eI)]] from (by simp only [eraL_enc (h := eI) er_I, eraL_enc (h := eI) er_I])) (wk_laws_eqIntS hv13) ha3 (A5 ha3 ha4 ha4 ha4 ha4)))
     ·refine kc w14 (fun hc2_14 => ?_) (fun hc2_14 => ?_)
      ·replace h := ite_t hc2_14 h
       refine k_sreg (r_gq [(4, .p (.bool false))] [] trivial) ?_
       refine k_ret ?_
       refine q_r ?_
       obtain rfl := oi h
       exact er [(.p (.bool false), 4)]
      ·replace h := ite_f hc2_14 h
       refine k_skip ?_
       refine q_n ?_
       refine k_sreg (r_gq [(0, .d false [.sl none (a0.map (eF eI))]), (1, .p (iV a1)), (6, .ov false [.sl (some 3) (v4.1.map eI)]), (7, .p (.bool v4.2)), (9, .ov false [.sl (some 3) (v6.1.map eI)]), (12, .p (iV 1))] [] trivial) ?_
       replace h := bs h
       obtain ⟨v16, hv16, h⟩ := h
       refine k_sreg (r_gq [(0, .d false [.sl none (a0.map (eF eI))]), (1, .p (iV a1)), (6, .ov false [.sl (some 3) (v4.1.map eI)]), (7, .p (.bool v4.2)), (9, .ov false [.sl (some 3) (v16.2.map eI)]), (12, .p (iV v16.1))] [(2, {lend := some (none, [.p (iV v16.1)], .ov false [.sl (some 3) (v16.2.map eI)], true)})] (A2 (wk_laws_markIntS hv16) (show (List.all [.p (iV v16.1)] simpleR && wnS (.ov false [.sl (some 3) (v16.2.map eI)])) = true from (ls_t rfl (wnR1 (wnL_enc wn_I) rfl))))) ?_
       refine k_sreg (r_gq [(0, .d false [.sl none (a0.map (eF eI))]), (1, .p (iV a1)), (6, .ov false [.sl (some 3) (v4.1.map eI)]), (7, .p (.bool v4.2)), (9, .ov false [.sl (some 3) (v16.2.map eI)]), (12, .p (iV v16.1)), (13, .p (iV 1))] [] trivial) ?_
       replace h := bs h
       obtain ⟨v17, hv17, h⟩ := h
       refine k_sreg (r_gq [(0, .d false [.sl none (a0.map (eF eI))]), (1, .p (iV a1)), (6, .ov false [.sl (some 3) (v4.1.map eI)]), (7, .p (.bool v4.2)), (9, .ov false [.sl (some 3) (v16.2.map eI)]), (12, .p (iV v16.1)), (13, .p (iV v17))] [(2, {call := some (some [.d false [.sl none (v16.2.map eI)], wI 1], [.p (iV v17)], true)})] (A2 (show ([.d false [.sl none (eraL (v16.2.map eI))], wI 1] : List Arg) = [.d false [.sl none (v16.2.map eI)], wI 1] from (by simp only [eraL_enc (h := eI) er_I])) (wk_laws_heldIntS hv17))) ?_
       refine k_seq ?_
       refine k_sreg (r_gq [(0, .d false [.sl none (a0.map (eF eI))]), (1, .p (iV a1)), (6, .ov false [.sl (some 3) (v4.1.map eI)]), (7, .p (.bool v4.2)), (9, .ov false [.sl (some 3) (v16.2.map eI)]), (12, .p (iV v16.1)), (13, .p (iV v17)), (73, .p (.bool (decide (v17 < 0))))] [] trivial) ?_
       refine kc (decide (v17 < 0)) (fun hc2_17 => ?_) (fun hc2_17 => ?_)
       ·replace h := ite_t hc2_17 h
        refine k_sreg (r_gq [(4, .p (.bool false))] [] trivial) ?_
        refine k_ret ?_
        refine q_r ?_
        obtain rfl := oi h
        exact er [(.p (.bool false), 4)]
       ·replace h := ite_f hc2_17 h
        refine k_skip ?_
        refine q_n ?_
        refine k_seq ?_
        refine k_sreg (r_gq [(0, .d false [.sl none (a0.map (eF eI))]), (1, .p (iV a1)), (6, .ov false [.sl (some 3) (v4.1.map eI)]), (7, .p (.bool v4.2)), (9, .ov false [.sl (some 3) (v16.2.map eI)]), (12, .p (iV v16.1)), (76, .p (.bool (v17 != v16.1)))] [] trivial) ?_
        refine kc (v17 != v16.1) (fun hc2_18 => ?_) (fun hc2_18 => ?_)
        ·replace h := ite_t hc2_18 h
         refine k_sreg (r_gq [(4, .p (.bool false))] [] trivial) ?_
         refine k_ret ?_
         refine q_r ?_
         obtain rfl := oi h
         exact er [(.p (.bool false), 4)]
        ·replace h := ite_f hc2_18 h
         refine k_skip ?_
         refine q_n ?_
         replace h := bs h
         obtain ⟨v20, hv20, h⟩ := h
         replace h := bs h
         obtain ⟨v21, hv21, h⟩ := h
         refine k_sreg (r_gq [(6, .ov false [.sl (some 3) (v4.1.map eI)]), (7, .p (.bool v4.2)), (9, .ov false [.sl (some 3) (v16.2.map eI)]), (12, .p (iV v16.1)), (14, .ov false [.sl (some 3) (v21.1.map eI)]), (15, .p (.bool v21.2))] [(1, {call := some (none, [.ov false [.sl (some 22) (v20.map (eO 3 eI))]], true)}), (3, {call := some (some [.d false [.sl none (v20.map (eF eI))], wI a1], [.ov false [.sl (some 3) (v21.1.map eI)], .p (.bool v21.2)], true)})] (A5 (wk_laws_toIntSS hv20) (show List.all [.ov false [.sl (some 22) (v20.map (eO 3 eI))]] simpleR = true from (sa_o (wnR1 (wnL_enc (wn_O wn_I)) rfl) rfl)) (show ([.d false [.sl none (eraL (v20.map (eO 3 eI)))], wI a1] : List Arg) = [.d false [.sl none (v20.map (eF eI))], wI a1] from (by simp only [eraL_enc (h := (eF eI)) (era_O er_I)])) (wk_impl_WalkVectorO hv21) (show List.all [.ov false [.sl (some 3) (v21.1.map eI)], .p (.bool v21.2)] simpleR = true from (sa_o (wnR1 (wnL_enc wn_I) rfl) (sa_p rfl))))) ?_
         refine k_seq ?_
         replace h := bs h
         obtain ⟨v22, hv22, h⟩ := h
         refine k_sreg (l1 := [(9, .ov false [.sl (some 3) (v16.2.map eI)]), (12, .p (iV v16.1)), (92, .p (.bool ((!v22) || (!(v21.2 == v4.2)))))]) ?_ ?_
         ·rcases ft (!v22) with ha6 | ha6
          ·exact RegOk.of_eq (l2 := [(9, .ov false [.sl (some 3) (v16.2.map eI)]), (12, .p (iV v16.1)), (92, .p (.bool ((!v22) || (!(v21.2 == v4.2)))))]) (r_gq [(9, .ov false [.sl (some 3) (v16.2.map eI)]), (12, .p (iV v16.1)), (92, .p (.bool true))] [(2, {call := some (some [.d false [.sl none (v21.1.map eI)], .d false [.sl none (v4.1.map eI)]], [.p (.bool v22)], true)}), (5, gT), (6, gT), (7, gT), (8, bT)] (A6 (show ([.d false [.sl none (eraL (v21.1.map eI))], .d false [.sl none (eraL (v4.1.map eI))]] : List Arg) = [.d false [.sl none (v21.1.map eI)], .d false [.sl none (v4.1.map eI)]] from (by simp only [eraL_enc (h := eI) er_I, eraL_enc (h := eI) er_I])) (wk_laws_eqIntS hv22) ha6 ha6 ha6 ha6)) (by simp [ha6])
          ·exact RegOk.of_eq (l2 := [(9, .ov false [.sl (some 3) (v16.2.map eI)]), (12, .p (iV v16.1)), (92, .p (.bool ((!v22) || (!(v21.2 == v4.2)))))]) (r_gq [(9, .ov false [.sl (some 3) (v16.2.map eI)]), (12, .p (iV v16.1)), (92, .p (.bool (!(v21.2 == v4.2))))] [(2, {call := some (some [.d false [.sl none (v21.1.map eI)], .d false [.sl none (v4.1.map eI)]], [.p (.bool v22)], true)}), (5, gF), (6, gF), (7, gF), (8, bF)] (A6 (show ([.d false [.sl none (eraL (v21.1.map eI))], .d false [.sl none (eraL (v4.1.map eI))]] : List Arg) = [.d false [.sl none (v21.1.map eI)], .d false [.sl none (v4.1.map eI)]] from (by simp only [eraL_enc (h := eI) er_I, eraL_enc (h := eI) er_I])) (wk_laws_eqIntS hv22) ha6 ha6 ha6 ha6)) (by simp [ha6])
         ·refine kc ((!v22) || (!(v21.2 == v4.2))) (fun hc2_22 => ?_) (fun hc2_22 => ?_)
          ·replace h := ite_t hc2_22 h
           refine k_sreg (r_gq [(4, .p (.bool false))] [] trivial) ?_
           refine k_ret ?_
           refine q_r ?_
           obtain rfl := oi h
           exact er [(.p (.bool false), 4)]
          ·replace h := ite_f hc2_22 h
           refine k_skip ?_
           refine q_n ?_
           refine k_sreg (r_gq [(9, .ov false [.sl (some 3) (v16.2.map eI)]), (12, .p (iV v16.1)), (13, .p (iV 1))] [] trivial) ?_
           replace h := bs h
           obtain ⟨v24, hv24, h⟩ := h
           refine k_sreg (r_gq [(12, .p (iV v16.1)), (13, .p (iV v24))] [(2, {call := some (some [.d false [.sl none (v16.2.map eI)], wI 1], [.p (iV v24)], true)})] (A2 (show ([.d false [.sl none (eraL (v16.2.map eI))], wI 1] : List Arg) = [.d false [.sl none (v16.2.map eI)], wI 1] from (by simp only [eraL_enc (h := eI) er_I])) (wk_laws_heldIntS hv24))) ?_
           refine k_seq ?_
           refine k_sreg (r_gq [(12, .p (iV v16.1)), (13, .p (iV v24)), (97, .p (.bool (decide (v24 < 0))))] [] trivial) ?_
           refine kc (decide (v24 < 0)) (fun hc2_24 => ?_) (fun hc2_24 => ?_)
           ·replace h := ite_t hc2_24 h
            refine k_sreg (r_gq [(4, .p (.bool false))] [] trivial) ?_
            refine k_ret ?_
            refine q_r ?_
            obtain rfl := oi h
            exact er [(.p (.bool false), 4)]
           ·replace h := ite_f hc2_24 h
            refine k_skip ?_
            refine q_n ?_
            refine k_seq ?_
            refine k_sreg (r_gq [(100, .p (.bool (v24 != v16.1)))] [] trivial) ?_
            refine kc (v24 != v16.1) (fun hc2_25 => ?_) (fun hc2_25 => ?_)
            ·replace h := ite_t hc2_25 h
             refine k_sreg (r_gq [(4, .p (.bool false))] [] trivial) ?_
             refine k_ret ?_
             refine q_r ?_
             obtain rfl := oi h
             exact er [(.p (.bool false), 4)]
            ·replace h := ite_f hc2_25 h
             refine k_skip ?_
             refine q_n ?_
             refine k_sreg (r_gq [(4, .p (.bool true))] [] trivial) ?_
             refine k_ret ?_
             obtain rfl := oi h
             exact er [(.p (.bool true), 4)]
end Go.PV
